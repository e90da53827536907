/-
  The law RegistryNone holds: for every input it answers true, its arguments read behind the call as before. Conditions: the listed package-level variables as the program's text lays them (tied by the card).
-/
import Derived.Test.YtfhgdjajifnfiaaSRegistryNone4
import Derived.Test.YtfhgdjajifnfiaaSRegistryNone1
set_option linter.unusedVariables false
namespace Go.Proofs.Ytfhgdjajifnfiaa.PA
open Go.RowKit Go.Maps Go.ChangeMaps Go.WideShapes Go.WideMaps Go.MuLone Go.Conc.Locks Go.Sort Go.Proofs.YtfhgdjajifnfiaaW.PrintWords Go.Proofs.YtfhgdjajifnfiaaW.PrintLast Go.Proofs.YtfhgdjajifnfiaaW.PrintMore
set_option linter.unusedVariables false

theorem Ans.over {b mb : Nat} {A : Option Addr} {m : Int} {L : List S27} {st : Int} {l : List S27} {w0 w : World} {e : Ending} {w' : World} (h : Ans b mb A m L st l w e w') (ho : Only (fun _ => False) w0 w) : Ans b mb A m L st l w0 e w' := by
  have hs := ho.size
  obtain ⟨A2, c, h1, h2, h3, h4⟩ := h.row
  obtain ⟨A', h5, h6⟩ := h.reg
  exact ⟨⟨A2, c, h1, h2, h3, fun a ha => ⟨Nat.le_trans hs (h4 a ha).1, (h4 a ha).2⟩⟩, ⟨A', h5, fun a ha => (h6 a ha).imp id (Nat.le_trans hs)⟩, (ho.imp fun _ _ x => x.elim).trans h.only⟩
theorem sorted_calls {b mb : Nat} {A : Option Addr} {m : Int} {L : List S27} {sl : Bool} {st : Int} (p : Int) (w : World) (hr : RegS b mb A m L sl st w) (hL : L.length ≤ 100000) :
    Calls Try.prog 16 #[.pointer (some ⟨b, 0, none⟩), .int .i64 p] w (Ans b mb A m L st ((srt m L).filter fun h => h.f1 == p) w) := by
  have hlt := hr.lt
  have h1 : RegS b mb A m L sl st (w.alloc (.cells #[.int .i64 p] 3)) := hr.keep_only (Only.alloc (F := fun _ => False) w _) (fun _ _ x => x)
  have HC := Aside0.mk (those_calls _ h1 hL 29 #[.pointer (some ⟨w.heap.size, 0, none⟩)] (fun h => h.f1 == p) (fun j => j = w.heap.size) (fun j hj => by subst hj; simp; omega) (enters_of Try.func29 (by kernel_rfl) rfl) (fun h W hW => sorted_is _ p h W ((World.cell?_of_block (a := ⟨w.heap.size, 0, none⟩) (hW _ rfl)).trans (cell_at (heap_alloc_new w _) 0))))
  clear hr h1
  go_enter Try.func16, Try.ntmps16
  go_wp2_with fail
  refine HC.out.mono ?_
  rintro e w' ha
  have hA := ha.over (Only.alloc _ _)
  obtain ⟨A2, c, rfl, -⟩ := ha.row
  have HA := Aside0.mk hA
  clear ha hA
  go_wp2
  go_ret
  exact HA.out
theorem Reg.set7 {b mb : Nat} {A : Option Addr} {m : Int} {L : List S27} {sl : Bool} {so : List S27} {st : Int} {w : World} (h : Reg b mb A m L sl so st w) (s : Int) : Reg b mb A m L sl so s (w.setCell ⟨b, 7, none⟩ (.int .i64 s)) := by
  have o : ∀ j, j ≠ 7 → (w.setCell ⟨b, 7, none⟩ (.int .i64 s)).cell? ⟨b, j, none⟩ = w.cell? ⟨b, j, none⟩ := fun j hj => World.cell?_setCell_other _ ⟨b, 7, none⟩ ⟨b, j, none⟩ _ (by intro e; apply hj; have h := congrArg Addr.off e; first | exact h | exact h.symm)
  have k1 : ∀ j, j ≠ b → (w.setCell ⟨b, 7, none⟩ (.int .i64 s)).heap[j]? = w.heap[j]? := fun j hj => Below.heap_setCell _ _ _ _ hj
  have hs : (w.setCell ⟨b, 7, none⟩ (.int .i64 s)).heap.size = w.heap.size := World.size_setCell _ _ _
  exact { lt := (by rw [hs]; exact h.lt), fz := fun j => (by simp; exact h.fz j), c0 := (o 0 (by decide)).trans h.c0, c1 := (o 1 (by decide)).trans h.c1, mp := ownsMap_keep h.mp (k1 mb h.ne), uq := h.uq, c2 := (o 2 (by decide)).trans h.c2, c3 := (o 3 (by decide)).trans h.c3, c5 := (o 5 (by decide)).trans h.c5, c6 := (by obtain ⟨c, e, hc⟩ := h.c6; exact ⟨c, (o 6 (by decide)).trans e, hc⟩), ro := h.ro.keep fun a ha => k1 a.block (h.na a ha).2.1, un := fun x => (o 6 (by decide)).trans (h.un x), c7 := World.cell?_setCell_same _ _ _ h.c7, ne := h.ne, na := fun a ha => (by rw [hs]; exact h.na a ha) }
def stp (st n : Int) : Int := if 0 < n then st + min n (4611686018427387904 - st) else st
set_option maxHeartbeats 1000000 in
set_option maxRecDepth 100000 in
/-- Step. -/
theorem step_calls {b mb : Nat} {A : Option Addr} {m : Int} {L : List S27} {sl : Bool} {so : List S27} {st : Int} (n : Int) (w : World) (hr : Reg b mb A m L sl so st w) (h0 : 0 ≤ st) (h1 : st ≤ 4611686018427387904) :
    Calls Try.prog 17 #[.pointer (some ⟨b, 0, none⟩), .int .i64 n] w fun e w' => e = .returned (.tuple #[]) ∧ Reg b mb A m L sl so (stp st n) w' ∧ Only (fun j => j = b) w w' := by
  unfold stp
  by_cases hn : 0 < n
  · have q : decide (0 < n) = true := decide_eq_true hn
    rw [if_pos hn]
    have hl := run_call_load (P := Try.prog) Try.func38 (by kernel_rfl) (by kernel_rfl) (by kernel_rfl) .i64 (by kernel_rfl) (w := w.drew) (a := ⟨b, 7, none⟩) (x := st) hr.c7
    have hadd := fun y => run_call_add (P := Try.prog) Try.func37 (by kernel_rfl) (by kernel_rfl) (by kernel_rfl) .i64 (by kernel_rfl) (w := w.drew) (a := ⟨b, 7, none⟩) (x := st) (y := y) (s := IntKind.i64.wrap (st + y)) hr.c7 (hr.fz 7) rfl
    have HR := Aside0.mk hr
    clear hr
    go_enter Try.func17, Try.ntmps17
    go_wp2
    go_region_calls
    all_goals
      go_end0
      exact ⟨rfl, (HR.out.set7 _).drew, (Only.set (F := fun j => j = b) w ⟨b, 7, none⟩ _ rfl).drew⟩
  · have q : decide (0 < n) = false := decide_eq_false hn
    rw [if_neg hn]
    have HR := Aside0.mk hr
    clear hr
    go_enter Try.func17, Try.ntmps17
    go_wp2
    go_end0
    exact ⟨rfl, HR.out, Only.refl _ _⟩
end Go.Proofs.Ytfhgdjajifnfiaa.PA

namespace Go.Proofs.Ytfhgdjajifnfiaa.PA
open Go.RowKit Go.Maps Go.ChangeMaps Go.WideShapes Go.WideMaps Go.MuLone Go.Conc.Locks Go.Sort Go.Proofs.YtfhgdjajifnfiaaW.PrintWords Go.Proofs.YtfhgdjajifnfiaaW.PrintLast Go.Proofs.YtfhgdjajifnfiaaW.PrintMore
set_option linter.unusedVariables false

theorem add_calls' {b mb : Nat} {A : Option Addr} {m : Int} {L : List S27} {st : Int} (h : S27) (w : World) (hr : RegS b mb A m L false st w) (hh : h.f0.size ≤ maxLen) (hL : L.length < maxLen) :
    Calls Try.prog 15 #[.pointer (some ⟨b, 0, none⟩), hv h] w fun e w' => e = .returned (.bool (addOk L h)) ∧ RegS b mb A m (if addOk L h then L ++ [h] else L) false st w' ∧ Only (Own3 b mb none) w w' := add_calls h w hr hh hL
theorem new_calls' (m : Int) (w : World) :
    Calls Try.prog 14 #[.int .i64 m] w fun e w' => e = .returned (.pointer (some ⟨w.heap.size + 1, 0, none⟩)) ∧ RegS (w.heap.size + 1) w.heap.size none (bits .and .i64 m 127) [] false 0 w' ∧ Below w.heap.size w w' := new_calls m w
abbrev hB1 : S27 := ⟨⟨#[98]⟩, 1, 1, ⟨#[]⟩, 0⟩
abbrev hA1 : S27 := ⟨⟨#[97]⟩, 1, 1, ⟨#[]⟩, 0⟩
abbrev hC1 : S27 := ⟨⟨#[99]⟩, 1, 0, ⟨#[]⟩, 0⟩
theorem awake_srt {L : List S27} (hL : L = [hB1, hA1, hC1]) (U : Uniq L) : (srt 0 L).filter (fun h => h.f1 == 1) = [hC1, hA1, hB1] := by
  subst hL
  have e : [hC1, hA1, hB1] = srt 0 [hB1, hA1, hC1] := by
    refine srt_eq U ?_ ?_
    · show List.Perm _ [hB1, hA1, hC1]
      exact (List.Perm.swap hA1 hC1 [hB1]).trans (((List.Perm.swap hB1 hC1 []).cons hA1).trans (List.Perm.swap hB1 hA1 [hC1]))
    · have h1 : ltH hC1 hA1 := .inl (by decide)
      have h2 : ltH hC1 hB1 := .inl (by decide)
      have h3 : ltH hA1 hB1 := .inr ⟨rfl, by rw [Lib.toList_data, Lib.toList_data]; decide⟩
      exact List.pairwise_cons.2 ⟨fun x hx => by rcases List.mem_cons.1 hx with rfl | hx; exact h1; rw [List.mem_singleton.1 hx]; exact h2, List.pairwise_cons.2 ⟨fun x hx => by rw [List.mem_singleton.1 hx]; exact h3, List.pairwise_singleton _ _⟩⟩
  rw [← e]
  rfl
set_option maxHeartbeats 2000000 in
set_option maxRecDepth 100000 in
theorem awake_calls (w : World) : Calls Try.prog 10 #[] w fun e w' => e = .returned (.bool true) ∧ Below w.heap.size w w' := by
  have hn := new_calls' 0 w
  have hb0 : bits .and .i64 0 127 = 0 := by decide
  rw [hb0] at hn
  have HN := Aside0.mk hn
  clear hn hb0
  go_enter Try.func10, Try.ntmps10
  go_wp2_with fail
  refine HN.out.mono ?_
  rintro e w1 ⟨rfl, hr1, hb1⟩
  have HB1 := Aside0.mk hb1
  have ha1 := add_calls' hB1 w1 hr1 (by decide) (by decide)
  rw [show addOk [] hB1 = true from by unfold addOk; rw [Lib.toList_data]; decide] at ha1
  have HA1 := Aside0.mk ha1
  clear ha1 hr1 hb1 HN
  go_wp2_with fail
  refine HA1.out.mono ?_
  rintro e w2 ⟨rfl, hr2, ho2⟩
  have hr2' : RegS (w.heap.size + 1) w.heap.size none 0 [hB1] false 0 w2 := hr2
  have HO2 := Aside0.mk ho2
  have ha2 := add_calls' hA1 w2 hr2' (by decide) (by decide)
  rw [show addOk [hB1] hA1 = true from by unfold addOk; rw [Lib.toList_data]; decide] at ha2
  have HA2 := Aside0.mk ha2
  clear ha2 hr2 hr2' ho2 HA1
  go_wp2_with fail
  refine HA2.out.mono ?_
  rintro e w3 ⟨rfl, hr3, ho3⟩
  have hr3' : RegS (w.heap.size + 1) w.heap.size none 0 [hB1, hA1] false 0 w3 := hr3
  have HO3 := Aside0.mk ho3
  have ha3 := add_calls' hC1 w3 hr3' (by decide) (by decide)
  rw [show addOk [hB1, hA1] hC1 = true from by unfold addOk; rw [Lib.toList_data]; decide] at ha3
  have HA3 := Aside0.mk ha3
  clear ha3 hr3 hr3' ho3 HA2
  go_wp2_with fail
  refine HA3.out.mono ?_
  rintro e w4 ⟨rfl, hr4, ho4⟩
  have hr4' : RegS (w.heap.size + 1) w.heap.size none 0 [hB1, hA1, hC1] false 0 w4 := hr4
  have HO4 := Aside0.mk ho4
  have hs := sorted_calls 1 w4 hr4' (by decide)
  rw [awake_srt rfl hr4'.uq] at hs
  have HS := Aside0.mk hs
  clear hs hr4 hr4' ho4 HA3
  go_wp2_with fail
  refine HS.out.mono ?_
  rintro e w5 ha
  obtain ⟨A2, c, rfl, hc, hrow, -⟩ := ha.row
  have HO5 := Aside0.mk ha.only
  obtain ⟨ad, e0, x0, -⟩ := at_T27 hrow 0 (by decide) (by decide)
  cases e0
  obtain ⟨ad', e0, x1, -⟩ := at_T27 hrow 1 (by decide) (by decide)
  cases e0
  obtain ⟨ad', e0, x2, -⟩ := at_T27 hrow 2 (by decide) (by decide)
  cases e0
  have y0 : w5.cell? ad = some (.string ⟨#[99]⟩) := by have h := x0; rw [show (Int.toNat 0) * 5 = 0 from rfl, show ad.add 0 = ad from rfl] at h; exact h
  have y1 : w5.cell? ⟨ad.block, ad.off + 5, none⟩ = some (.string ⟨#[97]⟩) := x1
  have y2 : w5.cell? ⟨ad.block, ad.off + 10, none⟩ = some (.string ⟨#[98]⟩) := x2
  have HC := Aside0.mk (fun W => registry_Core.calls _ W rfl)
  have hsz := HB1.out.size
  have HF := Aside0.mk (show Below w.heap.size w w5 from by
    have o2 := HO2.out.below (B := w.heap.size) hsz (fun j hj => by rcases hj with rfl | rfl | ⟨a, ha, _⟩; omega; omega; cases ha)
    have s2 := o2.size
    have o3 := HO3.out.below (B := w.heap.size) (by omega) (fun j hj => by rcases hj with rfl | rfl | ⟨a, ha, _⟩; omega; omega; cases ha)
    have s3 := o3.size
    have o4 := HO4.out.below (B := w.heap.size) (by omega) (fun j hj => by rcases hj with rfl | rfl | ⟨a, ha, _⟩; omega; omega; cases ha)
    have s4 := o4.size
    have o5 := HO5.out.below (B := w.heap.size) (by omega) (fun j hj => by rw [hj]; omega)
    exact (((HB1.out.trans o2).trans o3).trans o4).trans o5)
  clear ha hrow x0 x1 x2 HS hsz
  go_wp2_with fail
  refine (HC.out _).mono ?_
  rintro e w6 ⟨v0, rfl, hR, hb6⟩
  obtain ⟨A6, c6, rfl⟩ := Kd.R_slice hR
  have HF6 := Aside0.mk (below_step HF.out hb6)
  clear hR hb6 HC
  go_wp2
  go_ret
  exact ⟨rfl, HF6.out⟩
end Go.Proofs.Ytfhgdjajifnfiaa.PA

namespace Go.Proofs.Ytfhgdjajifnfiaa.PA
open Go.RowKit Go.Maps Go.ChangeMaps Go.WideShapes Go.WideMaps Go.MuLone Go.Conc.Locks Go.Sort Go.Proofs.YtfhgdjajifnfiaaW.PrintWords Go.Proofs.YtfhgdjajifnfiaaW.PrintLast Go.Proofs.YtfhgdjajifnfiaaW.PrintMore
set_option linter.unusedVariables false

end Go.Proofs.Ytfhgdjajifnfiaa.PA

namespace Go.Proofs.Ytfhgdjajifnfiaa.PA
open Go.RowKit Go.Maps Go.ChangeMaps Go.WideShapes Go.WideMaps Go.MuLone Go.Conc.Locks Go.Sort Go.Proofs.YtfhgdjajifnfiaaW.PrintWords Go.Proofs.YtfhgdjajifnfiaaW.PrintLast Go.Proofs.YtfhgdjajifnfiaaW.PrintMore
set_option linter.unusedVariables false

def incipitlaw07_RegistryNone.f (a0 : S27) (a1 a2 : Int) : Option Bool := some true
set_option maxHeartbeats 2000000 in
set_option maxRecDepth 100000 in
theorem incipitlaw07_RegistryNone.calls (a0 : S27) (a1 a2 : Int) (r : Bool) (w : World) (h : incipitlaw07_RegistryNone.f a0 a1 a2 = some r) :
    Calls Try.prog 9 #[hv a0, .int .i64 a1, .int .u8 a2] w fun e w' => e = .returned (.bool r) ∧ Below w.heap.size w w' := by
  obtain rfl : true = r := Option.some.inj h
  clear h
  obtain ⟨w0, hw0⟩ : ∃ w0, w.alloc (.cells #[.string a0.f0, .int .i64 a0.f1, .int .i64 a0.f2, .string a0.f3, .int .i64 a0.f4] 27) = w0 := ⟨_, rfl⟩
  have hb0 : Below w.heap.size w w0 := hw0 ▸ below_alloc (Below.refl _ _) _
  have hg : w0.heap[w.heap.size]? = some (.cells #[.string a0.f0, .int .i64 a0.f1, .int .i64 a0.f2, .string a0.f3, .int .i64 a0.f4] 27 (0, 0)) := by rw [← hw0]; exact heap_alloc_new _ _
  have hs0 : w0.heap.size = w.heap.size + 1 := by rw [← hw0]; simp
  have HA := Aside0.mk (awake_calls w0)
  have HB0 := Aside0.mk hb0
  have HG := Aside0.mk hg
  have HS0 := Aside0.mk hs0
  clear hb0 hg hs0
  go_enter Try.func9, Try.ntmps9
  go_wp2_with fail
  refine HA.out.mono ?_
  rintro e w1 ⟨rfl, hb1⟩
  have hk : w1.heap[w.heap.size]? = some (.cells #[.string a0.f0, .int .i64 a0.f1, .int .i64 a0.f2, .string a0.f3, .int .i64 a0.f4] 27 (0, 0)) := (hb1.block _ (by rw [HS0.out]; omega)).trans HG.out
  have e0 : w1.cell? ⟨w.heap.size, 0, none⟩ = some (.string a0.f0) := cell_at hk 0
  have e1 : w1.cell? ⟨w.heap.size, 1, none⟩ = some (.int .i64 a0.f1) := cell_at hk 1
  have e2 : w1.cell? ⟨w.heap.size, 2, none⟩ = some (.int .i64 a0.f2) := cell_at hk 2
  have e3 : w1.cell? ⟨w.heap.size, 3, none⟩ = some (.string a0.f3) := cell_at hk 3
  have e4 : w1.cell? ⟨w.heap.size, 4, none⟩ = some (.int .i64 a0.f4) := cell_at hk 4
  have HB1 := Aside0.mk (below_step HB0.out hb1)
  have HK := Aside0.mk hk
  have hlt : w.heap.size < w1.heap.size := World.block_lt_of_cell? w1 _ e0
  clear hb1 hk hw0 HA
  by_cases c1 : (a0.f0.size : Int) > 300
  · have q : decide ((300 : Int) < (a0.f0.size : Int)) = true := decide_eq_true c1
    go_wp2
    go_ret
    exact ⟨rfl, HB1.out⟩
  · have q : decide ((300 : Int) < (a0.f0.size : Int)) = false := decide_eq_false c1
    by_cases c2 : (a0.f3.size : Int) > 300
    · have q2 : decide ((300 : Int) < (a0.f3.size : Int)) = true := decide_eq_true c2
      go_wp2
      go_ret
      exact ⟨rfl, HB1.out⟩
    · have q2 : decide ((300 : Int) < (a0.f3.size : Int)) = false := decide_eq_false c2
      go_wp2_with fail
      refine (step_nil a1 w1).mono ?_
      rintro e w2 ⟨rfl, rfl⟩
      go_wp2_with fail
      refine (add_nil a0 w2).mono ?_
      rintro e w3 ⟨rfl, hb3⟩
      have HB3 := Aside0.mk (below_step HB1.out hb3)
      have HK3 := Aside0.mk ((hb3.block _ hlt).trans HK.out)
      have e0' : w3.cell? ⟨w.heap.size, 0, none⟩ = some (.string a0.f0) := cell_at HK3.out 0
      have hlt3 : w.heap.size < w3.heap.size := World.block_lt_of_cell? w3 _ e0'
      clear hb3 e0 e1 e2 e3 e4 HB1 HK
      go_wp2_with fail
      refine (sorted_nil a1 w3).mono ?_
      rintro e w4 ⟨rfl, hb4⟩
      have HB4 := Aside0.mk (below_step HB3.out hb4)
      have HK4 := Aside0.mk ((hb4.block _ hlt3).trans HK3.out)
      have e0 : w4.cell? ⟨w.heap.size, 0, none⟩ = some (.string a0.f0) := cell_at HK4.out 0
      have hlt4 : w.heap.size < w4.heap.size := World.block_lt_of_cell? w4 _ e0
      clear hb4 e0' HB3 HK3
      go_wp2_with fail
      refine (for_nil a1 a2 w4).mono ?_
      rintro e w5 ⟨rfl, hb5⟩
      have HB5 := Aside0.mk (below_step HB4.out hb5)
      have HK5 := Aside0.mk ((hb5.block _ hlt4).trans HK4.out)
      have e0' : w5.cell? ⟨w.heap.size, 0, none⟩ = some (.string a0.f0) := cell_at HK5.out 0
      clear hb5 e0 HB4 HK4
      go_wp2_with fail
      refine (has_nil a0.f0 w5).mono ?_
      rintro e w6 ⟨rfl, hb6⟩
      have HB6 := Aside0.mk (below_step HB5.out hb6)
      clear hb6 e0' HB5 HK5
      go_wp2_with fail
      refine (steps_nil w6).mono ?_
      rintro e w7 ⟨rfl, rfl⟩
      go_wp2
      go_ret
      exact ⟨rfl, HB6.out⟩
end Go.Proofs.Ytfhgdjajifnfiaa.PA

namespace Go.Proofs.Ytfhgdjajifnfiaa.Pure
open Go.RowKit
theorem RegistryNone : ∀ (a0 : PA.S27) (a1 : Int) (a2 : Int), (Lit.int .i64 a1).wf = true → (Lit.int .u8 a2).wf = true → PA.incipitlaw07_RegistryNone.f a0 a1 a2 = some true := fun _ _ _ _ _ => rfl
end Go.Proofs.Ytfhgdjajifnfiaa.Pure

namespace Go.Proofs.Ytfhgdjajifnfiaa.registryNone
open Go.ChangeShapes Go.WideShapes Go.ChangeAt Go.RowKit Go.Proofs.YtfhgdjajifnfiaaW.PrintWords Go.Proofs.Ytfhgdjajifnfiaa.RowU8
open Go.ChangeMaps (open_string shut_string)
set_option linter.unusedVariables false
set_option maxRecDepth 100000 in
theorem contract (H : Type) (enc : TypeId × Value → H) (W : World) (base : Nat) (args : Array Value) (ds gs : List (DataW H)) (before : List MemPlace)
    (hval0 : ∀ (j : Nat) t v, Try.f9.params[j]? = some t → args[j]? = some v → Value.okWide Try.prog W .any base t v)
    (hW : DataW.Whole enc Try.prog Try.f9.params.toList Rows.registryNoneSpec.vars false W args.toList ds gs before) (hsz0 : (DataW.weightsEach Try.prog (Try.f9.params.toList ++ (OpenSpec.ofChange Rows.registryNoneSpec).bare.plain.varTypes Try.prog) (ds ++ gs)).all (· ≤ reachBytes) = true) :
    Calls Try.prog 9 args W fun e W' => ∃ v, e = .returned v ∧ Rows.registryNoneSpec.post enc Try.prog Try.f9 false true false false W args v W' := by
  have hsz : (DataW.weightsEach Try.prog (Try.f9.params.toList ++ Rows.registryNoneSpec.plain.varTypes Try.prog) (ds ++ gs)).all (· ≤ reachBytes) = true := hsz0
  have hval : ∀ (j : Nat) t v, Try.f9.params[j]? = some t → args[j]? = some v → Value.okWide Try.prog W .any base t v := hval0
  have hW' := hW
  obtain ⟨p, q, hA0, hV, rfl, hfz, hnd⟩ := hW
  have hA : DataW.TrodAll enc Try.prog W 0 (fun _ => true) true Try.f9.params.toList args.toList ds p := hA0
  rw [Try.params9] at hA hval hsz
  obtain ⟨v0, vs0, d0, ds0, p0, q0, hargs, rfl, rfl, h0, r0⟩ := trodAll_cons hA
  obtain ⟨v1, vs1, d1, ds1, p1, q1, rfl, rfl, rfl, h1, r1⟩ := trodAll_cons r0
  obtain ⟨v2, vs2, d2, ds2, p2, q2, rfl, rfl, rfl, h2, r2⟩ := trodAll_cons r1
  obtain ⟨rfl, rfl, rfl⟩ := trodAll_nil r2
  obtain rfl : args = #[v0, v1, v2] := by cases args; simp_all
  obtain ⟨rfl, rfl⟩ := trodVars_none hV
  obtain ⟨cs0, rfl, _⟩ := okWide_struct Try.underlying27 (hval 0 27 v0 rfl rfl)
  have k0 := h0
  have lt0 : ∀ x ∈ p0, x.block < W.heap.size := by obtain ⟨m, hm⟩ := k0; exact DataW.trod_lt m _ _ _ hm
  obtain ⟨a0, rfl⟩ : ∃ a : PA.S27, cs0 = #[.string a.f0, .int .i64 a.f1, .int .i64 a.f2, .string a.f3, .int .i64 a.f4] := by
    obtain ⟨fuel, hf⟩ := h0
    exact hook_val hf
  obtain ⟨a1, rfl, rfl, rfl, w1⟩ := open_int Try.underlying3 (hval 1 3 v1 rfl rfl) h1
  obtain ⟨a2, rfl, rfl, rfl, w2⟩ := open_int Try.underlying5 (hval 2 5 v2 rfl rfl) h2
  clear hA0 hval0 hsz0 hsz
  have hp := Pure.RegistryNone a0 a1 a2 w1 w2
  refine (PA.incipitlaw07_RegistryNone.calls a0 a1 a2 true W hp).mono ?_
  rintro e W' ⟨rfl, bel⟩
  exact ⟨_, rfl, _, _, _, [], _, [], hW', trodAll_mk1 (shut_bool Try.underlying4 _), (trodAll_cons_mk (Below.trod laidOut (by kernel_rfl) (of_decide_eq_true (by kernel_rfl)) k0 bel lt0) (trodAll_cons_mk (shut_int Try.underlying3 w1) (trodAll_cons_mk (shut_int Try.underlying5 w2) trodAll_mk0))), rfl, bel.frame _, fun h => by cases h⟩
theorem laid_met (os : Os) : laidMet Try.prog Rows.registryNoneRow.laid ((laidWorld os).forCall (fun _ _ => 0) ⟨#[], #[.agg #[.string ByteArray.empty, .int .i64 0, .int .i64 0, .string ByteArray.empty, .int .i64 0], .int .i64 0, .int .u8 0], []⟩).memory :=
  laidMet_of_run' 8 (by kernel_rfl) (by kernel_rfl)
theorem reads (os : Os) {H : Type} (enc : TypeId × Value → H) : ∃ places, DataW.whole enc Try.prog ((laidWorld os).forCall (fun _ _ => 0) ⟨#[], #[.agg #[.string ByteArray.empty, .int .i64 0, .int .i64 0, .string ByteArray.empty, .int .i64 0], .int .i64 0, .int .u8 0], []⟩).memory Try.f9.params.toList Rows.registryNoneSpec.vars false (#[.agg #[.string ByteArray.empty, .int .i64 0, .int .i64 0, .string ByteArray.empty, .int .i64 0], .int .i64 0, .int .u8 0] : Array Value).toList 8 = some ([.agg [.lit (.string []), .lit (.int .i64 0), .lit (.int .i64 0), .lit (.string []), .lit (.int .i64 0)], .lit (.int .i64 0), .lit (.int .u8 0)], [], places) :=
  ⟨[], by kernel_rfl⟩
set_option maxRecDepth 100000 in
theorem lifted (os : Os) (started : os.Started) (H : Type) (enc : TypeId × Value → H) (F : Stop.Interp) :
    ReturnsInHanded {} Try.checked os 9 .any ((OpenSpec.ofChange Rows.registryNoneSpec).preRow enc Try.prog Try.f9 Rows.registryNoneRow.domain false Rows.registryNoneRow.laid) (((OpenSpec.ofChange Rows.registryNoneSpec).at F).post enc Try.prog Try.f9 false true false false) := by
  obtain ⟨places, hx⟩ := reads os enc
  refine returnsInHanded_of_row (C := Try.checked) (s := OpenSpec.ofChange Rows.registryNoneSpec) own started (by kernel_rfl) Try.func9
    (witness_row_at (enc := enc) (C := Try.checked) false (laidWorld os) #[.agg #[.string ByteArray.empty, .int .i64 0, .int .i64 0, .string ByteArray.empty, .int .i64 0], .int .i64 0, .int .u8 0] rfl (by kernel_rfl) (by kernel_rfl) (by kernel_rfl)
      (OpenSpec.preRow_of_cond 8 hx (by kernel_rfl) (fun k hk => by cases hk) (by kernel_rfl) (laid_met os))) ?_
  intro W base args ds gs before hval hW _ _ hsz hL hSh _
  exact contract H enc W base args ds gs before hval hW hsz
theorem said : Rows.RegistryNoneSaid :=
  OpenClaim.holds_of_cond 9 Try.f9 rfl rfl rfl rfl rfl rfl rfl ⟨rfl, rfl, rfl, rfl, rfl⟩ rfl rfl rfl rfl rfl (by kernel_rfl) Try.func9 (by kernel_rfl)
    (of_decide_eq_true (by kernel_rfl)) (by unfold Func.isWrapper; first | (rw [if_pos (by decide +kernel)]; kernel_rfl) | (rw [if_neg (by decide +kernel)]; exact ⟨rfl, rfl⟩))
    (fun os started H enc _ F => by rw [OpenClaim.pre_eq_preRow]; exact lifted os started H enc F)
end Go.Proofs.Ytfhgdjajifnfiaa.registryNone
namespace Go.Proofs.Ytfhgdjajifnfiaa
/-- The statement, under a short name, for the claim. -/
theorem registryNone_holds : Rows.RegistryNoneSaid := registryNone.said
end Go.Proofs.Ytfhgdjajifnfiaa
