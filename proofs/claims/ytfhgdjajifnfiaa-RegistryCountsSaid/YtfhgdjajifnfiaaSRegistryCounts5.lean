/-
  The law RegistryCounts holds: for every input it answers true, its arguments read behind the call as before. Conditions: the listed package-level variables as the program's text lays them (tied by the card).
-/
import Derived.Test.YtfhgdjajifnfiaaSRegistryCounts4
import Derived.Test.YtfhgdjajifnfiaaSRegistryCounts1
set_option linter.unusedVariables false
namespace Go.Proofs.Ytfhgdjajifnfiaa.PA
open Go.RowKit Go.Maps Go.ChangeMaps Go.WideShapes Go.WideMaps Go.MuLone Go.Conc.Locks Go.Sort Go.Proofs.YtfhgdjajifnfiaaW.PrintWords Go.Proofs.YtfhgdjajifnfiaaW.PrintLast Go.Proofs.YtfhgdjajifnfiaaW.PrintMore
set_option linter.unusedVariables false

theorem Ans.over {b mb : Nat} {A : Option Addr} {m : Int} {L : List S27} {st : Int} {l : List S27} {w0 w : World} {e : Ending} {w' : World} (h : Ans b mb A m L st l w e w') (ho : Only (fun _ => False) w0 w) : Ans b mb A m L st l w0 e w' := by
  have hs := ho.size
  obtain ⟨A2, c, h1, h2, h3, h4⟩ := h.row
  obtain ⟨A', h5, h6⟩ := h.reg
  exact ⟨⟨A2, c, h1, h2, h3, fun a ha => ⟨Nat.le_trans hs (h4 a ha).1, (h4 a ha).2⟩⟩, ⟨A', h5, fun a ha => (h6 a ha).imp id (Nat.le_trans hs)⟩, (ho.imp fun _ _ x => x.elim).trans h.only⟩
theorem sorted_calls {b mb : Nat} {A : Option Addr} {m : Int} {L : List S27} {sl : Bool} {st : Int} (p : Int) (w : World) (hr : RegS b mb A m L sl st w) (hL : L.length ≤ 100000) :
    Calls Try.prog 16 #[.pointer (some ⟨b, 0, none⟩), .int .i64 p] w (Ans b mb A m L st ((srt m L).filter fun h => h.f1 == p) w) := by
  have hlt := hr.lt
  have h1 : RegS b mb A m L sl st (w.alloc (.cells #[.int .i64 p] 3)) := hr.keep_only (Only.alloc (F := fun _ => False) w _) (fun _ _ x => x)
  have HC := Aside0.mk (those_calls _ h1 hL 29 #[.pointer (some ⟨w.heap.size, 0, none⟩)] (fun h => h.f1 == p) (fun j => j = w.heap.size) (fun j hj => by subst hj; simp; omega) (enters_of Try.func29 (by kernel_rfl) rfl) (fun h W hW => sorted_is _ p h W ((World.cell?_of_block (a := ⟨w.heap.size, 0, none⟩) (hW _ rfl)).trans (cell_at (heap_alloc_new w _) 0))))
  clear hr h1
  go_enter Try.func16, Try.ntmps16
  go_wp2_with fail
  refine HC.out.mono ?_
  rintro e w' ha
  have hA := ha.over (Only.alloc _ _)
  obtain ⟨A2, c, rfl, -⟩ := ha.row
  have HA := Aside0.mk hA
  clear ha hA
  go_wp2
  go_ret
  exact HA.out
theorem Reg.set7 {b mb : Nat} {A : Option Addr} {m : Int} {L : List S27} {sl : Bool} {so : List S27} {st : Int} {w : World} (h : Reg b mb A m L sl so st w) (s : Int) : Reg b mb A m L sl so s (w.setCell ⟨b, 7, none⟩ (.int .i64 s)) := by
  have o : ∀ j, j ≠ 7 → (w.setCell ⟨b, 7, none⟩ (.int .i64 s)).cell? ⟨b, j, none⟩ = w.cell? ⟨b, j, none⟩ := fun j hj => World.cell?_setCell_other _ ⟨b, 7, none⟩ ⟨b, j, none⟩ _ (by intro e; apply hj; have h := congrArg Addr.off e; first | exact h | exact h.symm)
  have k1 : ∀ j, j ≠ b → (w.setCell ⟨b, 7, none⟩ (.int .i64 s)).heap[j]? = w.heap[j]? := fun j hj => Below.heap_setCell _ _ _ _ hj
  have hs : (w.setCell ⟨b, 7, none⟩ (.int .i64 s)).heap.size = w.heap.size := World.size_setCell _ _ _
  exact { lt := (by rw [hs]; exact h.lt), fz := fun j => (by simp; exact h.fz j), c0 := (o 0 (by decide)).trans h.c0, c1 := (o 1 (by decide)).trans h.c1, mp := ownsMap_keep h.mp (k1 mb h.ne), uq := h.uq, c2 := (o 2 (by decide)).trans h.c2, c3 := (o 3 (by decide)).trans h.c3, c5 := (o 5 (by decide)).trans h.c5, c6 := (by obtain ⟨c, e, hc⟩ := h.c6; exact ⟨c, (o 6 (by decide)).trans e, hc⟩), ro := h.ro.keep fun a ha => k1 a.block (h.na a ha).2.1, un := fun x => (o 6 (by decide)).trans (h.un x), c7 := World.cell?_setCell_same _ _ _ h.c7, ne := h.ne, na := fun a ha => (by rw [hs]; exact h.na a ha) }
def stp (st n : Int) : Int := if 0 < n then st + min n (4611686018427387904 - st) else st
set_option maxHeartbeats 1000000 in
set_option maxRecDepth 100000 in
/-- Step. -/
theorem step_calls {b mb : Nat} {A : Option Addr} {m : Int} {L : List S27} {sl : Bool} {so : List S27} {st : Int} (n : Int) (w : World) (hr : Reg b mb A m L sl so st w) (h0 : 0 ≤ st) (h1 : st ≤ 4611686018427387904) :
    Calls Try.prog 17 #[.pointer (some ⟨b, 0, none⟩), .int .i64 n] w fun e w' => e = .returned (.tuple #[]) ∧ Reg b mb A m L sl so (stp st n) w' ∧ Only (fun j => j = b) w w' := by
  unfold stp
  by_cases hn : 0 < n
  · have q : decide (0 < n) = true := decide_eq_true hn
    rw [if_pos hn]
    have hl := run_call_load (P := Try.prog) Try.func38 (by kernel_rfl) (by kernel_rfl) (by kernel_rfl) .i64 (by kernel_rfl) (w := w.drew) (a := ⟨b, 7, none⟩) (x := st) hr.c7
    have hadd := fun y => run_call_add (P := Try.prog) Try.func37 (by kernel_rfl) (by kernel_rfl) (by kernel_rfl) .i64 (by kernel_rfl) (w := w.drew) (a := ⟨b, 7, none⟩) (x := st) (y := y) (s := IntKind.i64.wrap (st + y)) hr.c7 (hr.fz 7) rfl
    have HR := Aside0.mk hr
    clear hr
    go_enter Try.func17, Try.ntmps17
    go_wp2
    go_region_calls
    all_goals
      go_end0
      exact ⟨rfl, (HR.out.set7 _).drew, (Only.set (F := fun j => j = b) w ⟨b, 7, none⟩ _ rfl).drew⟩
  · have q : decide (0 < n) = false := decide_eq_false hn
    rw [if_neg hn]
    have HR := Aside0.mk hr
    clear hr
    go_enter Try.func17, Try.ntmps17
    go_wp2
    go_end0
    exact ⟨rfl, HR.out, Only.refl _ _⟩
end Go.Proofs.Ytfhgdjajifnfiaa.PA

namespace Go.Proofs.Ytfhgdjajifnfiaa.PA
open Go.RowKit Go.Maps Go.ChangeMaps Go.WideShapes Go.WideMaps Go.MuLone Go.Conc.Locks Go.Sort Go.Proofs.YtfhgdjajifnfiaaW.PrintWords Go.Proofs.YtfhgdjajifnfiaaW.PrintLast Go.Proofs.YtfhgdjajifnfiaaW.PrintMore
set_option linter.unusedVariables false

theorem add_calls' {b mb : Nat} {A : Option Addr} {m : Int} {L : List S27} {st : Int} (h : S27) (w : World) (hr : RegS b mb A m L false st w) (hh : h.f0.size ≤ maxLen) (hL : L.length < maxLen) :
    Calls Try.prog 15 #[.pointer (some ⟨b, 0, none⟩), hv h] w fun e w' => e = .returned (.bool (addOk L h)) ∧ RegS b mb A m (if addOk L h then L ++ [h] else L) false st w' ∧ Only (Own3 b mb none) w w' := add_calls h w hr hh hL
theorem new_calls' (m : Int) (w : World) :
    Calls Try.prog 14 #[.int .i64 m] w fun e w' => e = .returned (.pointer (some ⟨w.heap.size + 1, 0, none⟩)) ∧ RegS (w.heap.size + 1) w.heap.size none (bits .and .i64 m 127) [] false 0 w' ∧ Below w.heap.size w w' := new_calls m w
abbrev hB1 : S27 := ⟨⟨#[98]⟩, 1, 1, ⟨#[]⟩, 0⟩
abbrev hA1 : S27 := ⟨⟨#[97]⟩, 1, 1, ⟨#[]⟩, 0⟩
abbrev hC1 : S27 := ⟨⟨#[99]⟩, 1, 0, ⟨#[]⟩, 0⟩
theorem awake_srt {L : List S27} (hL : L = [hB1, hA1, hC1]) (U : Uniq L) : (srt 0 L).filter (fun h => h.f1 == 1) = [hC1, hA1, hB1] := by
  subst hL
  have e : [hC1, hA1, hB1] = srt 0 [hB1, hA1, hC1] := by
    refine srt_eq U ?_ ?_
    · show List.Perm _ [hB1, hA1, hC1]
      exact (List.Perm.swap hA1 hC1 [hB1]).trans (((List.Perm.swap hB1 hC1 []).cons hA1).trans (List.Perm.swap hB1 hA1 [hC1]))
    · have h1 : ltH hC1 hA1 := .inl (by decide)
      have h2 : ltH hC1 hB1 := .inl (by decide)
      have h3 : ltH hA1 hB1 := .inr ⟨rfl, by rw [Lib.toList_data, Lib.toList_data]; decide⟩
      exact List.pairwise_cons.2 ⟨fun x hx => by rcases List.mem_cons.1 hx with rfl | hx; exact h1; rw [List.mem_singleton.1 hx]; exact h2, List.pairwise_cons.2 ⟨fun x hx => by rw [List.mem_singleton.1 hx]; exact h3, List.pairwise_singleton _ _⟩⟩
  rw [← e]
  rfl
set_option maxHeartbeats 2000000 in
set_option maxRecDepth 100000 in
theorem awake_calls (w : World) : Calls Try.prog 10 #[] w fun e w' => e = .returned (.bool true) ∧ Below w.heap.size w w' := by
  have hn := new_calls' 0 w
  have hb0 : bits .and .i64 0 127 = 0 := by decide
  rw [hb0] at hn
  have HN := Aside0.mk hn
  clear hn hb0
  go_enter Try.func10, Try.ntmps10
  go_wp2_with fail
  refine HN.out.mono ?_
  rintro e w1 ⟨rfl, hr1, hb1⟩
  have HB1 := Aside0.mk hb1
  have ha1 := add_calls' hB1 w1 hr1 (by decide) (by decide)
  rw [show addOk [] hB1 = true from by unfold addOk; rw [Lib.toList_data]; decide] at ha1
  have HA1 := Aside0.mk ha1
  clear ha1 hr1 hb1 HN
  go_wp2_with fail
  refine HA1.out.mono ?_
  rintro e w2 ⟨rfl, hr2, ho2⟩
  have hr2' : RegS (w.heap.size + 1) w.heap.size none 0 [hB1] false 0 w2 := hr2
  have HO2 := Aside0.mk ho2
  have ha2 := add_calls' hA1 w2 hr2' (by decide) (by decide)
  rw [show addOk [hB1] hA1 = true from by unfold addOk; rw [Lib.toList_data]; decide] at ha2
  have HA2 := Aside0.mk ha2
  clear ha2 hr2 hr2' ho2 HA1
  go_wp2_with fail
  refine HA2.out.mono ?_
  rintro e w3 ⟨rfl, hr3, ho3⟩
  have hr3' : RegS (w.heap.size + 1) w.heap.size none 0 [hB1, hA1] false 0 w3 := hr3
  have HO3 := Aside0.mk ho3
  have ha3 := add_calls' hC1 w3 hr3' (by decide) (by decide)
  rw [show addOk [hB1, hA1] hC1 = true from by unfold addOk; rw [Lib.toList_data]; decide] at ha3
  have HA3 := Aside0.mk ha3
  clear ha3 hr3 hr3' ho3 HA2
  go_wp2_with fail
  refine HA3.out.mono ?_
  rintro e w4 ⟨rfl, hr4, ho4⟩
  have hr4' : RegS (w.heap.size + 1) w.heap.size none 0 [hB1, hA1, hC1] false 0 w4 := hr4
  have HO4 := Aside0.mk ho4
  have hs := sorted_calls 1 w4 hr4' (by decide)
  rw [awake_srt rfl hr4'.uq] at hs
  have HS := Aside0.mk hs
  clear hs hr4 hr4' ho4 HA3
  go_wp2_with fail
  refine HS.out.mono ?_
  rintro e w5 ha
  obtain ⟨A2, c, rfl, hc, hrow, -⟩ := ha.row
  have HO5 := Aside0.mk ha.only
  obtain ⟨ad, e0, x0, -⟩ := at_T27 hrow 0 (by decide) (by decide)
  cases e0
  obtain ⟨ad', e0, x1, -⟩ := at_T27 hrow 1 (by decide) (by decide)
  cases e0
  obtain ⟨ad', e0, x2, -⟩ := at_T27 hrow 2 (by decide) (by decide)
  cases e0
  have y0 : w5.cell? ad = some (.string ⟨#[99]⟩) := by have h := x0; rw [show (Int.toNat 0) * 5 = 0 from rfl, show ad.add 0 = ad from rfl] at h; exact h
  have y1 : w5.cell? ⟨ad.block, ad.off + 5, none⟩ = some (.string ⟨#[97]⟩) := x1
  have y2 : w5.cell? ⟨ad.block, ad.off + 10, none⟩ = some (.string ⟨#[98]⟩) := x2
  have HC := Aside0.mk (fun W => registry_Core.calls _ W rfl)
  have hsz := HB1.out.size
  have HF := Aside0.mk (show Below w.heap.size w w5 from by
    have o2 := HO2.out.below (B := w.heap.size) hsz (fun j hj => by rcases hj with rfl | rfl | ⟨a, ha, _⟩; omega; omega; cases ha)
    have s2 := o2.size
    have o3 := HO3.out.below (B := w.heap.size) (by omega) (fun j hj => by rcases hj with rfl | rfl | ⟨a, ha, _⟩; omega; omega; cases ha)
    have s3 := o3.size
    have o4 := HO4.out.below (B := w.heap.size) (by omega) (fun j hj => by rcases hj with rfl | rfl | ⟨a, ha, _⟩; omega; omega; cases ha)
    have s4 := o4.size
    have o5 := HO5.out.below (B := w.heap.size) (by omega) (fun j hj => by rw [hj]; omega)
    exact (((HB1.out.trans o2).trans o3).trans o4).trans o5)
  clear ha hrow x0 x1 x2 HS hsz
  go_wp2_with fail
  refine (HC.out _).mono ?_
  rintro e w6 ⟨v0, rfl, hR, hb6⟩
  obtain ⟨A6, c6, rfl⟩ := Kd.R_slice hR
  have HF6 := Aside0.mk (below_step HF.out hb6)
  clear hR hb6 HC
  go_wp2
  go_ret
  exact ⟨rfl, HF6.out⟩
end Go.Proofs.Ytfhgdjajifnfiaa.PA

namespace Go.Proofs.Ytfhgdjajifnfiaa.PA
open Go.RowKit Go.Maps Go.ChangeMaps Go.WideShapes Go.WideMaps Go.MuLone Go.Conc.Locks Go.Sort Go.Proofs.YtfhgdjajifnfiaaW.PrintWords Go.Proofs.YtfhgdjajifnfiaaW.PrintLast Go.Proofs.YtfhgdjajifnfiaaW.PrintMore
set_option linter.unusedVariables false

theorem wrap_nat64 (n : Nat) (h : n < 18446744073709551616) : IntKind.i64.wrap (n : Int) = if n < 9223372036854775808 then (n : Int) else (n : Int) - 18446744073709551616 := by
  rw [IntKind.wrap_i64]
  split <;> omega
theorem bits_and_le (x m : Int) (h0 : 0 ≤ m) (h1 : m < 9223372036854775808) : 0 ≤ bits .and .i64 x m ∧ bits .and .i64 x m ≤ m := by
  have hm : (BitVec.ofInt 64 m).toNat = m.toNat := by
    rw [BitVec.toNat_ofInt]
    simp only [Nat.reducePow]
    omega
  have hle : (BitVec.ofInt 64 x &&& BitVec.ofInt 64 m).toNat ≤ m.toNat := by
    rw [BitVec.toNat_and, hm]
    exact Nat.and_le_right
  show 0 ≤ IntKind.i64.wrap ((BitVec.ofInt 64 x &&& BitVec.ofInt 64 m).toNat : Int) ∧ IntKind.i64.wrap ((BitVec.ofInt 64 x &&& BitVec.ofInt 64 m).toNat : Int) ≤ m
  rw [wrap_nat64 _ (by omega), if_pos (by omega)]
  omega
end Go.Proofs.Ytfhgdjajifnfiaa.PA

namespace Go.Proofs.Ytfhgdjajifnfiaa.PA
open Go.RowKit Go.Maps Go.ChangeMaps Go.WideShapes Go.WideMaps Go.MuLone Go.Conc.Locks Go.Sort Go.Proofs.YtfhgdjajifnfiaaW.PrintWords Go.Proofs.YtfhgdjajifnfiaaW.PrintLast Go.Proofs.YtfhgdjajifnfiaaW.PrintMore
set_option linter.unusedVariables false

theorem Only.bel {B b : Nat} {w0 w w' : World} (h : Below B w0 w) (ho : Only (fun j => j = b) w w') (hb : B ≤ b) (hB : B ≤ w0.heap.size) : Below B w0 w' :=
  h.trans (ho.below (Nat.le_trans hB h.size) (fun j hj => by rw [hj]; exact hb))
def incipitlaw07_RegistryCounts.f (l0 : List Int) : Option Bool := some true
set_option maxHeartbeats 2000000 in
set_option maxRecDepth 100000 in
theorem incipitlaw07_RegistryCounts.calls (A0 : Option Addr) (c0 : Nat) (l0 : List Int) (r : Bool) (w : World) (hr0 : Kd.C (Kd.int .i64) w A0 l0.length l0) (hc0 : l0.length ≤ c0) (h : incipitlaw07_RegistryCounts.f l0 = some r) :
    Calls Try.prog 5 #[.slice A0 l0.length c0] w fun e w' => e = .returned (.bool r) ∧ Below w.heap.size w w' := by
  obtain rfl : true = r := Option.some.inj h
  clear h
  have HA := Aside0.mk (awake_calls w)
  have HR0 := Aside0.mk hr0
  have HC0 := Aside0.mk hc0
  clear hr0 hc0
  go_enter Try.func5, Try.ntmps5
  go_wp2_with fail
  refine HA.out.mono ?_
  rintro e w1 ⟨rfl, hb1⟩
  have HB1 := Aside0.mk hb1
  have HN := Aside0.mk (new_calls' 0 w1)
  clear hb1 HA
  by_cases hl : (l0.length : Int) > 200
  · have q : decide ((200 : Int) < (l0.length : Int)) = true := decide_eq_true hl
    go_wp2
    go_ret
    exact ⟨rfl, HB1.out⟩
  · have q : decide ((200 : Int) < (l0.length : Int)) = false := decide_eq_false hl
    go_wp2_with fail
    refine HN.out.mono ?_
    rintro e w2 ⟨rfl, hr2, hb2⟩
    obtain ⟨b, hb⟩ : ∃ b, w1.heap.size + 1 = b := ⟨_, rfl⟩
    rw [hb] at hr2 ⊢
    have hB : w.heap.size ≤ b := by have := HB1.out.size; omega
    have HR2 := Aside0.mk hr2
    have HB2 := Aside0.mk (HB1.out.trans (hb2.mono (HB1.out.size)))
    clear hr2 hb2 HN hb
    go_wp2_with fail
    go_loopw [5, 6] (fun v5 v6 wr => ∃ (i : Nat) (s : Int), v5 = .int .i64 s ∧ v6 = .int .i64 (i : Int) ∧ i ≤ l0.length ∧ 0 ≤ s ∧ s ≤ (i : Int) * 1099511627775 ∧ Aside0 (RegS b w1.heap.size none (bits .and .i64 0 127) [] false s wr) ∧ Aside0 (Below w.heap.size w wr)) (fun _ v6 _ => l0.length - (intOf v6).toNat)
    case atStart => exact ⟨0, 0, rfl, rfl, Nat.zero_le _, by omega, by omega, HR2, HB2⟩
    case round =>
      obtain ⟨i, s, rfl, rfl, hi, hs0, hs1, HR, HB⟩ := hrel
      by_cases hlt : i < l0.length
      · have q1 : decide ((i : Int) < (l0.length : Int)) = true := decide_eq_true (by omega)
        have p0 : 0 ≤ (i : Int) := by omega
        have p1 : (i : Int) < (l0.length : Int) := by omega
        have hrow := Kd.C_below HR0.out (HB.out.mono (Nat.le_refl _))
        obtain ⟨ad, c, e1, _, hK, hcell⟩ := Kd.C_get hrow 0 (i : Int) p0 p1
        cases e1
        obtain ⟨x, hx⟩ : ∃ x, l0.getD i 0 = x := ⟨_, rfl⟩
        have hK2 : c = [.int .i64 x] := by
          have h2 : c = [.int .i64 (l0.getD (i : Int).toNat 0)] := hK
          rw [h2, Int.toNat_natCast, hx]
        subst hK2
        have hc := hcell 0 _ rfl
        have hc2 : wr.cell? (ad.add i) = some (.int .i64 x) := by
          have h2 : (i : Int).toNat * 1 + 0 = i := by omega
          have h3 : wr.cell? (ad.add ((i : Int).toNat * 1 + 0)) = some (.int .i64 x) := hc
          rwa [h2] at h3
        obtain ⟨k0, k1⟩ := bits_and_le x 1099511627775 (by omega) (by omega)
        have hil : (i : Int) < 200 := by omega
        obtain ⟨k, hk⟩ : ∃ k, bits .and .i64 x 1099511627775 = k := ⟨_, rfl⟩
        have hk' := hk
        rw [hk] at k0 k1
        have hs2 : s ≤ 4611686018427387904 := by omega
        have HS1 := Aside0.mk (step_calls k wr HR.out hs0 hs2)
        have e1 : stp s k = s + k := by
          unfold stp
          split
          · rw [Int.min_eq_left (by omega)]
          · omega
        rw [e1] at HS1
        have hw : wrap64 (s + k) = s + k := by unfold wrap64; omega
        have hn : wrap64 (-k) = -k := by unfold wrap64; omega
        clear hK hcell hc hrow e1 hk'
        replace p0 := eq_true p0
        replace p1 := eq_true p1
        go_wp2_with fail
        refine HS1.out.mono ?_
        rintro e w3 ⟨rfl, hr3, ho3⟩
        have HB3 := Aside0.mk (Only.bel HB.out ho3 hB (Nat.le_refl _))
        have HS2 := Aside0.mk (step_calls (-k) w3 hr3 (by omega) (by omega))
        have e2 : stp (s + k) (-k) = s + k := by unfold stp; rw [if_neg (by omega)]
        rw [e2] at HS2
        clear hr3 ho3 HS1 e2
        go_wp2_with fail
        refine HS2.out.mono ?_
        rintro e w4 ⟨rfl, hr4, ho4⟩
        have HB4 := Aside0.mk (Only.bel HB3.out ho4 hB (Nat.le_refl _))
        have HR4 := Aside0.mk hr4
        clear hr4 ho4 HS2 HR HB HB3
        go_wp2
        go_roundw
        case rel => exact ⟨i + 1, s + k, rfl, by simp, by omega, by omega, by omega, HR4, HB4⟩
        case measure => simp [intOf]; omega
      · have q1 : decide ((i : Int) < (l0.length : Int)) = false := decide_eq_false (by omega)
        have HS := Aside0.mk (steps_calls wr HR.out)
        go_wp2_with fail
        refine HS.out.mono ?_
        rintro e w9 ⟨rfl, rfl⟩
        go_wp2
        go_ret
        exact ⟨rfl, HB.out⟩
end Go.Proofs.Ytfhgdjajifnfiaa.PA

namespace Go.Proofs.Ytfhgdjajifnfiaa.Pure
open Go.RowKit
theorem RegistryCounts : ∀ (l0 : List Int), l0.length ≤ 140737488351232 → (∀ x ∈ l0, (Lit.int .i64 x).wf = true) → PA.incipitlaw07_RegistryCounts.f l0 = some true := fun _ _ _ => rfl
end Go.Proofs.Ytfhgdjajifnfiaa.Pure

namespace Go.Proofs.Ytfhgdjajifnfiaa.registryCounts
open Go.ChangeShapes Go.WideShapes Go.ChangeAt Go.RowKit Go.Proofs.YtfhgdjajifnfiaaW.PrintWords Go.Proofs.Ytfhgdjajifnfiaa.RowU8
open Go.ChangeMaps (open_string shut_string)
set_option linter.unusedVariables false
set_option maxRecDepth 100000 in
theorem contract (H : Type) (enc : TypeId × Value → H) (W : World) (base : Nat) (args : Array Value) (ds gs : List (DataW H)) (before : List MemPlace)
    (hval0 : ∀ (j : Nat) t v, Try.f5.params[j]? = some t → args[j]? = some v → Value.okWide Try.prog W .any base t v)
    (hW : DataW.Whole enc Try.prog Try.f5.params.toList Rows.registryCountsSpec.vars false W args.toList ds gs before) (hsz0 : (DataW.weightsEach Try.prog (Try.f5.params.toList ++ (OpenSpec.ofChange Rows.registryCountsSpec).bare.plain.varTypes Try.prog) (ds ++ gs)).all (· ≤ reachBytes) = true) :
    Calls Try.prog 5 args W fun e W' => ∃ v, e = .returned v ∧ Rows.registryCountsSpec.post enc Try.prog Try.f5 false true false false W args v W' := by
  have hsz : (DataW.weightsEach Try.prog (Try.f5.params.toList ++ Rows.registryCountsSpec.plain.varTypes Try.prog) (ds ++ gs)).all (· ≤ reachBytes) = true := hsz0
  have hval : ∀ (j : Nat) t v, Try.f5.params[j]? = some t → args[j]? = some v → Value.okWide Try.prog W .any base t v := hval0
  have hW' := hW
  obtain ⟨p, q, hA0, hV, rfl, hfz, hnd⟩ := hW
  have hA : DataW.TrodAll enc Try.prog W 0 (fun _ => true) true Try.f5.params.toList args.toList ds p := hA0
  rw [Try.params5] at hA hval hsz
  obtain ⟨v0, vs0, d0, ds0, p0, q0, hargs, rfl, rfl, h0, r0⟩ := trodAll_cons hA
  obtain ⟨rfl, rfl, rfl⟩ := trodAll_nil r0
  obtain rfl : args = #[v0] := by cases args; simp_all
  obtain ⟨rfl, rfl⟩ := trodVars_none hV
  obtain ⟨a0, len0, cap0, rfl⟩ := okWide_slice Try.underlying34 (hval 0 34 v0 rfl rfl)
  have k0 := h0
  have lt0 : ∀ x ∈ p0, x.block < W.heap.size := by obtain ⟨m, hm⟩ := k0; exact DataW.trod_lt m _ _ _ hm
  obtain ⟨z0, w0⟩ : ∃ zs, IsRow .i64 W a0 len0 cap0 zs := by
    obtain ⟨fuel, hf⟩ := h0
    rcases open_ints Try.underlying34 Try.underlying3 (by kernel_rfl) hf with ⟨hcs, _⟩ | ⟨x, l, c, zs, hcs, _, hl, hm, hz, _, hcell, hwz⟩
    · simp [Value.cells] at hcs
      obtain ⟨rfl, rfl, rfl⟩ := hcs
      exact ⟨[], .inl ⟨rfl, rfl, rfl, rfl⟩⟩
    · simp [Value.cells] at hcs
      obtain ⟨rfl, rfl, rfl⟩ := hcs
      exact ⟨zs, .inr ⟨_, rfl, hl, hm, by simpa using hz, hcell, hwz⟩⟩
  have y0 : len0 * 8 ≤ 140737488351232 := sized_any hsz (j := 0) (t := 34) rfl rfl Try.underlying34 (by kernel_rfl) h0
  obtain ⟨l0, rfl, hr0, hm0, hw0, hc0⟩ := ReadsInt.ofRowC w0
  clear hA0 hval0 hsz0 hsz
  have hp := Pure.RegistryCounts l0 (by omega) hw0
  refine (PA.incipitlaw07_RegistryCounts.calls _ _ l0 true W (Kd.C_of_reads (d := (0 : Int)) (h1 := fun _ => rfl) hr0) hc0 hp).mono ?_
  rintro e W' ⟨rfl, bel⟩
  exact ⟨_, rfl, _, _, _, [], _, [], hW', trodAll_mk1 (shut_bool Try.underlying4 _), (trodAll_cons_mk (Below.trod laidOut (by kernel_rfl) (of_decide_eq_true (by kernel_rfl)) k0 bel lt0) trodAll_mk0), rfl, bel.frame _, fun h => by cases h⟩
theorem laid_met (os : Os) : laidMet Try.prog Rows.registryCountsRow.laid ((laidWorld os).forCall (fun _ _ => 0) ⟨#[], #[.slice none 0 0], []⟩).memory :=
  laidMet_of_run' 8 (by kernel_rfl) (by kernel_rfl)
theorem reads (os : Os) {H : Type} (enc : TypeId × Value → H) : ∃ places, DataW.whole enc Try.prog ((laidWorld os).forCall (fun _ _ => 0) ⟨#[], #[.slice none 0 0], []⟩).memory Try.f5.params.toList Rows.registryCountsSpec.vars false (#[.slice none 0 0] : Array Value).toList 8 = some ([.nil], [], places) :=
  ⟨[], by kernel_rfl⟩
set_option maxRecDepth 100000 in
theorem lifted (os : Os) (started : os.Started) (H : Type) (enc : TypeId × Value → H) (F : Stop.Interp) :
    ReturnsInHanded {} Try.checked os 5 .any ((OpenSpec.ofChange Rows.registryCountsSpec).preRow enc Try.prog Try.f5 Rows.registryCountsRow.domain false Rows.registryCountsRow.laid) (((OpenSpec.ofChange Rows.registryCountsSpec).at F).post enc Try.prog Try.f5 false true false false) := by
  obtain ⟨places, hx⟩ := reads os enc
  refine returnsInHanded_of_row (C := Try.checked) (s := OpenSpec.ofChange Rows.registryCountsSpec) own started (by kernel_rfl) Try.func5
    (witness_row_at (enc := enc) (C := Try.checked) false (laidWorld os) #[.slice none 0 0] rfl (by kernel_rfl) (by kernel_rfl) (by kernel_rfl)
      (OpenSpec.preRow_of_cond 8 hx (by kernel_rfl) (fun k hk => by cases hk) (by kernel_rfl) (laid_met os))) ?_
  intro W base args ds gs before hval hW _ _ hsz hL hSh _
  exact contract H enc W base args ds gs before hval hW hsz
theorem said : Rows.RegistryCountsSaid :=
  OpenClaim.holds_of_cond 5 Try.f5 rfl rfl rfl rfl rfl rfl rfl ⟨rfl, rfl, rfl, rfl, rfl⟩ rfl rfl rfl rfl rfl (by kernel_rfl) Try.func5 (by kernel_rfl)
    (of_decide_eq_true (by kernel_rfl)) (by unfold Func.isWrapper; first | (rw [if_pos (by decide +kernel)]; kernel_rfl) | (rw [if_neg (by decide +kernel)]; exact ⟨rfl, rfl⟩))
    (fun os started H enc _ F => by rw [OpenClaim.pre_eq_preRow]; exact lifted os started H enc F)
end Go.Proofs.Ytfhgdjajifnfiaa.registryCounts
namespace Go.Proofs.Ytfhgdjajifnfiaa
/-- The statement, under a short name, for the claim. -/
theorem registryCounts_holds : Rows.RegistryCountsSaid := registryCounts.said
end Go.Proofs.Ytfhgdjajifnfiaa
