/-
  Texts of the proof of RegistryCounts, part 4 of 5: contracts and plain laws. Conditions: see each statement.
-/
import Derived.Test.YtfhgdjajifnfiaaSRegistryCounts3
import Derived.Deep.RegionLaw
import Derived.Deep.AppendLies
import Derived.Test.YtfhgdjajifnfiaaProg
import Derived.Conc.MuLone
import Derived.KernelRfl
import Derived.Defers
import Derived.RegionCalls
set_option linter.unusedVariables false
namespace Go.Proofs.Ytfhgdjajifnfiaa.PA
open Go.RowKit Go.Maps Go.ChangeMaps Go.WideShapes Go.WideMaps Go.Sort Go.Proofs.YtfhgdjajifnfiaaW.PrintWords Go.Proofs.YtfhgdjajifnfiaaW.PrintLast Go.Proofs.YtfhgdjajifnfiaaW.PrintMore
set_option linter.unusedVariables false

set_option maxHeartbeats 4000000 in
set_option maxRecDepth 100000 in
theorem close_loop (b mb g : Nat) (m : Int) (L : List S27) (w : World) (hg : w.cell? ⟨g, 0, none⟩ = some (.pointer (some ⟨b, 0, none⟩))) (c0 : w.cell? ⟨b, 0, none⟩ = some (.int .i64 m)) (c1 : w.cell? ⟨b, 1, none⟩ = some (.map (some mb)))
    (c5 : w.cell? ⟨b, 5, none⟩ = some (.bool false)) (c6 : w.cell? ⟨b, 6, none⟩ = some (.slice none 0 0)) (fz : ∀ j, w.frozen? ⟨b, j, none⟩ = false) (mp : w.ownsMap Try.prog 9 hookR mb L.length (mapD L)) (U : Uniq L) (hbm : mb ≠ b) (hgb : g ≠ b) (hL : L.length ≤ 100000) :
    Calls Try.prog 41 #[.pointer (some ⟨g, 0, none⟩)] w fun e w' => e = .returned (.tuple #[]) ∧ Cl b m L w w' := by
  obtain ⟨i0, hi, hi0, hi1, hi2⟩ := info_parts info27
  have hb : b < w.heap.size := World.block_lt_of_cell? w _ c0
  have hgl : g < w.heap.size := World.block_lt_of_cell? w _ hg
  have f5 := fz 5
  obtain ⟨w1, hw1⟩ : ∃ w1, w.setCell ⟨b, 5, none⟩ (.bool true) = w1 := ⟨_, rfl⟩
  have hs1 : w1.heap.size = w.heap.size := by rw [← hw1, World.size_setCell]
  have k1 : ∀ j, j ≠ b → w1.heap[j]? = w.heap[j]? := fun j hj => by rw [← hw1]; exact Below.heap_setCell _ _ _ _ hj
  have o : ∀ j, j ≠ 5 → w1.cell? ⟨b, j, none⟩ = w.cell? ⟨b, j, none⟩ := fun j hj => by rw [← hw1]; exact World.cell?_setCell_other _ ⟨b, 5, none⟩ ⟨b, j, none⟩ _ (by intro e; apply hj; have h := congrArg Addr.off e; first | exact h | exact h.symm)
  have f1 : ∀ j, w1.frozen? ⟨b, j, none⟩ = false := fun j => by rw [← hw1]; simp [fz j]
  have g1 : w1.cell? ⟨g, 0, none⟩ = some (.pointer (some ⟨b, 0, none⟩)) := (World.cell?_of_block (w := w) (a := ⟨g, 0, none⟩) (k1 g hgb)).trans hg
  have a0 := (o 0 (by decide)).trans c0
  have a1 := (o 1 (by decide)).trans c1
  have a6 := (o 6 (by decide)).trans c6
  have a5 : w1.cell? ⟨b, 5, none⟩ = some (.bool true) := by rw [← hw1]; exact World.cell?_setCell_same _ _ _ c5
  have mp1 := ownsMap_keep mp (k1 mb hbm)
  have hb1 : b < w1.heap.size := by omega
  have hgl1 : g < w1.heap.size := by omega
  have HS1 := Aside0.mk hs1
  have ho1 : Only (fun j => j = b) w w1 := ⟨by rw [← hw1]; rfl, by rw [← hw1]; rfl, by rw [← hw1]; rfl, by omega, fun j _ hn => k1 j hn⟩
  have HO1 := Aside0.mk ho1
  have HOO := Aside0.mk o
  have HA5 := Aside0.mk a5
  have HU := Aside0.mk U
  clear ho1
  have MP := Aside0.mk mp1
  have F1 := Aside0.mk f1
  have A0 := Aside0.mk a0
  have A6 := Aside0.mk a6
  have G1 := Aside0.mk g1
  clear mp mp1 f1 o k1 c0 c1 c6 a0 a6 hs1
  go_enter Try.func41, Try.ntmps41
  go_wp2_with (at_range; refine wpList_range_own _ rfl _ 51 rfl 9 27 (string_keyed Try.underlying9) Try.underlying51 hookR mb L.length (mapD L) rfl MP.out ?_; intro w2 hrg2 hg2 hs2)
  go_frame
  have HRG2 := Aside0.mk hrg2
  have HG2 := Aside0.mk hg2
  clear hrg2 hg2 hs2
  go_loopw [2] (fun v2 wr => ∃ left cnt ss v6, Aside0 (wr.ranges Try.prog 9 hookR mb w1.heap.size L.length (mapD L) left cnt) ∧ Aside0 (Met L left ss) ∧ ss.length + cnt ≤ L.length ∧ Aside0 (wr.cell? ⟨b, 6, none⟩ = some v6) ∧ Aside0 (wr.ownsRow (w1.heap.size + 1) 27 5 v6 (ss.filter (onH m)).length ((ss.filter (onH m)).flatMap hcs)) ∧ Aside0 (Kp b g w1 wr) ∧ w1.heap.size + 1 ≤ wr.heap.size) (fun _ wr => wr.rangeLeft mb w1.heap.size)
  case atStart =>
    have hk := (Kp.refl b g w1).grown (by omega) HG2.out (fun j e => by cases e)
    have h6 : w2.cell? ⟨b, 6, none⟩ = some (.slice none 0 0) := (World.cell?_of_block (w := w1) (a := ⟨b, 6, none⟩) (HG2.out.block b (by omega) (by simp))).trans A6.out
    exact ⟨_, _, [], _, HRG2, ⟨met_start L⟩, by rw [size_mapD]; simp, ⟨h6⟩, ⟨World.ownsRow_nil _ _ _ _⟩, ⟨hk⟩, HRG2.out.lt⟩
  case round =>
    clear HRG2 HG2
    obtain ⟨left, cnt, ss, v6, HRG, HM, hcn, H6, HOW, HK, hsz⟩ := hrel
    have hrg := HRG.out
    go_wp2_with (at_next; refine wpList_next_ranges _ rfl _ rfl 9 (string_keyed Try.underlying9) hookR Go.Proofs.encStr hv (fun key kl hk => by obtain ⟨x, hx, _⟩ := Maps.keyOf_str Try.underlying9 hk; exact ⟨x, hx⟩) (fun v y hv => by obtain ⟨c, rfl, _⟩ := hookR_inv hv; exact ⟨c, rfl⟩) mb w1.heap.size L.length (mapD L) left cnt rfl hrg ?_ ?_)
    · intro hc0 hl0
      have hper := met_end U HM.out hl0
      have h6 := H6.out
      have hg6 : wr.cell? ⟨g, 0, none⟩ = some (.pointer (some ⟨b, 0, none⟩)) := (World.cell?_of_block (w := w1) (a := ⟨g, 0, none⟩) (HK.out.only.block g hgl1 hgb)).trans G1.out
      have HPER := Aside0.mk hper
      clear hper hrg hl0
      have HFL := Aside0.mk (show (ss.filter (onH m)).length ≤ 100000 from Nat.le_trans (List.length_filter_le _ _) (by omega))
      go_wp2_with fail
      refine (sort_own HOW.out HFL.out).mono ?_
      rintro e w9 ⟨rfl, A, c9, ys, hv6, hc9, hpm, hpw, hrow, hA, hon⟩
      have HFIN := Aside0.mk (cl_mk (by omega) HO1.out HOO.out F1.out HA5.out HS1.out HK.out H6.out HPER.out HU.out hv6 hc9 hpm hpw hrow hA hon)
      clear hv6 hc9 hpm hpw hrow hA hon
      go_wp2
      go_end0
      exact ⟨rfl, HFIN.out⟩
    · intro x c kl yd yp w3 cnt3 hkey hlk hvv hat hrg3 hlt hg3 hs3 hen
      obtain ⟨x', ex, rfl, _⟩ := Maps.keyOf_str Try.underlying9 hkey
      obtain rfl : x = x' := encStr_inj ex
      obtain ⟨rfl, rfl⟩ : hookD c = yd ∧ [] = yp := by
        have := Option.some.inj (show some (hookD c, []) = some (yd, yp) from hvv)
        exact ⟨congrArg Prod.fst this, congrArg Prod.snd this⟩
      obtain ⟨hcL, hx⟩ := at_mapD hat
      have hM3 : Met L (fun z => left z && !z.sameKey (.string x)) (ss ++ [c]) := by
        rw [hx]
        exact met_step U HM.out hcL (by rw [hx] at hlk; exact hlk)
      have hbr := HK.out.only.size
      have hK3 := HK.out.grown (by omega) hg3 (fun j e => by cases e; omega)
      have h63 : w3.cell? ⟨b, 6, none⟩ = some v6 := (World.cell?_of_block (w := wr) (a := ⟨b, 6, none⟩) (hg3.block b (by omega) (by intro e; cases e; omega))).trans H6.out
      have hOW3 : w3.ownsRow (w1.heap.size + 1) 27 5 v6 (ss.filter (onH m)).length ((ss.filter (onH m)).flatMap hcs) := HOW.out.kept hg3 (.inr fun e => by have := (HOW.out.lt _ e).1; omega)
      have hg3' : w3.cell? ⟨g, 0, none⟩ = some (.pointer (some ⟨b, 0, none⟩)) := (World.cell?_of_block (w := w1) (a := ⟨g, 0, none⟩) (hK3.only.block g (by omega) hgb)).trans G1.out
      have hc3 : w3.cell? ⟨b, 0, none⟩ = some (.int .i64 m) := (hK3.ce 0 (by decide)).trans A0.out
      have hs3' : w1.heap.size + 1 ≤ w3.heap.size := by have := hg3.size; omega
      have HON := Aside0.mk (on_calls b m c (w3.alloc (.cells #[.string c.f0, .int .i64 c.f1, .int .i64 c.f2, .string c.f3, .int .i64 c.f4] 27)) ((World.cell?_of_block (w := w3) (a := ⟨b, 0, none⟩) (Below.heap_alloc _ _ _ (by show b < w3.heap.size; omega))).trans hc3))
      have g3a : ∀ ob : Obj, (w3.alloc ob).cell? ⟨g, 0, none⟩ = some (.pointer (some ⟨b, 0, none⟩)) := fun ob => (World.cell?_of_block (w := w3) (a := ⟨g, 0, none⟩) (Below.heap_alloc _ _ _ (by show g < w3.heap.size; omega))).trans hg3'
      have HRG3 := Aside0.mk hrg3
      have HM3 := Aside0.mk hM3
      have HK3 := Aside0.mk hK3
      have H63 := Aside0.mk h63
      have HOW3 := Aside0.mk hOW3
      have HC3 := Aside0.mk hc3
      have HLT := Aside0.mk hlt
      have HLE := Aside0.mk (hrg.left_eq)
      clear hrg3 hM3 hK3 h63 hOW3 hc3 hs3 hrg HRG HM H6 HOW HK hg3 hg3' hat hvv hlk hkey hx hbr
      cases hp : onH m c with
      | false =>
        rw [hp] at HON
        go_wp2_with (go_at_call 42; refine HON.out.mono ?_; rintro e w4 ⟨rfl, hb4⟩)
        have hgr4 : w3.grownBy w4 none := by
          have hb5 := ((Below.refl w3.heap.size w3).alloc (Nat.le_refl _) (.cells #[.string c.f0, .int .i64 c.f1, .int .i64 c.f2, .string c.f3, .int .i64 c.f4] 27)).trans (hb4.mono (by simp))
          exact ⟨hb5.os, hb5.tape, hb5.output, hb5.size, fun j hj _ => hb5.block j hj⟩
        have hrg4 := HRG3.out.kept hgr4 (by simp) (by simp)
        have h64 : w4.cell? ⟨b, 6, none⟩ = some v6 := (World.cell?_of_block (w := w3) (a := ⟨b, 6, none⟩) (hgr4.block b (by omega) (by simp))).trans H63.out
        have hOW4 := HOW3.out.kept hgr4 (by cases v6.ownBlock <;> simp)
        have hK4 := HK3.out.grown (by omega) hgr4 (fun j e => by cases e)
        have hsz4 := hgr4.size
        have hfil : (ss ++ [c]).filter (onH m) = ss.filter (onH m) := by simp [List.filter_append, hp]
        have HRG4 := Aside0.mk hrg4
        clear hrg4
        go_roundw
        case rel => exact ⟨_, cnt3, ss ++ [c], v6, HRG4, HM3, by rw [List.length_append, List.length_singleton]; omega, ⟨h64⟩, ⟨by rw [hfil]; exact hOW4⟩, ⟨hK4⟩, by omega⟩
        case measure =>
          have e1 := HRG4.out.left_eq
          have e2 := HLE.out
          rw [e1, e2]
          exact HLT.out
      | true =>
        rw [hp] at HON
        go_wp2_with (go_at_call 42; refine HON.out.mono ?_; rintro e w4 ⟨rfl, hb4⟩)
        have hwn : w3.heap.size < (w3.alloc (.cells #[.string c.f0, .int .i64 c.f1, .int .i64 c.f2, .string c.f3, .int .i64 c.f4] 27)).heap.size := by simp
        have hgr4 : w3.grownBy w4 none := by
          have hb5 := ((Below.refl w3.heap.size w3).alloc (Nat.le_refl _) (.cells #[.string c.f0, .int .i64 c.f1, .int .i64 c.f2, .string c.f3, .int .i64 c.f4] 27)).trans (hb4.mono (by simp))
          exact ⟨hb5.os, hb5.tape, hb5.output, hb5.size, fun j hj _ => hb5.block j hj⟩
        have hbk : w4.heap[w3.heap.size]? = some (.cells #[.string c.f0, .int .i64 c.f1, .int .i64 c.f2, .string c.f3, .int .i64 c.f4] 27 (0, 0)) := (hb4.block _ hwn).trans (heap_alloc_new _ _)
        have e0 : w4.cell? ⟨w3.heap.size, 0, none⟩ = some (.string c.f0) := cell_at hbk 0
        have e1 : w4.cell? ⟨w3.heap.size, 1, none⟩ = some (.int .i64 c.f1) := cell_at hbk 1
        have e2 : w4.cell? ⟨w3.heap.size, 2, none⟩ = some (.int .i64 c.f2) := cell_at hbk 2
        have e3 : w4.cell? ⟨w3.heap.size, 3, none⟩ = some (.string c.f3) := cell_at hbk 3
        have e4 : w4.cell? ⟨w3.heap.size, 4, none⟩ = some (.int .i64 c.f4) := cell_at hbk 4
        have hrg4 := HRG3.out.kept hgr4 (by simp) (by simp)
        have h64 : w4.cell? ⟨b, 6, none⟩ = some v6 := (World.cell?_of_block (w := w3) (a := ⟨b, 6, none⟩) (hgr4.block b (by omega) (by simp))).trans H63.out
        have hOW4 := HOW3.out.kept hgr4 (by cases v6.ownBlock <;> simp)
        have hK4 := HK3.out.grown (by omega) hgr4 (fun j e => by cases e)
        have hsz4 := hgr4.size
        have g4 : w4.cell? ⟨g, 0, none⟩ = some (.pointer (some ⟨b, 0, none⟩)) := (World.cell?_of_block (w := w1) (a := ⟨g, 0, none⟩) (hK4.only.block g hgl1 hgb)).trans G1.out
        have f64 : w4.frozen? ⟨b, 6, none⟩ = false := (hK4.fz 6).trans (F1.out 6)
        have hfil : (ss ++ [c]).filter (onH m) = ss.filter (onH m) ++ [c] := by simp [List.filter_append, hp]
        have hfl : (ss.filter (onH m)).length ≤ ss.length := List.length_filter_le _ _
        obtain ⟨out, hout⟩ : ∃ out, ss.filter (onH m) = out := ⟨_, rfl⟩
        rw [hout] at hOW4 hfil hfl
        have HRG4 := Aside0.mk hrg4
        have HOW4 := Aside0.mk hOW4
        have HK4 := Aside0.mk hK4
        have HFIL := Aside0.mk hfil
        have HGR4 := Aside0.mk hgr4
        have hnb : some b ≠ v6.ownBlock := fun e => by have := (hOW4.lt b e.symm).1; omega
        have h64a : ∀ ob : Obj, (w4.alloc ob).cell? ⟨b, 6, none⟩ = some v6 := fun ob => (World.cell?_of_block (w := w4) (a := ⟨b, 6, none⟩) (Below.heap_alloc _ _ _ (by show b < w4.heap.size; omega))).trans h64
        have f64a : ∀ ob : Obj, (w4.alloc ob).frozen? ⟨b, 6, none⟩ = false := fun ob => (World.frozen?_of_block (w := w4) (a := ⟨b, 6, none⟩) (Below.heap_alloc _ _ _ (by show b < w4.heap.size; omega))).trans f64
        have hng : some g ≠ v6.ownBlock := fun e => by have := (hOW4.lt g e.symm).1; omega
        have g4a : ∀ ob : Obj, (w4.alloc ob).cell? ⟨g, 0, none⟩ = some (.pointer (some ⟨b, 0, none⟩)) := fun ob => (World.cell?_of_block (w := w4) (a := ⟨g, 0, none⟩) (Below.heap_alloc _ _ _ (by show g < w4.heap.size; omega))).trans g4
        have HNG := Aside0.mk hng
        have G4A := Aside0.mk g4a
        have HNB := Aside0.mk hnb
        have H64A := Aside0.mk h64a
        have F64A := Aside0.mk f64a
        clear hrg4 hOW4 hK4 hfil hbk hb4 hwn HON hgr4 HOW3 hout hnb hng f64a
        go_region_law (refine step_append_lies _ rfl _ _ 23 rfl (w1.heap.size + 1) 27 i0 (hv z27) 5 56 Try.underlying23 hi hi0 hi1 hi2 rfl (by decide) _ _ _ rfl (HOW4.out.alloc (.cells (hcs c).toArray 27)) ⟨w4.heap.size, 0, none⟩ 1 1 (hcs c) rfl rfl (new_cells w4 (hcs c) 27) (by simp [hcs, Value.oneCell']) (by omega) (by simp only [maxLen]; omega) (by omega) (by simp; omega) (w4.heap.size + 1) (by simp) ?_; intro gg cap w5 hown5 hgrow5 hloc5 hlt5; have hbk5 := hgrow5.block b (by simp; omega) HNB.out; have n6 := (World.cell?_of_block (a := ⟨b, 6, none⟩) hbk5).trans (H64A.out _); have z6 := (World.frozen?_of_block (a := ⟨b, 6, none⟩) hbk5).trans (F64A.out _); have g5 := (World.cell?_of_block (a := ⟨g, 0, none⟩) (hgrow5.block g (by simp; omega) HNG.out)).trans (G4A.out _); have HOWN5 := Aside0.mk hown5; have HGROW5 := Aside0.mk (show (w4.alloc (.cells (hcs c).toArray 27)).grownBy w5 v6.ownBlock from ⟨hgrow5.os, hgrow5.tape, hgrow5.output, hgrow5.size, hgrow5.block⟩); clear hown5 hgrow5 hloc5 hlt5 hbk5)
        all_goals
          have hmb : mb < w1.heap.size := MP.out.lt
          have hg45 : ∀ ob : Obj, w4.grownBy (w4.alloc ob) none := fun ob => World.grownBy_alloc w4 ob none
          have hr5 := ((HRG4.out.alloc (.cells (hcs c).toArray 27)).kept HGROW5.out (fun e => by have := (HOW4.out.lt mb e.symm).1; omega) (fun e => by have := (HOW4.out.lt _ e.symm).1; omega)).kept (grown_set w5 ⟨b, 6, none⟩ (.slice (some ⟨gg, 0, none⟩) (out.length + 1) cap)) (by simp; exact hbm) (by simp; omega)
          have hgg := HOWN5.out.lt gg rfl
          have ho5 := HOWN5.out.kept (grown_set w5 ⟨b, 6, none⟩ (.slice (some ⟨gg, 0, none⟩) (out.length + 1) cap)) (.inr (by simp [Value.ownBlock]; omega))
          have hk5 := ((HK4.out.grown hb1 (hg45 (.cells (hcs c).toArray 27)) (fun j e => by cases e)).grown hb1 HGROW5.out (fun j e => by have := (HOW4.out.lt j e).1; omega)).set (.slice (some ⟨gg, 0, none⟩) (out.length + 1) cap)
          have hz5 := hk5.only.size
          have h65 := World.cell?_setCell_same w5 ⟨b, 6, none⟩ (.slice (some ⟨gg, 0, none⟩) (out.length + 1) cap) n6
          have hs5 := HGROW5.out.size
          have HR5 := Aside0.mk hr5
          have HO5 := Aside0.mk ho5
          have HK5 := Aside0.mk hk5
          have H65 := Aside0.mk h65
          clear hr5 ho5 hk5 h65 n6 z6
          go_wp2
          go_roundw
          case rel => exact ⟨_, cnt3, ss ++ [c], _, HR5, HM3, by rw [List.length_append, List.length_singleton]; omega, H65, ⟨by rw [HFIL.out, List.length_append, List.length_singleton, List.flatMap_append, List.flatMap_singleton]; exact HO5.out⟩, HK5, by simp at hs5 ⊢; omega⟩
          case measure =>
            have e1 := HR5.out.left_eq
            have e2 := HLE.out
            rw [e1, e2]
            exact HLT.out
end Go.Proofs.Ytfhgdjajifnfiaa.PA

namespace Go.Proofs.Ytfhgdjajifnfiaa.PA
open Go.Conc.Locks

abbrev muLink : MuLink := { lock := 56, unlock := 57, ilock := 69, iunlock := 70, lockSlow := 82, unlockSlow := 85, disable := 78, enable := 80, acquire := 81, relMerge := 83, cas32 := 79, add32 := 84, tMutex := 61, tIMutex := 59, tPMutex := 103, tPIMutex := 112, tPI32 := 114, tUP := 116, tNoCopy := 53, tU32 := 55 }
set_option maxRecDepth 100000 in
theorem muLib : MuLib Try.prog muLink := ⟨Try.func56, Try.func57, Try.func69, Try.func70, Try.func78, Try.func80, Try.func81, Try.func83, Try.func79, Try.func84, Try.underlying59, Try.runUnderlying59, Try.sizeOf59, Try.isAgg59, Try.zeroValue59, Try.underlying61, Try.runUnderlying61, Try.sizeOf61, Try.isAgg61, Try.zeroValue61, Try.underlying103, Try.runUnderlying103, Try.sizeOf103, Try.isAgg103, Try.zeroValue103, Try.underlying112, Try.runUnderlying112, Try.sizeOf112, Try.isAgg112, Try.zeroValue112, Try.underlying114, Try.runUnderlying114, Try.sizeOf114, Try.isAgg114, Try.zeroValue114, Try.underlying116, Try.runUnderlying116, Try.sizeOf116, Try.isAgg116, Try.zeroValue116, Try.underlying53, Try.runUnderlying53, Try.sizeOf53, Try.isAgg53, Try.zeroValue53, Try.underlying21, Try.runUnderlying21, Try.sizeOf21, Try.isAgg21, Try.zeroValue21, (by kernel_rfl)⟩
end Go.Proofs.Ytfhgdjajifnfiaa.PA

namespace Go.Proofs.Ytfhgdjajifnfiaa.PA
open Go.RowKit Go.Maps Go.ChangeMaps Go.WideShapes Go.WideMaps Go.MuLone Go.Conc.Locks Go.Sort Go.Proofs.YtfhgdjajifnfiaaW.PrintWords Go.Proofs.YtfhgdjajifnfiaaW.PrintLast Go.Proofs.YtfhgdjajifnfiaaW.PrintMore
set_option linter.unusedVariables false

instance (x y : S27) : Decidable (ltH x y) := by unfold ltH; infer_instance
def leH (x y : S27) : Bool := !decide (ltH y x)
/-- The hooks that are on, in order. -/
def srt (m : Int) (L : List S27) : List S27 := (L.filter (onH m)).mergeSort leH
theorem srt_perm (m : Int) (L : List S27) : (srt m L).Perm (L.filter (onH m)) := List.mergeSort_perm _ _
theorem srt_pw {m : Int} {L : List S27} (U : Uniq L) : (srt m L).Pairwise ltH := by
  refine uniq_perm U (srt_perm m L) ?_
  have h := List.pairwise_mergeSort (le := leH) (fun x y z h1 h2 => ?_) (fun x y => ?_) (L.filter (onH m))
  · refine h.imp fun {x y} a => ?_
    simpa [leH] using a
  · simp only [leH, Bool.not_eq_true', decide_eq_false_iff_not] at h1 h2 ⊢
    exact ltH_ntrans h2 h1
  · simp only [leH, Bool.or_eq_true, Bool.not_eq_true', decide_eq_false_iff_not]
    exact Decidable.byContradiction fun a => by
      have a1 : ltH y x := Decidable.byContradiction fun x => a (.inl x)
      have a2 : ltH x y := Decidable.byContradiction fun x => a (.inr x)
      exact ltH_irrefl _ (ltH_trans a1 a2)
theorem srt_eq {m : Int} {L ys : List S27} (U : Uniq L) (h : ys.Perm (L.filter (onH m))) (hp : ys.Pairwise ltH) : ys = srt m L :=
  List.Perm.eq_of_pairwise (fun x y _ _ h1 h2 => absurd (ltH_trans h1 h2) (ltH_irrefl x)) hp (srt_pw U) (h.trans (srt_perm m L).symm)
/-- A registry, its sorted row told. -/
abbrev RegS (b mb : Nat) (A : Option Addr) (m : Int) (L : List S27) (sl : Bool) (st : Int) (w : World) : Prop := Reg b mb A m L sl (if sl then srt m L else []) st w
/-- '(*sync/atomic.Bool).Store(true)', entered as a deferred call. -/
theorem store_d (a : Addr) (x : Value) (u : FrameMode) (w : World) (hc : w.cell? a = some x) (hz : w.frozen? a = false) :
    CallsD Try.prog 58 #[.pointer (some a), .bool true] u w fun e u' w' => u' = u ∧ (e = .returned (.tuple #[]) ∧ w' = w.drew.setCell a (.int .u32 1)) := by
  have hc' : w.drew.cell? a = some x := by go_simp
  have hz' : w.drew.frozen? a = false := by go_simp
  have hst := run_call_store (P := Try.prog) Try.func71 (by kernel_rfl) (by kernel_rfl) (by kernel_rfl) (by kernel_rfl) (k := .u32) (y := 1) hc' hz'
  go_enter_d Try.func58, Try.ntmps58
  go_wp2
  go_region_calls
  all_goals (go_end0; exact ⟨rfl, rfl⟩)
set_option maxRecDepth 100000 in
set_option maxHeartbeats 2000000 in
theorem slow_once {b mb g : Nat} {A : Option Addr} {m : Int} {L : List S27} {st : Int} (w : World) (hr : RegS b mb A m L false st w) (hg : w.cell? ⟨g, 0, none⟩ = some (.pointer (some ⟨b, 0, none⟩))) (hgb : g ≠ b) (hL : L.length ≤ 100000) :
    Calls Try.prog 50 #[.pointer (some ⟨b, 2, none⟩), .func (.func 41) #[] #[.pointer (some ⟨g, 0, none⟩)]] w fun e w' => e = .returned (.tuple #[]) ∧ ∃ A', RegS b mb A' m L true st w' ∧ Only (fun j => j = b) w w' ∧ ∀ a, A' = some a → w.heap.size ≤ a.block := by
  obtain ⟨w1, hw1⟩ : ∃ w1, w.setCell ⟨b, 3, none⟩ (.int .i32 1) = w1 := ⟨_, rfl⟩
  have o : ∀ j, j ≠ 3 → w1.cell? ⟨b, j, none⟩ = w.cell? ⟨b, j, none⟩ := fun j hj => by rw [← hw1]; exact World.cell?_setCell_other _ ⟨b, 3, none⟩ ⟨b, j, none⟩ _ (by intro e; apply hj; have h := congrArg Addr.off e; first | exact h | exact h.symm)
  have hs1 : w1.heap.size = w.heap.size := by rw [← hw1, World.size_setCell]
  have k1 : ∀ j, j ≠ b → w1.heap[j]? = w.heap[j]? := fun j hj => by rw [← hw1]; exact Below.heap_setCell _ _ _ _ hj
  have f1 : ∀ j, w1.frozen? ⟨b, j, none⟩ = false := fun j => by rw [← hw1]; simp [hr.fz j]
  have g1 : w1.cell? ⟨g, 0, none⟩ = some (.pointer (some ⟨b, 0, none⟩)) := (World.cell?_of_block (w := w) (a := ⟨g, 0, none⟩) (k1 g hgb)).trans hg
  have ho1 : Only (fun j => j = b) w w1 := ⟨by rw [← hw1]; rfl, by rw [← hw1]; rfl, by rw [← hw1]; rfl, by omega, fun j _ hn => k1 j hn⟩
  have HO := Aside0.mk (close_loop b mb g m L w1 g1 ((o 0 (by decide)).trans hr.c0) ((o 1 (by decide)).trans hr.c1) ((o 5 (by decide)).trans hr.c5) ((o 6 (by decide)).trans (hr.un rfl)) f1 (ownsMap_keep hr.mp (k1 mb hr.ne)) hr.uq hr.ne hgb hL)
  have c21 := (o 2 (by decide)).trans hr.c2
  have c31 : w1.cell? ⟨b, 3, none⟩ = some (.int .i32 1) := by rw [← hw1]; exact World.cell?_setCell_same _ _ _ hr.c3
  have hl := run_call_load (P := Try.prog) Try.func55 (by kernel_rfl) (by kernel_rfl) (by kernel_rfl) .u32 (by kernel_rfl) (w := w1) (a := ⟨b, 2, none⟩) (x := 0) c21
  have hnot : ∀ (x : Bool) (w : World), (Op.unary .not (.bool x)).run Try.prog w = .ok (.bool (!x)) w := fun _ _ => rfl
  have hlock := Aside0.mk (lock_free muLib ⟨b, 3, none⟩ w hr.c3 (hr.fz 3))
  have HR := Aside0.mk hr
  have HO1 := Aside0.mk ho1
  have HC2 := Aside0.mk c21
  have HC3 := Aside0.mk c31
  have HOO := Aside0.mk o
  have HK1 := Aside0.mk k1
  clear hr ho1 f1 o k1 c31 c21 hg g1
  go_enter_defers Try.func50, Try.ntmps50
  go_wp2_with (first | (go_at_call 56; refine hlock.out.mono ?_; rintro e w' ⟨rfl, rfl⟩; rw [hw1]) | (go_at_call 49; go_in))
  refine HO.out.mono ?_
  rintro e w2 ⟨rfl, hcl⟩
  have d2 : w2.cell? ⟨b, 2, none⟩ = some (.int .u32 0) := (hcl.ce 2 (by decide) (by decide)).trans HC2.out
  have d3 : w2.cell? ⟨b, 3, none⟩ = some (.int .i32 1) := (hcl.ce 3 (by decide) (by decide)).trans HC3.out
  have HN := Aside0.mk hcl
  have HF := Aside0.mk hcl.fz
  clear hcl HO hl hlock
  go_wp2
  refine leaves_cons (f := 58) (args := #[.pointer (some ⟨b, 2, none⟩), .bool true]) (by simp) (by simp [go_sem]) ?_
  refine (store_d ⟨b, 2, none⟩ (.int .u32 0) .returning _ d2 (HF.out 2)).mono ?_
  rintro e u' w3 ⟨rfl, rfl, rfl⟩
  refine leaves_cons (f := 57) (args := #[.pointer (some ⟨b, 3, none⟩)]) (by simp [settle]) (by simp [go_sem]) ?_
  refine (unlock_deferred muLib ⟨b, 3, none⟩ _ _ ?_ (by simp [HF.out 3])).mono ?_
  · refine (World.cell?_setCell_other _ ⟨b, 2, none⟩ ⟨b, 3, none⟩ _ (by simp)).trans ?_
    rw [World.cell?_drew]
    exact d3
  rintro e u' w4 ⟨rfl, rfl, rfl⟩
  have hfin : ∃ A', RegS b mb A' m L true st ((w2.drew.setCell ⟨b, 2, none⟩ (.int .u32 1)).setCell ⟨b, 3, none⟩ (.int .i32 0)) ∧ Only (fun j => j = b) w ((w2.drew.setCell ⟨b, 2, none⟩ (.int .u32 1)).setCell ⟨b, 3, none⟩ (.int .i32 0)) ∧ ∀ a, A' = some a → w.heap.size ≤ a.block := by
    obtain ⟨so, A', c, h6, hc, hrow, hpm, hpw, hA⟩ := HN.out.so
    have hr := HR.out
    have heq := srt_eq hr.uq hpm hpw
    have h2 := HN.out.only.size
    have hlt := hr.lt
    have kk : ∀ j, j ≠ 2 → j ≠ 3 → ((w2.drew.setCell ⟨b, 2, none⟩ (.int .u32 1)).setCell ⟨b, 3, none⟩ (.int .i32 0)).cell? ⟨b, j, none⟩ = w2.cell? ⟨b, j, none⟩ := fun j j2 j3 => by
      rw [World.cell?_setCell_other _ ⟨b, 3, none⟩ ⟨b, j, none⟩ _ (by intro e; apply j3; have h := congrArg Addr.off e; first | exact h | exact h.symm), World.cell?_setCell_other _ ⟨b, 2, none⟩ ⟨b, j, none⟩ _ (by intro e; apply j2; have h := congrArg Addr.off e; first | exact h | exact h.symm), World.cell?_drew]
    have kb : ∀ j, j ≠ b → ((w2.drew.setCell ⟨b, 2, none⟩ (.int .u32 1)).setCell ⟨b, 3, none⟩ (.int .i32 0)).heap[j]? = w2.heap[j]? := fun j hj => by
      rw [Below.heap_setCell _ _ _ _ hj, Below.heap_setCell _ _ _ _ hj]
      rfl
    have kw : ∀ j, j ≠ 3 → j ≠ 5 → j ≠ 6 → w2.cell? ⟨b, j, none⟩ = w.cell? ⟨b, j, none⟩ := fun j j3 j5 j6 => (HN.out.ce j j5 j6).trans (HOO.out j j3)
    have hmlt := hr.mp.lt
    have hsz : ((w2.drew.setCell ⟨b, 2, none⟩ (.int .u32 1)).setCell ⟨b, 3, none⟩ (.int .i32 0)).heap.size = w2.heap.size := by simp
    have hne := hr.ne
    refine ⟨A', { lt := by omega, fz := fun j => (by simp; exact HF.out j), c0 := ((kk 0 (by decide) (by decide)).trans (kw 0 (by decide) (by decide) (by decide))).trans hr.c0, c1 := ((kk 1 (by decide) (by decide)).trans (kw 1 (by decide) (by decide) (by decide))).trans hr.c1, mp := ownsMap_keep hr.mp ((kb mb hne).trans ((HN.out.only.block mb (by omega) hne).trans (HK1.out mb hne))), uq := hr.uq, c2 := ?_, c3 := ?_, c5 := (kk 5 (by decide) (by decide)).trans HN.out.c5, c6 := ⟨c, by rw [if_pos rfl, ← heq]; exact (kk 6 (by decide) (by decide)).trans h6, by rw [if_pos rfl, ← heq]; exact hc⟩, ro := ?_, un := fun h => (by cases h), c7 := ((kk 7 (by decide) (by decide)).trans (kw 7 (by decide) (by decide) (by decide))).trans hr.c7, ne := hne, na := fun a ha => by have := hA a ha; omega }, ?_, fun a ha => by have := (hA a ha).1; omega⟩
    · rw [World.cell?_setCell_other _ ⟨b, 3, none⟩ ⟨b, 2, none⟩ _ (by simp), World.cell?_setCell_same _ _ _ (by rw [World.cell?_drew]; exact d2)]
      rfl
    · exact World.cell?_setCell_same _ _ _ ((World.cell?_setCell_other _ ⟨b, 2, none⟩ ⟨b, 3, none⟩ _ (by simp)).trans d3)
    · rw [if_pos rfl, ← heq]
      exact hrow.keep fun a ha => kb a.block (by have := hA a ha; omega)
    · exact ((HO1.out.trans HN.out.only).drew.trans (Only.set _ ⟨b, 2, none⟩ _ rfl)).trans (Only.set _ ⟨b, 3, none⟩ _ rfl)
  have HFin := Aside0.mk hfin
  clear hfin
  simp [Leaves, settle, results, Try.results50]
  exact HFin.out
end Go.Proofs.Ytfhgdjajifnfiaa.PA

namespace Go.Proofs.Ytfhgdjajifnfiaa.PA
open Go.RowKit Go.Maps Go.ChangeMaps Go.WideShapes Go.WideMaps Go.MuLone Go.Conc.Locks Go.Sort Go.Proofs.YtfhgdjajifnfiaaW.PrintWords Go.Proofs.YtfhgdjajifnfiaaW.PrintLast Go.Proofs.YtfhgdjajifnfiaaW.PrintMore
set_option linter.unusedVariables false

set_option maxRecDepth 100000 in
set_option maxHeartbeats 1600000 in
/-- Do, not yet done. -/
theorem do_first {b mb g : Nat} {A : Option Addr} {m : Int} {L : List S27} {st : Int} (w : World) (hr : RegS b mb A m L false st w) (hg : w.cell? ⟨g, 0, none⟩ = some (.pointer (some ⟨b, 0, none⟩))) (hgb : g ≠ b) (hL : L.length ≤ 100000) :
    Calls Try.prog 40 #[.pointer (some ⟨b, 2, none⟩), .func (.func 41) #[] #[.pointer (some ⟨g, 0, none⟩)]] w fun e w' => e = .returned (.tuple #[]) ∧ ∃ A', RegS b mb A' m L true st w' ∧ Only (fun j => j = b) w w' ∧ ∀ a, A' = some a → w.heap.size ≤ a.block := by
  have hl := run_call_load (P := Try.prog) Try.func55 (by kernel_rfl) (by kernel_rfl) (by kernel_rfl) .u32 (by kernel_rfl) hr.c2
  have hnot : ∀ (x : Bool) (w : World), (Op.unary .not (.bool x)).run Try.prog w = .ok (.bool (!x)) w := fun _ _ => rfl
  have HS := Aside0.mk (slow_once w hr hg hgb hL)
  clear hr
  go_enter Try.func40, Try.ntmps40
  go_wp2_with (first | (go_at_call 50; refine HS.out.mono ?_; rintro e w' ⟨rfl, hd⟩) | (go_at_call 49; go_in))
  go_end0
  exact ⟨rfl, hd⟩
set_option maxRecDepth 100000 in
/-- Do, done. -/
theorem do_again {b mb g : Nat} {A : Option Addr} {m : Int} {L : List S27} {st : Int} (f : Value) (w : World) (hr : RegS b mb A m L true st w) :
    Calls Try.prog 40 #[.pointer (some ⟨b, 2, none⟩), f] w fun e w' => e = .returned (.tuple #[]) ∧ w' = w := by
  have hl := run_call_load (P := Try.prog) Try.func55 (by kernel_rfl) (by kernel_rfl) (by kernel_rfl) .u32 (by kernel_rfl) hr.c2
  have hnot : ∀ (x : Bool) (w : World), (Op.unary .not (.bool x)).run Try.prog w = .ok (.bool (!x)) w := fun _ _ => rfl
  clear hr
  go_enter Try.func40, Try.ntmps40
  go_wp2_with (go_at_call 49; go_in)
  go_end0
  exact ⟨rfl, rfl⟩
/-- close. -/
theorem close_calls {b mb : Nat} {A : Option Addr} {m : Int} {L : List S27} {sl : Bool} {st : Int} (w : World) (hr : RegS b mb A m L sl st w) (hL : L.length ≤ 100000) :
    Calls Try.prog 36 #[.pointer (some ⟨b, 0, none⟩)] w fun e w' => e = .returned (.tuple #[]) ∧ ∃ A', RegS b mb A' m L true st w' ∧ Only (fun j => j = b) w w' ∧ ∀ a, A' = some a → A' = A ∨ w.heap.size ≤ a.block := by
  have hlt := hr.lt
  have hra : ∀ ob : Obj, RegS b mb A m L sl st (w.alloc ob) := fun ob => hr.keep_only (Only.alloc (F := fun _ => False) w ob) (fun _ _ x => x)
  have hg : ∀ v : Value, (w.alloc (.cells #[v] 28)).cell? ⟨w.heap.size, 0, none⟩ = some v := fun v => cell_at (heap_alloc_new w _) 0
  cases sl with
  | true =>
    have HD := Aside0.mk (fun ob f => do_again (g := 0) f (w.alloc ob) (hra ob))
    have HA := Aside0.mk hra
    clear hra hr hg
    go_enter Try.func36, Try.ntmps36
    go_wp2_with (go_at_call 40; refine (HD.out _ _).mono ?_; rintro e w' ⟨rfl, rfl⟩)
    go_end0
    exact ⟨rfl, A, HA.out _, Only.alloc w _, fun a ha => .inl rfl⟩
  | false =>
    have HD := Aside0.mk (do_first (g := w.heap.size) _ (hra (.cells #[.pointer (some ⟨b, 0, none⟩)] 28)) (hg _) (by omega) hL)
    clear hra hr hg
    go_enter Try.func36, Try.ntmps36
    go_wp2_with (go_at_call 40; refine HD.out.mono ?_; rintro e w' ⟨rfl, A', h1, h2, h3⟩)
    go_end0
    exact ⟨rfl, A', h1, (Only.alloc w _).trans h2, fun a ha => .inr (by have := h3 a ha; simp at this; omega)⟩
/-- The closures of the three questions. -/
theorem sorted_is (g : Nat) (p : Int) (h : S27) (W : World) (hc : W.cell? ⟨g, 0, none⟩ = some (.int .i64 p)) :
    Calls Try.prog 29 #[hv h, .pointer (some ⟨g, 0, none⟩)] W fun e w' => e = .returned (.bool (h.f1 == p)) ∧ Below W.heap.size W w' := by
  have hlt : g < W.heap.size := World.block_lt_of_cell? W _ hc
  have c0a : ∀ o : Obj, (W.alloc o).cell? ⟨g, 0, none⟩ = some (.int .i64 p) := fun o => (World.cell?_of_block (w := W) (a := ⟨g, 0, none⟩) (Below.heap_alloc _ _ _ hlt)).trans hc
  go_enter Try.func29, Try.ntmps29
  go_wp2
  go_ret
  exact ⟨rfl, (Below.refl _ _).alloc (Nat.le_refl _) _⟩
end Go.Proofs.Ytfhgdjajifnfiaa.PA

namespace Go.Proofs.Ytfhgdjajifnfiaa.PA
open Go.RowKit Go.Maps Go.ChangeMaps Go.WideShapes Go.WideMaps Go.MuLone Go.Conc.Locks Go.Sort Go.Proofs.YtfhgdjajifnfiaaW.PrintWords Go.Proofs.YtfhgdjajifnfiaaW.PrintLast Go.Proofs.YtfhgdjajifnfiaaW.PrintMore
set_option linter.unusedVariables false

end Go.Proofs.Ytfhgdjajifnfiaa.PA

namespace Go.Proofs.Ytfhgdjajifnfiaa.PA
open Go.RowKit Go.Maps Go.ChangeMaps Go.WideShapes Go.WideMaps Go.MuLone Go.Conc.Locks Go.Sort Go.Proofs.YtfhgdjajifnfiaaW.PrintWords Go.Proofs.YtfhgdjajifnfiaaW.PrintLast Go.Proofs.YtfhgdjajifnfiaaW.PrintMore
set_option linter.unusedVariables false

/-- What a question leaves: the registry sealed, a new row. -/
structure Ans (b mb : Nat) (A : Option Addr) (m : Int) (L : List S27) (st : Int) (l : List S27) (w : World) (e : Ending) (w' : World) : Prop where
  row : ∃ A2 c, e = .returned (.slice A2 l.length c) ∧ l.length ≤ c ∧ Row w' A2 l ∧ ∀ a, A2 = some a → w.heap.size ≤ a.block ∧ a.block < w'.heap.size
  reg : ∃ A', RegS b mb A' m L true st w' ∧ ∀ a, A' = some a → A' = A ∨ w.heap.size ≤ a.block
  only : Only (fun j => j = b) w w'
theorem Reg.own_lt {b mb : Nat} {A : Option Addr} {m : Int} {L : List S27} {sl : Bool} {so : List S27} {st : Int} {w : World} (h : Reg b mb A m L sl so st w) (j : Nat) (hj : Own3 b mb A j) : ¬ (w.heap.size ≤ j) := by
  rcases hj with rfl | rfl | ⟨a, ha, rfl⟩
  · have := h.lt; omega
  · have := h.mp.lt; omega
  · have := (h.na a ha).1; omega
theorem take_snoc {so : List S27} {j : Nat} {p : S27 → Bool} (hj : j < so.length) : (so.take (j + 1)).filter p = if p (so.getD j z27) then (so.take j).filter p ++ [so.getD j z27] else (so.take j).filter p := by
  rw [List.take_add_one, List.filter_append, List.getD_eq_getElem?_getD, List.getElem?_eq_getElem hj]
  simp only [Option.toList_some, Option.getD_some, List.filter_cons, List.filter_nil]
  split <;> simp
set_option maxHeartbeats 4000000 in
set_option maxRecDepth 100000 in
theorem those_calls {b mb : Nat} {A : Option Addr} {m : Int} {L : List S27} {sl : Bool} {st : Int} (w : World) (hr : RegS b mb A m L sl st w) (hL : L.length ≤ 100000) (f : Nat) (bs : Array Value) (p : S27 → Bool) (J : Nat → Prop) (hJ : ∀ j, J j → j < w.heap.size ∧ j ≠ b)
    (ef : ∀ args w, (callFunc f args).run Try.prog w = .ok (.enter f args) w)
    (hf : ∀ h W, (∀ j, J j → W.heap[j]? = w.heap[j]?) → Calls Try.prog f (#[hv h] ++ bs) W fun e W' => e = .returned (.bool (p h)) ∧ Below W.heap.size W W') :
    Calls Try.prog 28 #[.pointer (some ⟨b, 0, none⟩), .func (.func f) #[] bs] w (Ans b mb A m L st ((srt m L).filter p) w) := by
  have HC := Aside0.mk (close_calls w hr hL)
  have HF := Aside0.mk hf
  have HJ := Aside0.mk hJ
  have hsl : (srt m L).length ≤ 100000 := Nat.le_trans (Nat.le_of_eq (srt_perm m L).length_eq) (Nat.le_trans (List.length_filter_le _ _) hL)
  clear hr hf hJ
  go_enter Try.func28, Try.ntmps28
  go_wp2_with fail
  refine HC.out.mono ?_
  rintro e w1 ⟨rfl, A', hr1, ho1, hA1⟩
  obtain ⟨c6, h6, hc6⟩ := hr1.c6
  rw [if_pos rfl] at h6 hc6
  have hrow : Row w1 A' (srt m L) := by have := hr1.ro; rwa [if_pos rfl] at this
  obtain ⟨so, hso⟩ : ∃ so, srt m L = so := ⟨_, rfl⟩
  have HR1 := Aside0.mk hr1
  have HO1 := Aside0.mk ho1
  have HA1 := Aside0.mk hA1
  have HSO := Aside0.mk hso
  rw [hso] at h6 hc6 hrow hsl
  have HROW := Aside0.mk hrow
  have hap : ∀ a, A' = some a → a.block < w1.heap.size := fun a ha => (hr1.na a ha).1
  have hblt := hr1.lt
  have HAP := Aside0.mk hap
  clear hr1 ho1 hA1 HC hrow hap hso
  go_wp2_with fail
  go_loopw [5, 17] (fun v5 v17 wr => ∃ j : Nat, v17 = .int .i64 (j : Int) ∧ j ≤ so.length ∧ Aside0 (k27.R 27 wr w1.heap.size (fun _ => True) v5 ((so.take j).filter p)) ∧ Aside0 (Below w1.heap.size w1 wr)) (fun _ v17 _ => so.length - (intOf v17).toNat)
  case atStart => exact ⟨0, rfl, Nat.zero_le _, ⟨Kd.R_nil _ _ _ _ _⟩, ⟨Below.refl _ _⟩⟩
  case round =>
    obtain ⟨j, rfl, hj, HO, HB⟩ := hrel
    by_cases hlt : j < so.length
    · have q1 : decide ((j : Int) < (so.length : Int)) = true := decide_eq_true (by omega)
      have p0 : 0 ≤ (j : Int) := by omega
      have p1 : (j : Int) < (so.length : Int) := by omega
      have hrw : Row wr A' so := HROW.out.keep fun a ha => HB.out.block _ (HAP.out a ha)
      obtain ⟨ad, e1, x0, x1, x2, x3, x4⟩ := at_T27 hrw (j : Int) p0 p1
      cases e1
      have ej : rd_T27 so (j : Int) = so.getD j z27 := rfl
      have HEJ := Aside0.mk ej
      clear ej hrw
      obtain ⟨h, hh⟩ : ∃ h, rd_T27 so (j : Int) = h := ⟨_, rfl⟩
      rw [hh] at x0 x1 x2 x3 x4
      simp only [Int.toNat_natCast] at x0 x1 x2 x3 x4
      have HH := Aside0.mk hh
      clear hh
      replace p0 := eq_true p0
      replace p1 := eq_true p1
      have HC2 := Aside0.mk (HF.out h (wr.alloc (.cells #[.string h.f0, .int .i64 h.f1, .int .i64 h.f2, .string h.f3, .int .i64 h.f4] 27)) (fun i hi => by
        have h1 := HJ.out i hi
        have h2 := HO1.out.size
        have h3 := HB.out.size
        rw [Below.heap_alloc _ _ _ (by omega), HB.out.block i (by omega)]
        exact HO1.out.block i h1.1 h1.2))
      have hwn : wr.heap.size < (wr.alloc (.cells #[.string h.f0, .int .i64 h.f1, .int .i64 h.f2, .string h.f3, .int .i64 h.f4] 27)).heap.size := by simp
      have HWN := Aside0.mk hwn
      clear hwn
      go_wp2_with fail
      refine HC2.out.mono ?_
      rintro e w4 ⟨rfl, hb4⟩
      have HB4 := Aside0.mk (below_step (below_alloc HB.out _) hb4)
      have HO4 := Aside0.mk (Kd.R_below (Kd.R_alloc HO.out _) hb4)
      have hbk : w4.heap[wr.heap.size]? = some (.cells #[.string h.f0, .int .i64 h.f1, .int .i64 h.f2, .string h.f3, .int .i64 h.f4] 27 (0, 0)) := (hb4.block _ HWN.out).trans (heap_alloc_new _ _)
      have e0 : w4.cell? ⟨wr.heap.size, 0, none⟩ = some (.string h.f0) := cell_at hbk 0
      have e1 : w4.cell? ⟨wr.heap.size, 1, none⟩ = some (.int .i64 h.f1) := cell_at hbk 1
      have e2 : w4.cell? ⟨wr.heap.size, 2, none⟩ = some (.int .i64 h.f2) := cell_at hbk 2
      have e3 : w4.cell? ⟨wr.heap.size, 3, none⟩ = some (.string h.f3) := cell_at hbk 3
      have e4 : w4.cell? ⟨wr.heap.size, 4, none⟩ = some (.int .i64 h.f4) := cell_at hbk 4
      have hst := HSO.out
      have hts := take_snoc (p := p) hlt
      rw [← HEJ.out, HH.out] at hts
      have HTS := Aside0.mk hts
      clear hb4 hbk HC2 HB HO hst hts x0 x1 x2 x3 x4
      cases hp : p h with
      | false =>
        go_wp2
        go_roundw
        case rel => exact ⟨j + 1, by simp, by omega, ⟨by rw [HTS.out, hp]; exact HO4.out⟩, HB4⟩
        case measure => simp [intOf]; omega
      | true =>
        have hsz := HB4.out.size
        have hll : ((so.take j).filter p).length ≤ 100000 := Nat.le_trans (List.length_filter_le _ _) (by rw [List.length_take]; omega)
        have HSZ := Aside0.mk hsz
        have HLL := Aside0.mk hll
        clear hsz hll
        go_wp2_with (((with_reducible refine gate_builtin (b := .append) (xs := #[.tmp 24, .tmp 26]) rfl ?_); at_builtin; refine Kd.R_append k27 (w0 := w1) w1.heap.size rfl (.tmp 24) (.tmp 26) 23 27 (.agg #[(.string ⟨#[]⟩), (.int .i64 0), (.int .i64 0), (.string ⟨#[]⟩), (.int .i64 0)]) 56 rfl Try.underlying23 info27 rfl (by decide) (by omega) u5 ((so.take j).filter p) h (hcs h) (fun _ => True) (fun _ => False) rfl rfl ?aP (fun _ hk => hk.elim) ?aF ?aO ?aB ?aS ?aL ?_; (case aP => exact k27_mkM _ _ _ h); (case aB => exact HB4.out); (case aF => exact (fun _ _ => trivial)); (case aO => exact HO4.out); (case aS => exact HSZ.out); (case aL => have := HLL.out; omega); intro v6 w6 ho hb hg hat; have HO6 := Aside0.mk ho; have HB6 := Aside0.mk hb; clear ho hb hg hat))
        go_roundw
        case rel => exact ⟨j + 1, by simp, by omega, ⟨by rw [HTS.out, hp]; exact HO6.out⟩, HB6⟩
        case measure => simp [intOf]; omega
    · have hje : j = so.length := by omega
      subst hje
      have q1 : decide ((so.length : Int) < (so.length : Int)) = false := decide_eq_false (by omega)
      have q2 : so.take so.length = so := List.take_length
      have hO := HO.out
      rw [q2] at hO
      obtain ⟨A2, c2, rfl, hc2, hC2⟩ := Kd.R_reads hO
      have HO2 := Aside0.mk hO
      clear hO HO
      go_wp2
      go_ret
      rw [HSO.out]
      refine ⟨⟨A2, c2, ?_, hc2, hC2, fun a ha => ?_⟩, ⟨A', ?_, HA1.out⟩, ?_⟩
      · rfl
      · subst ha
        have h1 := Kd.R_lt HO2.out a.block rfl
        obtain ⟨inner, hown⟩ := Kd.R_own HO2.out
        exact ⟨Nat.le_trans HO1.out.size (hown.lt a.block rfl).1, h1⟩
      · exact HR1.out.keep_only (Below.only (F := fun j => w1.heap.size ≤ j) HB.out (fun j hj _ => hj)) (fun j hj hj2 => HR1.out.own_lt j hj hj2)
      · exact HO1.out.trans (Below.only HB.out (fun j hj hj2 => by omega))
end Go.Proofs.Ytfhgdjajifnfiaa.PA
