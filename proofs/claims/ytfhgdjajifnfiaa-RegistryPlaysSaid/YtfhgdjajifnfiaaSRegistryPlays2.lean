/-
  Texts of the proof of RegistryPlays, part 2 of 3: contracts and plain laws. Conditions: see each statement.
-/
import Derived.Test.YtfhgdjajifnfiaaSRegistryPlays1
import Derived.Deep.RegionLaw
import Derived.Deep.AppendLies
import Derived.Test.YtfhgdjajifnfiaaProg
import Derived.Conc.MuLone
import Derived.KernelRfl
import Derived.Defers
import Derived.RegionCalls
import Derived.Deep.DeepCutAuto
import Derived.IntWalk
import Derived.Lib.IndexAny
set_option linter.unusedVariables false
namespace Go.Proofs.Ytfhgdjajifnfiaa.PA
open Go.RowKit Go.Maps Go.ChangeMaps Go.WideShapes Go.WideMaps Go.Sort Go.Proofs.YtfhgdjajifnfiaaW.PrintWords Go.Proofs.YtfhgdjajifnfiaaW.PrintLast Go.Proofs.YtfhgdjajifnfiaaW.PrintMore
set_option linter.unusedVariables false

set_option maxHeartbeats 4000000 in
set_option maxRecDepth 100000 in
theorem close_loop (b mb g : Nat) (m : Int) (L : List S27) (w : World) (hg : w.cell? ⟨g, 0, none⟩ = some (.pointer (some ⟨b, 0, none⟩))) (c0 : w.cell? ⟨b, 0, none⟩ = some (.int .i64 m)) (c1 : w.cell? ⟨b, 1, none⟩ = some (.map (some mb)))
    (c5 : w.cell? ⟨b, 5, none⟩ = some (.bool false)) (c6 : w.cell? ⟨b, 6, none⟩ = some (.slice none 0 0)) (fz : ∀ j, w.frozen? ⟨b, j, none⟩ = false) (mp : w.ownsMap Try.prog 9 hookR mb L.length (mapD L)) (U : Uniq L) (hbm : mb ≠ b) (hgb : g ≠ b) (hL : L.length ≤ 100000) :
    Calls Try.prog 41 #[.pointer (some ⟨g, 0, none⟩)] w fun e w' => e = .returned (.tuple #[]) ∧ Cl b m L w w' := by
  obtain ⟨i0, hi, hi0, hi1, hi2⟩ := info_parts info27
  have hb : b < w.heap.size := World.block_lt_of_cell? w _ c0
  have hgl : g < w.heap.size := World.block_lt_of_cell? w _ hg
  have f5 := fz 5
  obtain ⟨w1, hw1⟩ : ∃ w1, w.setCell ⟨b, 5, none⟩ (.bool true) = w1 := ⟨_, rfl⟩
  have hs1 : w1.heap.size = w.heap.size := by rw [← hw1, World.size_setCell]
  have k1 : ∀ j, j ≠ b → w1.heap[j]? = w.heap[j]? := fun j hj => by rw [← hw1]; exact Below.heap_setCell _ _ _ _ hj
  have o : ∀ j, j ≠ 5 → w1.cell? ⟨b, j, none⟩ = w.cell? ⟨b, j, none⟩ := fun j hj => by rw [← hw1]; exact World.cell?_setCell_other _ ⟨b, 5, none⟩ ⟨b, j, none⟩ _ (by intro e; apply hj; have h := congrArg Addr.off e; first | exact h | exact h.symm)
  have f1 : ∀ j, w1.frozen? ⟨b, j, none⟩ = false := fun j => by rw [← hw1]; simp [fz j]
  have g1 : w1.cell? ⟨g, 0, none⟩ = some (.pointer (some ⟨b, 0, none⟩)) := (World.cell?_of_block (w := w) (a := ⟨g, 0, none⟩) (k1 g hgb)).trans hg
  have a0 := (o 0 (by decide)).trans c0
  have a1 := (o 1 (by decide)).trans c1
  have a6 := (o 6 (by decide)).trans c6
  have a5 : w1.cell? ⟨b, 5, none⟩ = some (.bool true) := by rw [← hw1]; exact World.cell?_setCell_same _ _ _ c5
  have mp1 := ownsMap_keep mp (k1 mb hbm)
  have hb1 : b < w1.heap.size := by omega
  have hgl1 : g < w1.heap.size := by omega
  have HS1 := Aside0.mk hs1
  have ho1 : Only (fun j => j = b) w w1 := ⟨by rw [← hw1]; rfl, by rw [← hw1]; rfl, by rw [← hw1]; rfl, by omega, fun j _ hn => k1 j hn⟩
  have HO1 := Aside0.mk ho1
  have HOO := Aside0.mk o
  have HA5 := Aside0.mk a5
  have HU := Aside0.mk U
  clear ho1
  have MP := Aside0.mk mp1
  have F1 := Aside0.mk f1
  have A0 := Aside0.mk a0
  have A6 := Aside0.mk a6
  have G1 := Aside0.mk g1
  clear mp mp1 f1 o k1 c0 c1 c6 a0 a6 hs1
  go_enter Try.func41, Try.ntmps41
  go_wp2_with (at_range; refine wpList_range_own _ rfl _ 51 rfl 9 27 (string_keyed Try.underlying9) Try.underlying51 hookR mb L.length (mapD L) rfl MP.out ?_; intro w2 hrg2 hg2 hs2)
  go_frame
  have HRG2 := Aside0.mk hrg2
  have HG2 := Aside0.mk hg2
  clear hrg2 hg2 hs2
  go_loopw [2] (fun v2 wr => ∃ left cnt ss v6, Aside0 (wr.ranges Try.prog 9 hookR mb w1.heap.size L.length (mapD L) left cnt) ∧ Aside0 (Met L left ss) ∧ ss.length + cnt ≤ L.length ∧ Aside0 (wr.cell? ⟨b, 6, none⟩ = some v6) ∧ Aside0 (wr.ownsRow (w1.heap.size + 1) 27 5 v6 (ss.filter (onH m)).length ((ss.filter (onH m)).flatMap hcs)) ∧ Aside0 (Kp b g w1 wr) ∧ w1.heap.size + 1 ≤ wr.heap.size) (fun _ wr => wr.rangeLeft mb w1.heap.size)
  case atStart =>
    have hk := (Kp.refl b g w1).grown (by omega) HG2.out (fun j e => by cases e)
    have h6 : w2.cell? ⟨b, 6, none⟩ = some (.slice none 0 0) := (World.cell?_of_block (w := w1) (a := ⟨b, 6, none⟩) (HG2.out.block b (by omega) (by simp))).trans A6.out
    exact ⟨_, _, [], _, HRG2, ⟨met_start L⟩, by rw [size_mapD]; simp, ⟨h6⟩, ⟨World.ownsRow_nil _ _ _ _⟩, ⟨hk⟩, HRG2.out.lt⟩
  case round =>
    clear HRG2 HG2
    obtain ⟨left, cnt, ss, v6, HRG, HM, hcn, H6, HOW, HK, hsz⟩ := hrel
    have hrg := HRG.out
    go_wp2_with (at_next; refine wpList_next_ranges _ rfl _ rfl 9 (string_keyed Try.underlying9) hookR Go.Proofs.encStr hv (fun key kl hk => by obtain ⟨x, hx, _⟩ := Maps.keyOf_str Try.underlying9 hk; exact ⟨x, hx⟩) (fun v y hv => by obtain ⟨c, rfl, _⟩ := hookR_inv hv; exact ⟨c, rfl⟩) mb w1.heap.size L.length (mapD L) left cnt rfl hrg ?_ ?_)
    · intro hc0 hl0
      have hper := met_end U HM.out hl0
      have h6 := H6.out
      have hg6 : wr.cell? ⟨g, 0, none⟩ = some (.pointer (some ⟨b, 0, none⟩)) := (World.cell?_of_block (w := w1) (a := ⟨g, 0, none⟩) (HK.out.only.block g hgl1 hgb)).trans G1.out
      have HPER := Aside0.mk hper
      clear hper hrg hl0
      have HFL := Aside0.mk (show (ss.filter (onH m)).length ≤ 100000 from Nat.le_trans (List.length_filter_le _ _) (by omega))
      go_wp2_with fail
      refine (sort_own HOW.out HFL.out).mono ?_
      rintro e w9 ⟨rfl, A, c9, ys, hv6, hc9, hpm, hpw, hrow, hA, hon⟩
      have HFIN := Aside0.mk (cl_mk (by omega) HO1.out HOO.out F1.out HA5.out HS1.out HK.out H6.out HPER.out HU.out hv6 hc9 hpm hpw hrow hA hon)
      clear hv6 hc9 hpm hpw hrow hA hon
      go_wp2
      go_end0
      exact ⟨rfl, HFIN.out⟩
    · intro x c kl yd yp w3 cnt3 hkey hlk hvv hat hrg3 hlt hg3 hs3 hen
      obtain ⟨x', ex, rfl, _⟩ := Maps.keyOf_str Try.underlying9 hkey
      obtain rfl : x = x' := encStr_inj ex
      obtain ⟨rfl, rfl⟩ : hookD c = yd ∧ [] = yp := by
        have := Option.some.inj (show some (hookD c, []) = some (yd, yp) from hvv)
        exact ⟨congrArg Prod.fst this, congrArg Prod.snd this⟩
      obtain ⟨hcL, hx⟩ := at_mapD hat
      have hM3 : Met L (fun z => left z && !z.sameKey (.string x)) (ss ++ [c]) := by
        rw [hx]
        exact met_step U HM.out hcL (by rw [hx] at hlk; exact hlk)
      have hbr := HK.out.only.size
      have hK3 := HK.out.grown (by omega) hg3 (fun j e => by cases e; omega)
      have h63 : w3.cell? ⟨b, 6, none⟩ = some v6 := (World.cell?_of_block (w := wr) (a := ⟨b, 6, none⟩) (hg3.block b (by omega) (by intro e; cases e; omega))).trans H6.out
      have hOW3 : w3.ownsRow (w1.heap.size + 1) 27 5 v6 (ss.filter (onH m)).length ((ss.filter (onH m)).flatMap hcs) := HOW.out.kept hg3 (.inr fun e => by have := (HOW.out.lt _ e).1; omega)
      have hg3' : w3.cell? ⟨g, 0, none⟩ = some (.pointer (some ⟨b, 0, none⟩)) := (World.cell?_of_block (w := w1) (a := ⟨g, 0, none⟩) (hK3.only.block g (by omega) hgb)).trans G1.out
      have hc3 : w3.cell? ⟨b, 0, none⟩ = some (.int .i64 m) := (hK3.ce 0 (by decide)).trans A0.out
      have hs3' : w1.heap.size + 1 ≤ w3.heap.size := by have := hg3.size; omega
      have HON := Aside0.mk (on_calls b m c (w3.alloc (.cells #[.string c.f0, .int .i64 c.f1, .int .i64 c.f2, .string c.f3, .int .i64 c.f4] 27)) ((World.cell?_of_block (w := w3) (a := ⟨b, 0, none⟩) (Below.heap_alloc _ _ _ (by show b < w3.heap.size; omega))).trans hc3))
      have g3a : ∀ ob : Obj, (w3.alloc ob).cell? ⟨g, 0, none⟩ = some (.pointer (some ⟨b, 0, none⟩)) := fun ob => (World.cell?_of_block (w := w3) (a := ⟨g, 0, none⟩) (Below.heap_alloc _ _ _ (by show g < w3.heap.size; omega))).trans hg3'
      have HRG3 := Aside0.mk hrg3
      have HM3 := Aside0.mk hM3
      have HK3 := Aside0.mk hK3
      have H63 := Aside0.mk h63
      have HOW3 := Aside0.mk hOW3
      have HC3 := Aside0.mk hc3
      have HLT := Aside0.mk hlt
      have HLE := Aside0.mk (hrg.left_eq)
      clear hrg3 hM3 hK3 h63 hOW3 hc3 hs3 hrg HRG HM H6 HOW HK hg3 hg3' hat hvv hlk hkey hx hbr
      cases hp : onH m c with
      | false =>
        rw [hp] at HON
        go_wp2_with (go_at_call 42; refine HON.out.mono ?_; rintro e w4 ⟨rfl, hb4⟩)
        have hgr4 : w3.grownBy w4 none := by
          have hb5 := ((Below.refl w3.heap.size w3).alloc (Nat.le_refl _) (.cells #[.string c.f0, .int .i64 c.f1, .int .i64 c.f2, .string c.f3, .int .i64 c.f4] 27)).trans (hb4.mono (by simp))
          exact ⟨hb5.os, hb5.tape, hb5.output, hb5.size, fun j hj _ => hb5.block j hj⟩
        have hrg4 := HRG3.out.kept hgr4 (by simp) (by simp)
        have h64 : w4.cell? ⟨b, 6, none⟩ = some v6 := (World.cell?_of_block (w := w3) (a := ⟨b, 6, none⟩) (hgr4.block b (by omega) (by simp))).trans H63.out
        have hOW4 := HOW3.out.kept hgr4 (by cases v6.ownBlock <;> simp)
        have hK4 := HK3.out.grown (by omega) hgr4 (fun j e => by cases e)
        have hsz4 := hgr4.size
        have hfil : (ss ++ [c]).filter (onH m) = ss.filter (onH m) := by simp [List.filter_append, hp]
        have HRG4 := Aside0.mk hrg4
        clear hrg4
        go_roundw
        case rel => exact ⟨_, cnt3, ss ++ [c], v6, HRG4, HM3, by rw [List.length_append, List.length_singleton]; omega, ⟨h64⟩, ⟨by rw [hfil]; exact hOW4⟩, ⟨hK4⟩, by omega⟩
        case measure =>
          have e1 := HRG4.out.left_eq
          have e2 := HLE.out
          rw [e1, e2]
          exact HLT.out
      | true =>
        rw [hp] at HON
        go_wp2_with (go_at_call 42; refine HON.out.mono ?_; rintro e w4 ⟨rfl, hb4⟩)
        have hwn : w3.heap.size < (w3.alloc (.cells #[.string c.f0, .int .i64 c.f1, .int .i64 c.f2, .string c.f3, .int .i64 c.f4] 27)).heap.size := by simp
        have hgr4 : w3.grownBy w4 none := by
          have hb5 := ((Below.refl w3.heap.size w3).alloc (Nat.le_refl _) (.cells #[.string c.f0, .int .i64 c.f1, .int .i64 c.f2, .string c.f3, .int .i64 c.f4] 27)).trans (hb4.mono (by simp))
          exact ⟨hb5.os, hb5.tape, hb5.output, hb5.size, fun j hj _ => hb5.block j hj⟩
        have hbk : w4.heap[w3.heap.size]? = some (.cells #[.string c.f0, .int .i64 c.f1, .int .i64 c.f2, .string c.f3, .int .i64 c.f4] 27 (0, 0)) := (hb4.block _ hwn).trans (heap_alloc_new _ _)
        have e0 : w4.cell? ⟨w3.heap.size, 0, none⟩ = some (.string c.f0) := cell_at hbk 0
        have e1 : w4.cell? ⟨w3.heap.size, 1, none⟩ = some (.int .i64 c.f1) := cell_at hbk 1
        have e2 : w4.cell? ⟨w3.heap.size, 2, none⟩ = some (.int .i64 c.f2) := cell_at hbk 2
        have e3 : w4.cell? ⟨w3.heap.size, 3, none⟩ = some (.string c.f3) := cell_at hbk 3
        have e4 : w4.cell? ⟨w3.heap.size, 4, none⟩ = some (.int .i64 c.f4) := cell_at hbk 4
        have hrg4 := HRG3.out.kept hgr4 (by simp) (by simp)
        have h64 : w4.cell? ⟨b, 6, none⟩ = some v6 := (World.cell?_of_block (w := w3) (a := ⟨b, 6, none⟩) (hgr4.block b (by omega) (by simp))).trans H63.out
        have hOW4 := HOW3.out.kept hgr4 (by cases v6.ownBlock <;> simp)
        have hK4 := HK3.out.grown (by omega) hgr4 (fun j e => by cases e)
        have hsz4 := hgr4.size
        have g4 : w4.cell? ⟨g, 0, none⟩ = some (.pointer (some ⟨b, 0, none⟩)) := (World.cell?_of_block (w := w1) (a := ⟨g, 0, none⟩) (hK4.only.block g hgl1 hgb)).trans G1.out
        have f64 : w4.frozen? ⟨b, 6, none⟩ = false := (hK4.fz 6).trans (F1.out 6)
        have hfil : (ss ++ [c]).filter (onH m) = ss.filter (onH m) ++ [c] := by simp [List.filter_append, hp]
        have hfl : (ss.filter (onH m)).length ≤ ss.length := List.length_filter_le _ _
        obtain ⟨out, hout⟩ : ∃ out, ss.filter (onH m) = out := ⟨_, rfl⟩
        rw [hout] at hOW4 hfil hfl
        have HRG4 := Aside0.mk hrg4
        have HOW4 := Aside0.mk hOW4
        have HK4 := Aside0.mk hK4
        have HFIL := Aside0.mk hfil
        have HGR4 := Aside0.mk hgr4
        have hnb : some b ≠ v6.ownBlock := fun e => by have := (hOW4.lt b e.symm).1; omega
        have h64a : ∀ ob : Obj, (w4.alloc ob).cell? ⟨b, 6, none⟩ = some v6 := fun ob => (World.cell?_of_block (w := w4) (a := ⟨b, 6, none⟩) (Below.heap_alloc _ _ _ (by show b < w4.heap.size; omega))).trans h64
        have f64a : ∀ ob : Obj, (w4.alloc ob).frozen? ⟨b, 6, none⟩ = false := fun ob => (World.frozen?_of_block (w := w4) (a := ⟨b, 6, none⟩) (Below.heap_alloc _ _ _ (by show b < w4.heap.size; omega))).trans f64
        have hng : some g ≠ v6.ownBlock := fun e => by have := (hOW4.lt g e.symm).1; omega
        have g4a : ∀ ob : Obj, (w4.alloc ob).cell? ⟨g, 0, none⟩ = some (.pointer (some ⟨b, 0, none⟩)) := fun ob => (World.cell?_of_block (w := w4) (a := ⟨g, 0, none⟩) (Below.heap_alloc _ _ _ (by show g < w4.heap.size; omega))).trans g4
        have HNG := Aside0.mk hng
        have G4A := Aside0.mk g4a
        have HNB := Aside0.mk hnb
        have H64A := Aside0.mk h64a
        have F64A := Aside0.mk f64a
        clear hrg4 hOW4 hK4 hfil hbk hb4 hwn HON hgr4 HOW3 hout hnb hng f64a
        go_region_law (refine step_append_lies _ rfl _ _ 23 rfl (w1.heap.size + 1) 27 i0 (hv z27) 5 56 Try.underlying23 hi hi0 hi1 hi2 rfl (by decide) _ _ _ rfl (HOW4.out.alloc (.cells (hcs c).toArray 27)) ⟨w4.heap.size, 0, none⟩ 1 1 (hcs c) rfl rfl (new_cells w4 (hcs c) 27) (by simp [hcs, Value.oneCell']) (by omega) (by simp only [maxLen]; omega) (by omega) (by simp; omega) (w4.heap.size + 1) (by simp) ?_; intro gg cap w5 hown5 hgrow5 hloc5 hlt5; have hbk5 := hgrow5.block b (by simp; omega) HNB.out; have n6 := (World.cell?_of_block (a := ⟨b, 6, none⟩) hbk5).trans (H64A.out _); have z6 := (World.frozen?_of_block (a := ⟨b, 6, none⟩) hbk5).trans (F64A.out _); have g5 := (World.cell?_of_block (a := ⟨g, 0, none⟩) (hgrow5.block g (by simp; omega) HNG.out)).trans (G4A.out _); have HOWN5 := Aside0.mk hown5; have HGROW5 := Aside0.mk (show (w4.alloc (.cells (hcs c).toArray 27)).grownBy w5 v6.ownBlock from ⟨hgrow5.os, hgrow5.tape, hgrow5.output, hgrow5.size, hgrow5.block⟩); clear hown5 hgrow5 hloc5 hlt5 hbk5)
        all_goals
          have hmb : mb < w1.heap.size := MP.out.lt
          have hg45 : ∀ ob : Obj, w4.grownBy (w4.alloc ob) none := fun ob => World.grownBy_alloc w4 ob none
          have hr5 := ((HRG4.out.alloc (.cells (hcs c).toArray 27)).kept HGROW5.out (fun e => by have := (HOW4.out.lt mb e.symm).1; omega) (fun e => by have := (HOW4.out.lt _ e.symm).1; omega)).kept (grown_set w5 ⟨b, 6, none⟩ (.slice (some ⟨gg, 0, none⟩) (out.length + 1) cap)) (by simp; exact hbm) (by simp; omega)
          have hgg := HOWN5.out.lt gg rfl
          have ho5 := HOWN5.out.kept (grown_set w5 ⟨b, 6, none⟩ (.slice (some ⟨gg, 0, none⟩) (out.length + 1) cap)) (.inr (by simp [Value.ownBlock]; omega))
          have hk5 := ((HK4.out.grown hb1 (hg45 (.cells (hcs c).toArray 27)) (fun j e => by cases e)).grown hb1 HGROW5.out (fun j e => by have := (HOW4.out.lt j e).1; omega)).set (.slice (some ⟨gg, 0, none⟩) (out.length + 1) cap)
          have hz5 := hk5.only.size
          have h65 := World.cell?_setCell_same w5 ⟨b, 6, none⟩ (.slice (some ⟨gg, 0, none⟩) (out.length + 1) cap) n6
          have hs5 := HGROW5.out.size
          have HR5 := Aside0.mk hr5
          have HO5 := Aside0.mk ho5
          have HK5 := Aside0.mk hk5
          have H65 := Aside0.mk h65
          clear hr5 ho5 hk5 h65 n6 z6
          go_wp2
          go_roundw
          case rel => exact ⟨_, cnt3, ss ++ [c], _, HR5, HM3, by rw [List.length_append, List.length_singleton]; omega, H65, ⟨by rw [HFIL.out, List.length_append, List.length_singleton, List.flatMap_append, List.flatMap_singleton]; exact HO5.out⟩, HK5, by simp at hs5 ⊢; omega⟩
          case measure =>
            have e1 := HR5.out.left_eq
            have e2 := HLE.out
            rw [e1, e2]
            exact HLT.out
end Go.Proofs.Ytfhgdjajifnfiaa.PA

namespace Go.Proofs.Ytfhgdjajifnfiaa.PA
open Go.Conc.Locks

abbrev muLink : MuLink := { lock := 56, unlock := 57, ilock := 69, iunlock := 70, lockSlow := 82, unlockSlow := 85, disable := 78, enable := 80, acquire := 81, relMerge := 83, cas32 := 79, add32 := 84, tMutex := 61, tIMutex := 59, tPMutex := 103, tPIMutex := 112, tPI32 := 114, tUP := 116, tNoCopy := 53, tU32 := 55 }
set_option maxRecDepth 100000 in
theorem muLib : MuLib Try.prog muLink := ⟨Try.func56, Try.func57, Try.func69, Try.func70, Try.func78, Try.func80, Try.func81, Try.func83, Try.func79, Try.func84, Try.underlying59, Try.runUnderlying59, Try.sizeOf59, Try.isAgg59, Try.zeroValue59, Try.underlying61, Try.runUnderlying61, Try.sizeOf61, Try.isAgg61, Try.zeroValue61, Try.underlying103, Try.runUnderlying103, Try.sizeOf103, Try.isAgg103, Try.zeroValue103, Try.underlying112, Try.runUnderlying112, Try.sizeOf112, Try.isAgg112, Try.zeroValue112, Try.underlying114, Try.runUnderlying114, Try.sizeOf114, Try.isAgg114, Try.zeroValue114, Try.underlying116, Try.runUnderlying116, Try.sizeOf116, Try.isAgg116, Try.zeroValue116, Try.underlying53, Try.runUnderlying53, Try.sizeOf53, Try.isAgg53, Try.zeroValue53, Try.underlying21, Try.runUnderlying21, Try.sizeOf21, Try.isAgg21, Try.zeroValue21, (by kernel_rfl)⟩
end Go.Proofs.Ytfhgdjajifnfiaa.PA

namespace Go.Proofs.Ytfhgdjajifnfiaa.PA
open Go.RowKit Go.Maps Go.ChangeMaps Go.WideShapes Go.WideMaps Go.MuLone Go.Conc.Locks Go.Sort Go.Proofs.YtfhgdjajifnfiaaW.PrintWords Go.Proofs.YtfhgdjajifnfiaaW.PrintLast Go.Proofs.YtfhgdjajifnfiaaW.PrintMore
set_option linter.unusedVariables false

instance (x y : S27) : Decidable (ltH x y) := by unfold ltH; infer_instance
def leH (x y : S27) : Bool := !decide (ltH y x)
/-- The hooks that are on, in order. -/
def srt (m : Int) (L : List S27) : List S27 := (L.filter (onH m)).mergeSort leH
theorem srt_perm (m : Int) (L : List S27) : (srt m L).Perm (L.filter (onH m)) := List.mergeSort_perm _ _
theorem srt_pw {m : Int} {L : List S27} (U : Uniq L) : (srt m L).Pairwise ltH := by
  refine uniq_perm U (srt_perm m L) ?_
  have h := List.pairwise_mergeSort (le := leH) (fun x y z h1 h2 => ?_) (fun x y => ?_) (L.filter (onH m))
  · refine h.imp fun {x y} a => ?_
    simpa [leH] using a
  · simp only [leH, Bool.not_eq_true', decide_eq_false_iff_not] at h1 h2 ⊢
    exact ltH_ntrans h2 h1
  · simp only [leH, Bool.or_eq_true, Bool.not_eq_true', decide_eq_false_iff_not]
    exact Decidable.byContradiction fun a => by
      have a1 : ltH y x := Decidable.byContradiction fun x => a (.inl x)
      have a2 : ltH x y := Decidable.byContradiction fun x => a (.inr x)
      exact ltH_irrefl _ (ltH_trans a1 a2)
theorem srt_eq {m : Int} {L ys : List S27} (U : Uniq L) (h : ys.Perm (L.filter (onH m))) (hp : ys.Pairwise ltH) : ys = srt m L :=
  List.Perm.eq_of_pairwise (fun x y _ _ h1 h2 => absurd (ltH_trans h1 h2) (ltH_irrefl x)) hp (srt_pw U) (h.trans (srt_perm m L).symm)
/-- A registry, its sorted row told. -/
abbrev RegS (b mb : Nat) (A : Option Addr) (m : Int) (L : List S27) (sl : Bool) (st : Int) (w : World) : Prop := Reg b mb A m L sl (if sl then srt m L else []) st w
/-- '(*sync/atomic.Bool).Store(true)', entered as a deferred call. -/
theorem store_d (a : Addr) (x : Value) (u : FrameMode) (w : World) (hc : w.cell? a = some x) (hz : w.frozen? a = false) :
    CallsD Try.prog 58 #[.pointer (some a), .bool true] u w fun e u' w' => u' = u ∧ (e = .returned (.tuple #[]) ∧ w' = w.drew.setCell a (.int .u32 1)) := by
  have hc' : w.drew.cell? a = some x := by go_simp
  have hz' : w.drew.frozen? a = false := by go_simp
  have hst := run_call_store (P := Try.prog) Try.func71 (by kernel_rfl) (by kernel_rfl) (by kernel_rfl) (by kernel_rfl) (k := .u32) (y := 1) hc' hz'
  go_enter_d Try.func58, Try.ntmps58
  go_wp2
  go_region_calls
  all_goals (go_end0; exact ⟨rfl, rfl⟩)
set_option maxRecDepth 100000 in
set_option maxHeartbeats 2000000 in
theorem slow_once {b mb g : Nat} {A : Option Addr} {m : Int} {L : List S27} {st : Int} (w : World) (hr : RegS b mb A m L false st w) (hg : w.cell? ⟨g, 0, none⟩ = some (.pointer (some ⟨b, 0, none⟩))) (hgb : g ≠ b) (hL : L.length ≤ 100000) :
    Calls Try.prog 50 #[.pointer (some ⟨b, 2, none⟩), .func (.func 41) #[] #[.pointer (some ⟨g, 0, none⟩)]] w fun e w' => e = .returned (.tuple #[]) ∧ ∃ A', RegS b mb A' m L true st w' ∧ Only (fun j => j = b) w w' ∧ ∀ a, A' = some a → w.heap.size ≤ a.block := by
  obtain ⟨w1, hw1⟩ : ∃ w1, w.setCell ⟨b, 3, none⟩ (.int .i32 1) = w1 := ⟨_, rfl⟩
  have o : ∀ j, j ≠ 3 → w1.cell? ⟨b, j, none⟩ = w.cell? ⟨b, j, none⟩ := fun j hj => by rw [← hw1]; exact World.cell?_setCell_other _ ⟨b, 3, none⟩ ⟨b, j, none⟩ _ (by intro e; apply hj; have h := congrArg Addr.off e; first | exact h | exact h.symm)
  have hs1 : w1.heap.size = w.heap.size := by rw [← hw1, World.size_setCell]
  have k1 : ∀ j, j ≠ b → w1.heap[j]? = w.heap[j]? := fun j hj => by rw [← hw1]; exact Below.heap_setCell _ _ _ _ hj
  have f1 : ∀ j, w1.frozen? ⟨b, j, none⟩ = false := fun j => by rw [← hw1]; simp [hr.fz j]
  have g1 : w1.cell? ⟨g, 0, none⟩ = some (.pointer (some ⟨b, 0, none⟩)) := (World.cell?_of_block (w := w) (a := ⟨g, 0, none⟩) (k1 g hgb)).trans hg
  have ho1 : Only (fun j => j = b) w w1 := ⟨by rw [← hw1]; rfl, by rw [← hw1]; rfl, by rw [← hw1]; rfl, by omega, fun j _ hn => k1 j hn⟩
  have HO := Aside0.mk (close_loop b mb g m L w1 g1 ((o 0 (by decide)).trans hr.c0) ((o 1 (by decide)).trans hr.c1) ((o 5 (by decide)).trans hr.c5) ((o 6 (by decide)).trans (hr.un rfl)) f1 (ownsMap_keep hr.mp (k1 mb hr.ne)) hr.uq hr.ne hgb hL)
  have c21 := (o 2 (by decide)).trans hr.c2
  have c31 : w1.cell? ⟨b, 3, none⟩ = some (.int .i32 1) := by rw [← hw1]; exact World.cell?_setCell_same _ _ _ hr.c3
  have hl := run_call_load (P := Try.prog) Try.func55 (by kernel_rfl) (by kernel_rfl) (by kernel_rfl) .u32 (by kernel_rfl) (w := w1) (a := ⟨b, 2, none⟩) (x := 0) c21
  have hnot : ∀ (x : Bool) (w : World), (Op.unary .not (.bool x)).run Try.prog w = .ok (.bool (!x)) w := fun _ _ => rfl
  have hlock := Aside0.mk (lock_free muLib ⟨b, 3, none⟩ w hr.c3 (hr.fz 3))
  have HR := Aside0.mk hr
  have HO1 := Aside0.mk ho1
  have HC2 := Aside0.mk c21
  have HC3 := Aside0.mk c31
  have HOO := Aside0.mk o
  have HK1 := Aside0.mk k1
  clear hr ho1 f1 o k1 c31 c21 hg g1
  go_enter_defers Try.func50, Try.ntmps50
  go_wp2_with (first | (go_at_call 56; refine hlock.out.mono ?_; rintro e w' ⟨rfl, rfl⟩; rw [hw1]) | (go_at_call 49; go_in))
  refine HO.out.mono ?_
  rintro e w2 ⟨rfl, hcl⟩
  have d2 : w2.cell? ⟨b, 2, none⟩ = some (.int .u32 0) := (hcl.ce 2 (by decide) (by decide)).trans HC2.out
  have d3 : w2.cell? ⟨b, 3, none⟩ = some (.int .i32 1) := (hcl.ce 3 (by decide) (by decide)).trans HC3.out
  have HN := Aside0.mk hcl
  have HF := Aside0.mk hcl.fz
  clear hcl HO hl hlock
  go_wp2
  refine leaves_cons (f := 58) (args := #[.pointer (some ⟨b, 2, none⟩), .bool true]) (by simp) (by simp [go_sem]) ?_
  refine (store_d ⟨b, 2, none⟩ (.int .u32 0) .returning _ d2 (HF.out 2)).mono ?_
  rintro e u' w3 ⟨rfl, rfl, rfl⟩
  refine leaves_cons (f := 57) (args := #[.pointer (some ⟨b, 3, none⟩)]) (by simp [settle]) (by simp [go_sem]) ?_
  refine (unlock_deferred muLib ⟨b, 3, none⟩ _ _ ?_ (by simp [HF.out 3])).mono ?_
  · refine (World.cell?_setCell_other _ ⟨b, 2, none⟩ ⟨b, 3, none⟩ _ (by simp)).trans ?_
    rw [World.cell?_drew]
    exact d3
  rintro e u' w4 ⟨rfl, rfl, rfl⟩
  have hfin : ∃ A', RegS b mb A' m L true st ((w2.drew.setCell ⟨b, 2, none⟩ (.int .u32 1)).setCell ⟨b, 3, none⟩ (.int .i32 0)) ∧ Only (fun j => j = b) w ((w2.drew.setCell ⟨b, 2, none⟩ (.int .u32 1)).setCell ⟨b, 3, none⟩ (.int .i32 0)) ∧ ∀ a, A' = some a → w.heap.size ≤ a.block := by
    obtain ⟨so, A', c, h6, hc, hrow, hpm, hpw, hA⟩ := HN.out.so
    have hr := HR.out
    have heq := srt_eq hr.uq hpm hpw
    have h2 := HN.out.only.size
    have hlt := hr.lt
    have kk : ∀ j, j ≠ 2 → j ≠ 3 → ((w2.drew.setCell ⟨b, 2, none⟩ (.int .u32 1)).setCell ⟨b, 3, none⟩ (.int .i32 0)).cell? ⟨b, j, none⟩ = w2.cell? ⟨b, j, none⟩ := fun j j2 j3 => by
      rw [World.cell?_setCell_other _ ⟨b, 3, none⟩ ⟨b, j, none⟩ _ (by intro e; apply j3; have h := congrArg Addr.off e; first | exact h | exact h.symm), World.cell?_setCell_other _ ⟨b, 2, none⟩ ⟨b, j, none⟩ _ (by intro e; apply j2; have h := congrArg Addr.off e; first | exact h | exact h.symm), World.cell?_drew]
    have kb : ∀ j, j ≠ b → ((w2.drew.setCell ⟨b, 2, none⟩ (.int .u32 1)).setCell ⟨b, 3, none⟩ (.int .i32 0)).heap[j]? = w2.heap[j]? := fun j hj => by
      rw [Below.heap_setCell _ _ _ _ hj, Below.heap_setCell _ _ _ _ hj]
      rfl
    have kw : ∀ j, j ≠ 3 → j ≠ 5 → j ≠ 6 → w2.cell? ⟨b, j, none⟩ = w.cell? ⟨b, j, none⟩ := fun j j3 j5 j6 => (HN.out.ce j j5 j6).trans (HOO.out j j3)
    have hmlt := hr.mp.lt
    have hsz : ((w2.drew.setCell ⟨b, 2, none⟩ (.int .u32 1)).setCell ⟨b, 3, none⟩ (.int .i32 0)).heap.size = w2.heap.size := by simp
    have hne := hr.ne
    refine ⟨A', { lt := by omega, fz := fun j => (by simp; exact HF.out j), c0 := ((kk 0 (by decide) (by decide)).trans (kw 0 (by decide) (by decide) (by decide))).trans hr.c0, c1 := ((kk 1 (by decide) (by decide)).trans (kw 1 (by decide) (by decide) (by decide))).trans hr.c1, mp := ownsMap_keep hr.mp ((kb mb hne).trans ((HN.out.only.block mb (by omega) hne).trans (HK1.out mb hne))), uq := hr.uq, c2 := ?_, c3 := ?_, c5 := (kk 5 (by decide) (by decide)).trans HN.out.c5, c6 := ⟨c, by rw [if_pos rfl, ← heq]; exact (kk 6 (by decide) (by decide)).trans h6, by rw [if_pos rfl, ← heq]; exact hc⟩, ro := ?_, un := fun h => (by cases h), c7 := ((kk 7 (by decide) (by decide)).trans (kw 7 (by decide) (by decide) (by decide))).trans hr.c7, ne := hne, na := fun a ha => by have := hA a ha; omega }, ?_, fun a ha => by have := (hA a ha).1; omega⟩
    · rw [World.cell?_setCell_other _ ⟨b, 3, none⟩ ⟨b, 2, none⟩ _ (by simp), World.cell?_setCell_same _ _ _ (by rw [World.cell?_drew]; exact d2)]
      rfl
    · exact World.cell?_setCell_same _ _ _ ((World.cell?_setCell_other _ ⟨b, 2, none⟩ ⟨b, 3, none⟩ _ (by simp)).trans d3)
    · rw [if_pos rfl, ← heq]
      exact hrow.keep fun a ha => kb a.block (by have := hA a ha; omega)
    · exact ((HO1.out.trans HN.out.only).drew.trans (Only.set _ ⟨b, 2, none⟩ _ rfl)).trans (Only.set _ ⟨b, 3, none⟩ _ rfl)
  have HFin := Aside0.mk hfin
  clear hfin
  simp [Leaves, settle, results, Try.results50]
  exact HFin.out
end Go.Proofs.Ytfhgdjajifnfiaa.PA

namespace Go.Proofs.Ytfhgdjajifnfiaa.PA
open Go.RowKit Go.Maps Go.ChangeMaps Go.WideShapes Go.WideMaps Go.MuLone Go.Conc.Locks Go.Sort Go.Proofs.YtfhgdjajifnfiaaW.PrintWords Go.Proofs.YtfhgdjajifnfiaaW.PrintLast Go.Proofs.YtfhgdjajifnfiaaW.PrintMore
set_option linter.unusedVariables false

set_option maxRecDepth 100000 in
set_option maxHeartbeats 1600000 in
/-- Do, not yet done. -/
theorem do_first {b mb g : Nat} {A : Option Addr} {m : Int} {L : List S27} {st : Int} (w : World) (hr : RegS b mb A m L false st w) (hg : w.cell? ⟨g, 0, none⟩ = some (.pointer (some ⟨b, 0, none⟩))) (hgb : g ≠ b) (hL : L.length ≤ 100000) :
    Calls Try.prog 40 #[.pointer (some ⟨b, 2, none⟩), .func (.func 41) #[] #[.pointer (some ⟨g, 0, none⟩)]] w fun e w' => e = .returned (.tuple #[]) ∧ ∃ A', RegS b mb A' m L true st w' ∧ Only (fun j => j = b) w w' ∧ ∀ a, A' = some a → w.heap.size ≤ a.block := by
  have hl := run_call_load (P := Try.prog) Try.func55 (by kernel_rfl) (by kernel_rfl) (by kernel_rfl) .u32 (by kernel_rfl) hr.c2
  have hnot : ∀ (x : Bool) (w : World), (Op.unary .not (.bool x)).run Try.prog w = .ok (.bool (!x)) w := fun _ _ => rfl
  have HS := Aside0.mk (slow_once w hr hg hgb hL)
  clear hr
  go_enter Try.func40, Try.ntmps40
  go_wp2_with (first | (go_at_call 50; refine HS.out.mono ?_; rintro e w' ⟨rfl, hd⟩) | (go_at_call 49; go_in))
  go_end0
  exact ⟨rfl, hd⟩
set_option maxRecDepth 100000 in
/-- Do, done. -/
theorem do_again {b mb g : Nat} {A : Option Addr} {m : Int} {L : List S27} {st : Int} (f : Value) (w : World) (hr : RegS b mb A m L true st w) :
    Calls Try.prog 40 #[.pointer (some ⟨b, 2, none⟩), f] w fun e w' => e = .returned (.tuple #[]) ∧ w' = w := by
  have hl := run_call_load (P := Try.prog) Try.func55 (by kernel_rfl) (by kernel_rfl) (by kernel_rfl) .u32 (by kernel_rfl) hr.c2
  have hnot : ∀ (x : Bool) (w : World), (Op.unary .not (.bool x)).run Try.prog w = .ok (.bool (!x)) w := fun _ _ => rfl
  clear hr
  go_enter Try.func40, Try.ntmps40
  go_wp2_with (go_at_call 49; go_in)
  go_end0
  exact ⟨rfl, rfl⟩
/-- close. -/
theorem close_calls {b mb : Nat} {A : Option Addr} {m : Int} {L : List S27} {sl : Bool} {st : Int} (w : World) (hr : RegS b mb A m L sl st w) (hL : L.length ≤ 100000) :
    Calls Try.prog 36 #[.pointer (some ⟨b, 0, none⟩)] w fun e w' => e = .returned (.tuple #[]) ∧ ∃ A', RegS b mb A' m L true st w' ∧ Only (fun j => j = b) w w' ∧ ∀ a, A' = some a → A' = A ∨ w.heap.size ≤ a.block := by
  have hlt := hr.lt
  have hra : ∀ ob : Obj, RegS b mb A m L sl st (w.alloc ob) := fun ob => hr.keep_only (Only.alloc (F := fun _ => False) w ob) (fun _ _ x => x)
  have hg : ∀ v : Value, (w.alloc (.cells #[v] 28)).cell? ⟨w.heap.size, 0, none⟩ = some v := fun v => cell_at (heap_alloc_new w _) 0
  cases sl with
  | true =>
    have HD := Aside0.mk (fun ob f => do_again (g := 0) f (w.alloc ob) (hra ob))
    have HA := Aside0.mk hra
    clear hra hr hg
    go_enter Try.func36, Try.ntmps36
    go_wp2_with (go_at_call 40; refine (HD.out _ _).mono ?_; rintro e w' ⟨rfl, rfl⟩)
    go_end0
    exact ⟨rfl, A, HA.out _, Only.alloc w _, fun a ha => .inl rfl⟩
  | false =>
    have HD := Aside0.mk (do_first (g := w.heap.size) _ (hra (.cells #[.pointer (some ⟨b, 0, none⟩)] 28)) (hg _) (by omega) hL)
    clear hra hr hg
    go_enter Try.func36, Try.ntmps36
    go_wp2_with (go_at_call 40; refine HD.out.mono ?_; rintro e w' ⟨rfl, A', h1, h2, h3⟩)
    go_end0
    exact ⟨rfl, A', h1, (Only.alloc w _).trans h2, fun a ha => .inr (by have := h3 a ha; simp at this; omega)⟩
/-- The closures of the three questions. -/
theorem sorted_is (g : Nat) (p : Int) (h : S27) (W : World) (hc : W.cell? ⟨g, 0, none⟩ = some (.int .i64 p)) :
    Calls Try.prog 29 #[hv h, .pointer (some ⟨g, 0, none⟩)] W fun e w' => e = .returned (.bool (h.f1 == p)) ∧ Below W.heap.size W w' := by
  have hlt : g < W.heap.size := World.block_lt_of_cell? W _ hc
  have c0a : ∀ o : Obj, (W.alloc o).cell? ⟨g, 0, none⟩ = some (.int .i64 p) := fun o => (World.cell?_of_block (w := W) (a := ⟨g, 0, none⟩) (Below.heap_alloc _ _ _ hlt)).trans hc
  go_enter Try.func29, Try.ntmps29
  go_wp2
  go_ret
  exact ⟨rfl, (Below.refl _ _).alloc (Nat.le_refl _) _⟩
theorem has_is (g : Nat) (n : ByteArray) (h : S27) (W : World) (hc : W.cell? ⟨g, 0, none⟩ = some (.string n)) :
    Calls Try.prog 34 #[hv h, .pointer (some ⟨g, 0, none⟩)] W fun e w' => e = .returned (.bool (h.f0.toList == n.toList)) ∧ Below W.heap.size W w' := by
  have hlt : g < W.heap.size := World.block_lt_of_cell? W _ hc
  have c0a : ∀ o : Obj, (W.alloc o).cell? ⟨g, 0, none⟩ = some (.string n) := fun o => (World.cell?_of_block (w := W) (a := ⟨g, 0, none⟩) (Below.heap_alloc _ _ _ hlt)).trans hc
  go_enter Try.func34, Try.ntmps34
  go_wp2
  go_ret
  exact ⟨rfl, (Below.refl _ _).alloc (Nat.le_refl _) _⟩
end Go.Proofs.Ytfhgdjajifnfiaa.PA

namespace Go.Proofs.Ytfhgdjajifnfiaa.PA
open Go.RowKit Go.Maps Go.ChangeMaps Go.WideShapes Go.WideMaps Go.MuLone Go.Conc.Locks Go.Sort Go.Proofs.YtfhgdjajifnfiaaW.PrintWords Go.Proofs.YtfhgdjajifnfiaaW.PrintLast Go.Proofs.YtfhgdjajifnfiaaW.PrintMore
set_option linter.unusedVariables false

/-- Does a byte trigger a hook? -/
def trig (c : Int) (h : S27) : Bool := h.f3.toList.isEmpty || decide (0 ≤ Lib.indexByte h.f3.data.toList c.toNat.toUInt8)
set_option maxHeartbeats 1000000 in
theorem for_is (g g2 : Nat) (p c : Int) (h : S27) (W : World) (hc : W.cell? ⟨g, 0, none⟩ = some (.int .i64 p)) (hc2 : W.cell? ⟨g2, 0, none⟩ = some (.int .u8 c)) :
    Calls Try.prog 32 #[hv h, .pointer (some ⟨g, 0, none⟩), .pointer (some ⟨g2, 0, none⟩)] W fun e w' => e = .returned (.bool (h.f1 == p && trig c h)) ∧ Below W.heap.size W w' := by
  have hlt : g < W.heap.size := World.block_lt_of_cell? W _ hc
  have hlt2 : g2 < W.heap.size := World.block_lt_of_cell? W _ hc2
  have c0a : ∀ o : Obj, (W.alloc o).cell? ⟨g, 0, none⟩ = some (.int .i64 p) := fun o => (World.cell?_of_block (w := W) (a := ⟨g, 0, none⟩) (Below.heap_alloc _ _ _ hlt)).trans hc
  have c0b : ∀ o : Obj, (W.alloc o).cell? ⟨g2, 0, none⟩ = some (.int .u8 c) := fun o => (World.cell?_of_block (w := W) (a := ⟨g2, 0, none⟩) (Below.heap_alloc _ _ _ hlt2)).trans hc2
  unfold trig
  clear hlt hlt2
  cases e1 : h.f1 == p with
  | false =>
    go_enter Try.func32, Try.ntmps32
    go_wp2
    go_ret
    exact ⟨rfl, (Below.refl _ _).alloc (Nat.le_refl _) _⟩
  | true =>
    cases e2 : h.f3.toList.isEmpty with
    | true =>
      go_enter Try.func32, Try.ntmps32
      go_wp2
      go_ret
      exact ⟨rfl, (Below.refl _ _).alloc (Nat.le_refl _) _⟩
    | false =>
      go_enter Try.func32, Try.ntmps32
      go_wp2_with (go_at_call 33; refine (Try.strings_IndexByte _ _ _).mono ?_; rintro e w' ⟨rfl, rfl⟩)
      go_ret
      exact ⟨by simp, (Below.refl _ _).alloc (Nat.le_refl _) _⟩
end Go.Proofs.Ytfhgdjajifnfiaa.PA

namespace Go.Proofs.Ytfhgdjajifnfiaa.PA
open Go.RowKit Go.Maps Go.ChangeMaps Go.WideShapes Go.WideMaps Go.MuLone Go.Conc.Locks Go.Sort Go.Proofs.YtfhgdjajifnfiaaW.PrintWords Go.Proofs.YtfhgdjajifnfiaaW.PrintLast Go.Proofs.YtfhgdjajifnfiaaW.PrintMore
set_option linter.unusedVariables false

/-- What a question leaves: the registry sealed, a new row. -/
structure Ans (b mb : Nat) (A : Option Addr) (m : Int) (L : List S27) (st : Int) (l : List S27) (w : World) (e : Ending) (w' : World) : Prop where
  row : ∃ A2 c, e = .returned (.slice A2 l.length c) ∧ l.length ≤ c ∧ Row w' A2 l ∧ ∀ a, A2 = some a → w.heap.size ≤ a.block ∧ a.block < w'.heap.size
  reg : ∃ A', RegS b mb A' m L true st w' ∧ ∀ a, A' = some a → A' = A ∨ w.heap.size ≤ a.block
  only : Only (fun j => j = b) w w'
theorem Reg.own_lt {b mb : Nat} {A : Option Addr} {m : Int} {L : List S27} {sl : Bool} {so : List S27} {st : Int} {w : World} (h : Reg b mb A m L sl so st w) (j : Nat) (hj : Own3 b mb A j) : ¬ (w.heap.size ≤ j) := by
  rcases hj with rfl | rfl | ⟨a, ha, rfl⟩
  · have := h.lt; omega
  · have := h.mp.lt; omega
  · have := (h.na a ha).1; omega
theorem take_snoc {so : List S27} {j : Nat} {p : S27 → Bool} (hj : j < so.length) : (so.take (j + 1)).filter p = if p (so.getD j z27) then (so.take j).filter p ++ [so.getD j z27] else (so.take j).filter p := by
  rw [List.take_add_one, List.filter_append, List.getD_eq_getElem?_getD, List.getElem?_eq_getElem hj]
  simp only [Option.toList_some, Option.getD_some, List.filter_cons, List.filter_nil]
  split <;> simp
set_option maxHeartbeats 4000000 in
set_option maxRecDepth 100000 in
theorem those_calls {b mb : Nat} {A : Option Addr} {m : Int} {L : List S27} {sl : Bool} {st : Int} (w : World) (hr : RegS b mb A m L sl st w) (hL : L.length ≤ 100000) (f : Nat) (bs : Array Value) (p : S27 → Bool) (J : Nat → Prop) (hJ : ∀ j, J j → j < w.heap.size ∧ j ≠ b)
    (ef : ∀ args w, (callFunc f args).run Try.prog w = .ok (.enter f args) w)
    (hf : ∀ h W, (∀ j, J j → W.heap[j]? = w.heap[j]?) → Calls Try.prog f (#[hv h] ++ bs) W fun e W' => e = .returned (.bool (p h)) ∧ Below W.heap.size W W') :
    Calls Try.prog 28 #[.pointer (some ⟨b, 0, none⟩), .func (.func f) #[] bs] w (Ans b mb A m L st ((srt m L).filter p) w) := by
  have HC := Aside0.mk (close_calls w hr hL)
  have HF := Aside0.mk hf
  have HJ := Aside0.mk hJ
  have hsl : (srt m L).length ≤ 100000 := Nat.le_trans (Nat.le_of_eq (srt_perm m L).length_eq) (Nat.le_trans (List.length_filter_le _ _) hL)
  clear hr hf hJ
  go_enter Try.func28, Try.ntmps28
  go_wp2_with fail
  refine HC.out.mono ?_
  rintro e w1 ⟨rfl, A', hr1, ho1, hA1⟩
  obtain ⟨c6, h6, hc6⟩ := hr1.c6
  rw [if_pos rfl] at h6 hc6
  have hrow : Row w1 A' (srt m L) := by have := hr1.ro; rwa [if_pos rfl] at this
  obtain ⟨so, hso⟩ : ∃ so, srt m L = so := ⟨_, rfl⟩
  have HR1 := Aside0.mk hr1
  have HO1 := Aside0.mk ho1
  have HA1 := Aside0.mk hA1
  have HSO := Aside0.mk hso
  rw [hso] at h6 hc6 hrow hsl
  have HROW := Aside0.mk hrow
  have hap : ∀ a, A' = some a → a.block < w1.heap.size := fun a ha => (hr1.na a ha).1
  have hblt := hr1.lt
  have HAP := Aside0.mk hap
  clear hr1 ho1 hA1 HC hrow hap hso
  go_wp2_with fail
  go_loopw [5, 17] (fun v5 v17 wr => ∃ j : Nat, v17 = .int .i64 (j : Int) ∧ j ≤ so.length ∧ Aside0 (k27.R 27 wr w1.heap.size (fun _ => True) v5 ((so.take j).filter p)) ∧ Aside0 (Below w1.heap.size w1 wr)) (fun _ v17 _ => so.length - (intOf v17).toNat)
  case atStart => exact ⟨0, rfl, Nat.zero_le _, ⟨Kd.R_nil _ _ _ _ _⟩, ⟨Below.refl _ _⟩⟩
  case round =>
    obtain ⟨j, rfl, hj, HO, HB⟩ := hrel
    by_cases hlt : j < so.length
    · have q1 : decide ((j : Int) < (so.length : Int)) = true := decide_eq_true (by omega)
      have p0 : 0 ≤ (j : Int) := by omega
      have p1 : (j : Int) < (so.length : Int) := by omega
      have hrw : Row wr A' so := HROW.out.keep fun a ha => HB.out.block _ (HAP.out a ha)
      obtain ⟨ad, e1, x0, x1, x2, x3, x4⟩ := at_T27 hrw (j : Int) p0 p1
      cases e1
      have ej : rd_T27 so (j : Int) = so.getD j z27 := rfl
      have HEJ := Aside0.mk ej
      clear ej hrw
      obtain ⟨h, hh⟩ : ∃ h, rd_T27 so (j : Int) = h := ⟨_, rfl⟩
      rw [hh] at x0 x1 x2 x3 x4
      simp only [Int.toNat_natCast] at x0 x1 x2 x3 x4
      have HH := Aside0.mk hh
      clear hh
      replace p0 := eq_true p0
      replace p1 := eq_true p1
      have HC2 := Aside0.mk (HF.out h (wr.alloc (.cells #[.string h.f0, .int .i64 h.f1, .int .i64 h.f2, .string h.f3, .int .i64 h.f4] 27)) (fun i hi => by
        have h1 := HJ.out i hi
        have h2 := HO1.out.size
        have h3 := HB.out.size
        rw [Below.heap_alloc _ _ _ (by omega), HB.out.block i (by omega)]
        exact HO1.out.block i h1.1 h1.2))
      have hwn : wr.heap.size < (wr.alloc (.cells #[.string h.f0, .int .i64 h.f1, .int .i64 h.f2, .string h.f3, .int .i64 h.f4] 27)).heap.size := by simp
      have HWN := Aside0.mk hwn
      clear hwn
      go_wp2_with fail
      refine HC2.out.mono ?_
      rintro e w4 ⟨rfl, hb4⟩
      have HB4 := Aside0.mk (below_step (below_alloc HB.out _) hb4)
      have HO4 := Aside0.mk (Kd.R_below (Kd.R_alloc HO.out _) hb4)
      have hbk : w4.heap[wr.heap.size]? = some (.cells #[.string h.f0, .int .i64 h.f1, .int .i64 h.f2, .string h.f3, .int .i64 h.f4] 27 (0, 0)) := (hb4.block _ HWN.out).trans (heap_alloc_new _ _)
      have e0 : w4.cell? ⟨wr.heap.size, 0, none⟩ = some (.string h.f0) := cell_at hbk 0
      have e1 : w4.cell? ⟨wr.heap.size, 1, none⟩ = some (.int .i64 h.f1) := cell_at hbk 1
      have e2 : w4.cell? ⟨wr.heap.size, 2, none⟩ = some (.int .i64 h.f2) := cell_at hbk 2
      have e3 : w4.cell? ⟨wr.heap.size, 3, none⟩ = some (.string h.f3) := cell_at hbk 3
      have e4 : w4.cell? ⟨wr.heap.size, 4, none⟩ = some (.int .i64 h.f4) := cell_at hbk 4
      have hst := HSO.out
      have hts := take_snoc (p := p) hlt
      rw [← HEJ.out, HH.out] at hts
      have HTS := Aside0.mk hts
      clear hb4 hbk HC2 HB HO hst hts x0 x1 x2 x3 x4
      cases hp : p h with
      | false =>
        go_wp2
        go_roundw
        case rel => exact ⟨j + 1, by simp, by omega, ⟨by rw [HTS.out, hp]; exact HO4.out⟩, HB4⟩
        case measure => simp [intOf]; omega
      | true =>
        have hsz := HB4.out.size
        have hll : ((so.take j).filter p).length ≤ 100000 := Nat.le_trans (List.length_filter_le _ _) (by rw [List.length_take]; omega)
        have HSZ := Aside0.mk hsz
        have HLL := Aside0.mk hll
        clear hsz hll
        go_wp2_with (((with_reducible refine gate_builtin (b := .append) (xs := #[.tmp 24, .tmp 26]) rfl ?_); at_builtin; refine Kd.R_append k27 (w0 := w1) w1.heap.size rfl (.tmp 24) (.tmp 26) 23 27 (.agg #[(.string ⟨#[]⟩), (.int .i64 0), (.int .i64 0), (.string ⟨#[]⟩), (.int .i64 0)]) 56 rfl Try.underlying23 info27 rfl (by decide) (by omega) u5 ((so.take j).filter p) h (hcs h) (fun _ => True) (fun _ => False) rfl rfl ?aP (fun _ hk => hk.elim) ?aF ?aO ?aB ?aS ?aL ?_; (case aP => exact k27_mkM _ _ _ h); (case aB => exact HB4.out); (case aF => exact (fun _ _ => trivial)); (case aO => exact HO4.out); (case aS => exact HSZ.out); (case aL => have := HLL.out; omega); intro v6 w6 ho hb hg hat; have HO6 := Aside0.mk ho; have HB6 := Aside0.mk hb; clear ho hb hg hat))
        go_roundw
        case rel => exact ⟨j + 1, by simp, by omega, ⟨by rw [HTS.out, hp]; exact HO6.out⟩, HB6⟩
        case measure => simp [intOf]; omega
    · have hje : j = so.length := by omega
      subst hje
      have q1 : decide ((so.length : Int) < (so.length : Int)) = false := decide_eq_false (by omega)
      have q2 : so.take so.length = so := List.take_length
      have hO := HO.out
      rw [q2] at hO
      obtain ⟨A2, c2, rfl, hc2, hC2⟩ := Kd.R_reads hO
      have HO2 := Aside0.mk hO
      clear hO HO
      go_wp2
      go_ret
      rw [HSO.out]
      refine ⟨⟨A2, c2, ?_, hc2, hC2, fun a ha => ?_⟩, ⟨A', ?_, HA1.out⟩, ?_⟩
      · rfl
      · subst ha
        have h1 := Kd.R_lt HO2.out a.block rfl
        obtain ⟨inner, hown⟩ := Kd.R_own HO2.out
        exact ⟨Nat.le_trans HO1.out.size (hown.lt a.block rfl).1, h1⟩
      · exact HR1.out.keep_only (Below.only (F := fun j => w1.heap.size ≤ j) HB.out (fun j hj _ => hj)) (fun j hj hj2 => HR1.out.own_lt j hj hj2)
      · exact HO1.out.trans (Below.only HB.out (fun j hj hj2 => by omega))
end Go.Proofs.Ytfhgdjajifnfiaa.PA

namespace Go.Proofs.Ytfhgdjajifnfiaa.PA
open Go.RowKit Go.Maps Go.ChangeMaps Go.WideShapes Go.WideMaps Go.MuLone Go.Conc.Locks Go.Sort Go.Proofs.YtfhgdjajifnfiaaW.PrintWords Go.Proofs.YtfhgdjajifnfiaaW.PrintLast Go.Proofs.YtfhgdjajifnfiaaW.PrintMore
set_option linter.unusedVariables false

theorem Ans.over {b mb : Nat} {A : Option Addr} {m : Int} {L : List S27} {st : Int} {l : List S27} {w0 w : World} {e : Ending} {w' : World} (h : Ans b mb A m L st l w e w') (ho : Only (fun _ => False) w0 w) : Ans b mb A m L st l w0 e w' := by
  have hs := ho.size
  obtain ⟨A2, c, h1, h2, h3, h4⟩ := h.row
  obtain ⟨A', h5, h6⟩ := h.reg
  exact ⟨⟨A2, c, h1, h2, h3, fun a ha => ⟨Nat.le_trans hs (h4 a ha).1, (h4 a ha).2⟩⟩, ⟨A', h5, fun a ha => (h6 a ha).imp id (Nat.le_trans hs)⟩, (ho.imp fun _ _ x => x.elim).trans h.only⟩
theorem sorted_calls {b mb : Nat} {A : Option Addr} {m : Int} {L : List S27} {sl : Bool} {st : Int} (p : Int) (w : World) (hr : RegS b mb A m L sl st w) (hL : L.length ≤ 100000) :
    Calls Try.prog 16 #[.pointer (some ⟨b, 0, none⟩), .int .i64 p] w (Ans b mb A m L st ((srt m L).filter fun h => h.f1 == p) w) := by
  have hlt := hr.lt
  have h1 : RegS b mb A m L sl st (w.alloc (.cells #[.int .i64 p] 3)) := hr.keep_only (Only.alloc (F := fun _ => False) w _) (fun _ _ x => x)
  have HC := Aside0.mk (those_calls _ h1 hL 29 #[.pointer (some ⟨w.heap.size, 0, none⟩)] (fun h => h.f1 == p) (fun j => j = w.heap.size) (fun j hj => by subst hj; simp; omega) (enters_of Try.func29 (by kernel_rfl) rfl) (fun h W hW => sorted_is _ p h W ((World.cell?_of_block (a := ⟨w.heap.size, 0, none⟩) (hW _ rfl)).trans (cell_at (heap_alloc_new w _) 0))))
  clear hr h1
  go_enter Try.func16, Try.ntmps16
  go_wp2_with fail
  refine HC.out.mono ?_
  rintro e w' ha
  have hA := ha.over (Only.alloc _ _)
  obtain ⟨A2, c, rfl, -⟩ := ha.row
  have HA := Aside0.mk hA
  clear ha hA
  go_wp2
  go_ret
  exact HA.out
theorem for_calls {b mb : Nat} {A : Option Addr} {m : Int} {L : List S27} {sl : Bool} {st : Int} (p c : Int) (w : World) (hr : RegS b mb A m L sl st w) (hL : L.length ≤ 100000) :
    Calls Try.prog 19 #[.pointer (some ⟨b, 0, none⟩), .int .i64 p, .int .u8 c] w (Ans b mb A m L st ((srt m L).filter fun h => h.f1 == p && trig c h) w) := by
  have hlt := hr.lt
  have h1 : RegS b mb A m L sl st ((w.alloc (.cells #[.int .i64 p] 3)).alloc (.cells #[.int .u8 c] 5)) := hr.keep_only ((Only.alloc (F := fun _ => False) w _).trans (Only.alloc _ _)) (fun _ _ x => x)
  have HC := Aside0.mk (those_calls _ h1 hL 32 #[.pointer (some ⟨w.heap.size, 0, none⟩), .pointer (some ⟨w.heap.size + 1, 0, none⟩)] (fun h => h.f1 == p && trig c h) (fun j => j = w.heap.size ∨ j = w.heap.size + 1) (fun j hj => by rcases hj with rfl | rfl <;> simp <;> omega) (enters_of Try.func32 (by kernel_rfl) rfl) (fun h W hW => for_is _ _ p c h W ((World.cell?_of_block (a := ⟨w.heap.size, 0, none⟩) (hW _ (.inl rfl))).trans ((World.cell?_of_block (a := ⟨w.heap.size, 0, none⟩) (Below.heap_alloc _ _ _ (by simp))).trans (cell_at (heap_alloc_new w _) 0))) ((World.cell?_of_block (a := ⟨w.heap.size + 1, 0, none⟩) (hW _ (.inr rfl))).trans (by
    have h := heap_alloc_new (w.alloc (.cells #[.int .i64 p] 3)) (.cells #[.int .u8 c] 5)
    rw [World.size_alloc] at h
    exact cell_at h 0))))
  clear hr h1
  go_enter Try.func19, Try.ntmps19
  go_wp2_with fail
  refine HC.out.mono ?_
  rintro e w' ha
  have hA := ha.over ((Only.alloc _ _).trans (Only.alloc _ _))
  obtain ⟨A2, c, rfl, -⟩ := ha.row
  have HA := Aside0.mk hA
  clear ha hA
  go_wp2
  go_ret
  exact HA.out
/-- What Has leaves. -/
structure AnsB (b mb : Nat) (A : Option Addr) (m : Int) (L : List S27) (st : Int) (r : Bool) (w : World) (e : Ending) (w' : World) : Prop where
  ret : e = .returned (.bool r)
  reg : ∃ A', RegS b mb A' m L true st w' ∧ ∀ a, A' = some a → A' = A ∨ w.heap.size ≤ a.block
  only : Only (fun j => j = b) w w'
theorem has_calls {b mb : Nat} {A : Option Addr} {m : Int} {L : List S27} {sl : Bool} {st : Int} (n : ByteArray) (w : World) (hr : RegS b mb A m L sl st w) (hL : L.length ≤ 100000) :
    Calls Try.prog 20 #[.pointer (some ⟨b, 0, none⟩), .string n] w (AnsB b mb A m L st (decide (0 < ((srt m L).filter fun h => h.f0.toList == n.toList).length)) w) := by
  have hlt := hr.lt
  have h1 : RegS b mb A m L sl st (w.alloc (.cells #[.string n] 9)) := hr.keep_only (Only.alloc (F := fun _ => False) w _) (fun _ _ x => x)
  have HC := Aside0.mk (those_calls _ h1 hL 34 #[.pointer (some ⟨w.heap.size, 0, none⟩)] (fun h => h.f0.toList == n.toList) (fun j => j = w.heap.size) (fun j hj => by subst hj; simp; omega) (enters_of Try.func34 (by kernel_rfl) rfl) (fun h W hW => has_is _ n h W ((World.cell?_of_block (a := ⟨w.heap.size, 0, none⟩) (hW _ rfl)).trans (cell_at (heap_alloc_new w _) 0))))
  clear hr h1
  obtain ⟨l, hl⟩ : ∃ l, ((srt m L).filter fun h => h.f0.toList == n.toList) = l := ⟨_, rfl⟩
  rw [hl] at HC ⊢
  go_enter Try.func20, Try.ntmps20
  go_wp2_with fail
  refine HC.out.mono ?_
  rintro e w' ha
  have hA := ha.over (Only.alloc _ _)
  obtain ⟨A2, c, rfl, -⟩ := ha.row
  have HA := Aside0.mk hA
  clear ha hA
  go_wp2
  go_ret
  exact ⟨by simp, HA.out.reg, HA.out.only⟩
theorem Reg.set7 {b mb : Nat} {A : Option Addr} {m : Int} {L : List S27} {sl : Bool} {so : List S27} {st : Int} {w : World} (h : Reg b mb A m L sl so st w) (s : Int) : Reg b mb A m L sl so s (w.setCell ⟨b, 7, none⟩ (.int .i64 s)) := by
  have o : ∀ j, j ≠ 7 → (w.setCell ⟨b, 7, none⟩ (.int .i64 s)).cell? ⟨b, j, none⟩ = w.cell? ⟨b, j, none⟩ := fun j hj => World.cell?_setCell_other _ ⟨b, 7, none⟩ ⟨b, j, none⟩ _ (by intro e; apply hj; have h := congrArg Addr.off e; first | exact h | exact h.symm)
  have k1 : ∀ j, j ≠ b → (w.setCell ⟨b, 7, none⟩ (.int .i64 s)).heap[j]? = w.heap[j]? := fun j hj => Below.heap_setCell _ _ _ _ hj
  have hs : (w.setCell ⟨b, 7, none⟩ (.int .i64 s)).heap.size = w.heap.size := World.size_setCell _ _ _
  exact { lt := (by rw [hs]; exact h.lt), fz := fun j => (by simp; exact h.fz j), c0 := (o 0 (by decide)).trans h.c0, c1 := (o 1 (by decide)).trans h.c1, mp := ownsMap_keep h.mp (k1 mb h.ne), uq := h.uq, c2 := (o 2 (by decide)).trans h.c2, c3 := (o 3 (by decide)).trans h.c3, c5 := (o 5 (by decide)).trans h.c5, c6 := (by obtain ⟨c, e, hc⟩ := h.c6; exact ⟨c, (o 6 (by decide)).trans e, hc⟩), ro := h.ro.keep fun a ha => k1 a.block (h.na a ha).2.1, un := fun x => (o 6 (by decide)).trans (h.un x), c7 := World.cell?_setCell_same _ _ _ h.c7, ne := h.ne, na := fun a ha => (by rw [hs]; exact h.na a ha) }
def stp (st n : Int) : Int := if 0 < n then st + min n (4611686018427387904 - st) else st
set_option maxHeartbeats 1000000 in
set_option maxRecDepth 100000 in
/-- Step. -/
theorem step_calls {b mb : Nat} {A : Option Addr} {m : Int} {L : List S27} {sl : Bool} {so : List S27} {st : Int} (n : Int) (w : World) (hr : Reg b mb A m L sl so st w) (h0 : 0 ≤ st) (h1 : st ≤ 4611686018427387904) :
    Calls Try.prog 17 #[.pointer (some ⟨b, 0, none⟩), .int .i64 n] w fun e w' => e = .returned (.tuple #[]) ∧ Reg b mb A m L sl so (stp st n) w' ∧ Only (fun j => j = b) w w' := by
  unfold stp
  by_cases hn : 0 < n
  · have q : decide (0 < n) = true := decide_eq_true hn
    rw [if_pos hn]
    have hl := run_call_load (P := Try.prog) Try.func38 (by kernel_rfl) (by kernel_rfl) (by kernel_rfl) .i64 (by kernel_rfl) (w := w.drew) (a := ⟨b, 7, none⟩) (x := st) hr.c7
    have hadd := fun y => run_call_add (P := Try.prog) Try.func37 (by kernel_rfl) (by kernel_rfl) (by kernel_rfl) .i64 (by kernel_rfl) (w := w.drew) (a := ⟨b, 7, none⟩) (x := st) (y := y) (s := IntKind.i64.wrap (st + y)) hr.c7 (hr.fz 7) rfl
    have HR := Aside0.mk hr
    clear hr
    go_enter Try.func17, Try.ntmps17
    go_wp2
    go_region_calls
    all_goals
      go_end0
      exact ⟨rfl, (HR.out.set7 _).drew, (Only.set (F := fun j => j = b) w ⟨b, 7, none⟩ _ rfl).drew⟩
  · have q : decide (0 < n) = false := decide_eq_false hn
    rw [if_neg hn]
    have HR := Aside0.mk hr
    clear hr
    go_enter Try.func17, Try.ntmps17
    go_wp2
    go_end0
    exact ⟨rfl, HR.out, Only.refl _ _⟩
end Go.Proofs.Ytfhgdjajifnfiaa.PA

namespace Go.Proofs.Ytfhgdjajifnfiaa.PA
open Go.RowKit Go.Maps Go.ChangeMaps Go.WideShapes Go.WideMaps Go.MuLone Go.Conc.Locks Go.Sort Go.Proofs.YtfhgdjajifnfiaaW.PrintWords Go.Proofs.YtfhgdjajifnfiaaW.PrintLast Go.Proofs.YtfhgdjajifnfiaaW.PrintMore
set_option linter.unusedVariables false

theorem add_calls' {b mb : Nat} {A : Option Addr} {m : Int} {L : List S27} {st : Int} (h : S27) (w : World) (hr : RegS b mb A m L false st w) (hh : h.f0.size ≤ maxLen) (hL : L.length < maxLen) :
    Calls Try.prog 15 #[.pointer (some ⟨b, 0, none⟩), hv h] w fun e w' => e = .returned (.bool (addOk L h)) ∧ RegS b mb A m (if addOk L h then L ++ [h] else L) false st w' ∧ Only (Own3 b mb none) w w' := add_calls h w hr hh hL
theorem new_calls' (m : Int) (w : World) :
    Calls Try.prog 14 #[.int .i64 m] w fun e w' => e = .returned (.pointer (some ⟨w.heap.size + 1, 0, none⟩)) ∧ RegS (w.heap.size + 1) w.heap.size none (bits .and .i64 m 127) [] false 0 w' ∧ Below w.heap.size w w' := new_calls m w
abbrev hB1 : S27 := ⟨⟨#[98]⟩, 1, 1, ⟨#[]⟩, 0⟩
abbrev hA1 : S27 := ⟨⟨#[97]⟩, 1, 1, ⟨#[]⟩, 0⟩
abbrev hC1 : S27 := ⟨⟨#[99]⟩, 1, 0, ⟨#[]⟩, 0⟩
theorem awake_srt {L : List S27} (hL : L = [hB1, hA1, hC1]) (U : Uniq L) : (srt 0 L).filter (fun h => h.f1 == 1) = [hC1, hA1, hB1] := by
  subst hL
  have e : [hC1, hA1, hB1] = srt 0 [hB1, hA1, hC1] := by
    refine srt_eq U ?_ ?_
    · show List.Perm _ [hB1, hA1, hC1]
      exact (List.Perm.swap hA1 hC1 [hB1]).trans (((List.Perm.swap hB1 hC1 []).cons hA1).trans (List.Perm.swap hB1 hA1 [hC1]))
    · have h1 : ltH hC1 hA1 := .inl (by decide)
      have h2 : ltH hC1 hB1 := .inl (by decide)
      have h3 : ltH hA1 hB1 := .inr ⟨rfl, by rw [Lib.toList_data, Lib.toList_data]; decide⟩
      exact List.pairwise_cons.2 ⟨fun x hx => by rcases List.mem_cons.1 hx with rfl | hx; exact h1; rw [List.mem_singleton.1 hx]; exact h2, List.pairwise_cons.2 ⟨fun x hx => by rw [List.mem_singleton.1 hx]; exact h3, List.pairwise_singleton _ _⟩⟩
  rw [← e]
  rfl
set_option maxHeartbeats 2000000 in
set_option maxRecDepth 100000 in
theorem awake_calls (w : World) : Calls Try.prog 10 #[] w fun e w' => e = .returned (.bool true) ∧ Below w.heap.size w w' := by
  have hn := new_calls' 0 w
  have hb0 : bits .and .i64 0 127 = 0 := by decide
  rw [hb0] at hn
  have HN := Aside0.mk hn
  clear hn hb0
  go_enter Try.func10, Try.ntmps10
  go_wp2_with fail
  refine HN.out.mono ?_
  rintro e w1 ⟨rfl, hr1, hb1⟩
  have HB1 := Aside0.mk hb1
  have ha1 := add_calls' hB1 w1 hr1 (by decide) (by decide)
  rw [show addOk [] hB1 = true from by unfold addOk; rw [Lib.toList_data]; decide] at ha1
  have HA1 := Aside0.mk ha1
  clear ha1 hr1 hb1 HN
  go_wp2_with fail
  refine HA1.out.mono ?_
  rintro e w2 ⟨rfl, hr2, ho2⟩
  have hr2' : RegS (w.heap.size + 1) w.heap.size none 0 [hB1] false 0 w2 := hr2
  have HO2 := Aside0.mk ho2
  have ha2 := add_calls' hA1 w2 hr2' (by decide) (by decide)
  rw [show addOk [hB1] hA1 = true from by unfold addOk; rw [Lib.toList_data]; decide] at ha2
  have HA2 := Aside0.mk ha2
  clear ha2 hr2 hr2' ho2 HA1
  go_wp2_with fail
  refine HA2.out.mono ?_
  rintro e w3 ⟨rfl, hr3, ho3⟩
  have hr3' : RegS (w.heap.size + 1) w.heap.size none 0 [hB1, hA1] false 0 w3 := hr3
  have HO3 := Aside0.mk ho3
  have ha3 := add_calls' hC1 w3 hr3' (by decide) (by decide)
  rw [show addOk [hB1, hA1] hC1 = true from by unfold addOk; rw [Lib.toList_data]; decide] at ha3
  have HA3 := Aside0.mk ha3
  clear ha3 hr3 hr3' ho3 HA2
  go_wp2_with fail
  refine HA3.out.mono ?_
  rintro e w4 ⟨rfl, hr4, ho4⟩
  have hr4' : RegS (w.heap.size + 1) w.heap.size none 0 [hB1, hA1, hC1] false 0 w4 := hr4
  have HO4 := Aside0.mk ho4
  have hs := sorted_calls 1 w4 hr4' (by decide)
  rw [awake_srt rfl hr4'.uq] at hs
  have HS := Aside0.mk hs
  clear hs hr4 hr4' ho4 HA3
  go_wp2_with fail
  refine HS.out.mono ?_
  rintro e w5 ha
  obtain ⟨A2, c, rfl, hc, hrow, -⟩ := ha.row
  have HO5 := Aside0.mk ha.only
  obtain ⟨ad, e0, x0, -⟩ := at_T27 hrow 0 (by decide) (by decide)
  cases e0
  obtain ⟨ad', e0, x1, -⟩ := at_T27 hrow 1 (by decide) (by decide)
  cases e0
  obtain ⟨ad', e0, x2, -⟩ := at_T27 hrow 2 (by decide) (by decide)
  cases e0
  have y0 : w5.cell? ad = some (.string ⟨#[99]⟩) := by have h := x0; rw [show (Int.toNat 0) * 5 = 0 from rfl, show ad.add 0 = ad from rfl] at h; exact h
  have y1 : w5.cell? ⟨ad.block, ad.off + 5, none⟩ = some (.string ⟨#[97]⟩) := x1
  have y2 : w5.cell? ⟨ad.block, ad.off + 10, none⟩ = some (.string ⟨#[98]⟩) := x2
  have HC := Aside0.mk (fun W => registry_Core.calls _ W rfl)
  have hsz := HB1.out.size
  have HF := Aside0.mk (show Below w.heap.size w w5 from by
    have o2 := HO2.out.below (B := w.heap.size) hsz (fun j hj => by rcases hj with rfl | rfl | ⟨a, ha, _⟩; omega; omega; cases ha)
    have s2 := o2.size
    have o3 := HO3.out.below (B := w.heap.size) (by omega) (fun j hj => by rcases hj with rfl | rfl | ⟨a, ha, _⟩; omega; omega; cases ha)
    have s3 := o3.size
    have o4 := HO4.out.below (B := w.heap.size) (by omega) (fun j hj => by rcases hj with rfl | rfl | ⟨a, ha, _⟩; omega; omega; cases ha)
    have s4 := o4.size
    have o5 := HO5.out.below (B := w.heap.size) (by omega) (fun j hj => by rw [hj]; omega)
    exact (((HB1.out.trans o2).trans o3).trans o4).trans o5)
  clear ha hrow x0 x1 x2 HS hsz
  go_wp2_with fail
  refine (HC.out _).mono ?_
  rintro e w6 ⟨v0, rfl, hR, hb6⟩
  obtain ⟨A6, c6, rfl⟩ := Kd.R_slice hR
  have HF6 := Aside0.mk (below_step HF.out hb6)
  clear hR hb6 HC
  go_wp2
  go_ret
  exact ⟨rfl, HF6.out⟩
end Go.Proofs.Ytfhgdjajifnfiaa.PA

namespace Go.Proofs.Ytfhgdjajifnfiaa.PA
open Go.RowKit Go.Maps Go.ChangeMaps Go.WideShapes Go.WideMaps Go.MuLone Go.Conc.Locks Go.Sort Go.Proofs.YtfhgdjajifnfiaaW.PrintWords Go.Proofs.YtfhgdjajifnfiaaW.PrintLast Go.Proofs.YtfhgdjajifnfiaaW.PrintMore
set_option linter.unusedVariables false

end Go.Proofs.Ytfhgdjajifnfiaa.PA

namespace Go.Proofs.Ytfhgdjajifnfiaa.PA
open Go.RowKit Go.Proofs.YtfhgdjajifnfiaaW.PrintWords Go.Proofs.YtfhgdjajifnfiaaW.PrintLast Go.Proofs.YtfhgdjajifnfiaaW.PrintMore
set_option linter.unusedVariables false

theorem toList_inj {a b : ByteArray} (h : a.toList = b.toList) : a = b := by
  rw [Lib.toList_data, Lib.toList_data] at h
  exact bytes_inj h
theorem s27_ext {x y : S27} (h0 : x.f0.toList = y.f0.toList) (h1 : x.f1 = y.f1) (h2 : x.f2 = y.f2) (h3 : x.f3.toList = y.f3.toList) (h4 : x.f4 = y.f4) : x = y := by
  cases x; cases y
  simp only at h0 h1 h2 h3 h4
  rw [toList_inj h0, toList_inj h3, h1, h2, h4]
theorem same_loop (l l' : List S27) (hl : l.length = l'.length) (hm : l.length < 4611686018427387904) : ∀ n i : Nat, i + n = l.length → ∃ r, incipitref07_Same.l0 (n + 1) l l' (i : Int) = some r ∧ (r = true ↔ l.drop i = l'.drop i)
  | 0, i, h => by
    refine ⟨true, ?_, ?_⟩
    · rw [incipitref07_Same.l0, if_neg (by omega)]
    · rw [List.drop_eq_nil_of_le (by omega), List.drop_eq_nil_of_le (by omega)]
      simp
  | n + 1, i, h => by
    have hi : i < l.length := by omega
    have hi' : i < l'.length := by omega
    have e1 : rd_T27 l (i : Int) = l[i] := by unfold rd_T27; rw [Int.toNat_natCast, List.getD_eq_getElem?_getD, List.getElem?_eq_getElem hi]; rfl
    have e2 : rd_T27 l' (i : Int) = l'[i] := by unfold rd_T27; rw [Int.toNat_natCast, List.getD_eq_getElem?_getD, List.getElem?_eq_getElem hi']; rfl
    have hw : wrap64 ((i : Int) + 1) = ((i + 1 : Nat) : Int) := by unfold wrap64; omega
    obtain ⟨r, h1, h2⟩ := same_loop l l' hl hm n (i + 1) (by omega)
    rw [incipitref07_Same.l0, if_pos (by omega), if_pos (by omega), if_pos (by omega), e1, e2, hw, List.drop_eq_getElem_cons hi, List.drop_eq_getElem_cons hi']
    by_cases c0 : l[i].f0.toList = l'[i].f0.toList
    · rw [if_pos c0]
      by_cases c1 : l[i].f1 = l'[i].f1
      · rw [if_pos c1]
        by_cases c2 : l[i].f2 = l'[i].f2
        · rw [if_pos c2]
          by_cases c3 : l[i].f3.toList = l'[i].f3.toList
          · rw [if_pos c3]
            by_cases c4 : l[i].f4 = l'[i].f4
            · rw [if_pos c4]
              refine ⟨r, h1, h2.trans ?_⟩
              rw [s27_ext c0 c1 c2 c3 c4]
              exact ⟨fun e => by rw [e], fun e => (List.cons.inj e).2⟩
            · rw [if_neg c4]
              exact ⟨false, rfl, ⟨fun e => (by cases e), fun e => absurd (congrArg S27.f4 (List.cons.inj e).1) c4⟩⟩
          · rw [if_neg c3]
            exact ⟨false, rfl, ⟨fun e => (by cases e), fun e => absurd (congrArg (fun z : S27 => z.f3.toList) (List.cons.inj e).1) c3⟩⟩
        · rw [if_neg c2]
          exact ⟨false, rfl, ⟨fun e => (by cases e), fun e => absurd (congrArg S27.f2 (List.cons.inj e).1) c2⟩⟩
      · rw [if_neg c1]
        exact ⟨false, rfl, ⟨fun e => (by cases e), fun e => absurd (congrArg S27.f1 (List.cons.inj e).1) c1⟩⟩
    · rw [if_neg c0]
      exact ⟨false, rfl, ⟨fun e => (by cases e), fun e => absurd (congrArg (fun z : S27 => z.f0.toList) (List.cons.inj e).1) c0⟩⟩
theorem same_ev (l l' : List S27) (hm : l.length < 4611686018427387904) : ∃ k r, incipitlaw07_same.f k l l' = some r ∧ (r = true ↔ l = l') := by
  by_cases hl : l.length = l'.length
  · obtain ⟨r, h1, h2⟩ := same_loop l l' hl hm l.length 0 (by omega)
    refine ⟨l.length + 1, r, ?_, by simpa using h2⟩
    unfold incipitlaw07_same.f incipitref07_Same.f
    rw [if_pos (by omega)]
    show (incipitref07_Same.l0 _ l l' ((0 : Nat) : Int)).bind _ = _
    rw [h1]
    rfl
  · refine ⟨0, false, ?_, by simp; intro e; exact hl (by rw [e])⟩
    unfold incipitlaw07_same.f incipitref07_Same.f
    rw [if_neg (by omega)]
    rfl
/-- same, at two rows. -/
theorem same_calls {A0 A1 : Option Addr} {c0 c1 : Nat} {l0 l1 : List S27} (w : World) (h0 : Row w A0 l0) (hc0 : l0.length ≤ c0) (h1 : Row w A1 l1) (hc1 : l1.length ≤ c1) (hm : l0.length < 4611686018427387904) :
    Calls Try.prog 12 #[.slice A0 l0.length c0, .slice A1 l1.length c1] w fun e w' => ∃ r, e = .returned (.bool r) ∧ (r = true ↔ l0 = l1) ∧ Drawn0 w w' := by
  obtain ⟨k, r, h, hr⟩ := same_ev l0 l1 hm
  refine (incipitlaw07_same.calls k A0 c0 l0 A1 c1 l1 r w h0 hc0 h1 hc1 h).mono ?_
  rintro e w' ⟨rfl, hd⟩
  exact ⟨r, rfl, hr, hd⟩
theorem same_true {A0 A1 : Option Addr} {c0 c1 : Nat} {l0 l1 : List S27} (w : World) (h0 : Row w A0 l0) (hc0 : l0.length ≤ c0) (h1 : Row w A1 l1) (hc1 : l1.length ≤ c1) (hm : l0.length < 4611686018427387904) (he : l0 = l1) :
    Calls Try.prog 12 #[.slice A0 l0.length c0, .slice A1 l1.length c1] w fun e w' => e = .returned (.bool true) ∧ Drawn0 w w' := by
  refine (same_calls w h0 hc0 h1 hc1 hm).mono ?_
  rintro e w' ⟨r, rfl, hr, hd⟩
  rw [hr.2 he]
  exact ⟨rfl, hd⟩
end Go.Proofs.Ytfhgdjajifnfiaa.PA

namespace Go.Proofs.Ytfhgdjajifnfiaa.PA
open Go.RowKit Go.Maps Go.ChangeMaps Go.WideShapes Go.WideMaps Go.MuLone Go.Conc.Locks Go.Sort Go.Proofs.YtfhgdjajifnfiaaW.PrintWords Go.Proofs.YtfhgdjajifnfiaaW.PrintLast Go.Proofs.YtfhgdjajifnfiaaW.PrintMore
set_option linter.unusedVariables false

theorem Only.bel {B b : Nat} {w0 w w' : World} (h : Below B w0 w) (ho : Only (fun j => j = b) w w') (hb : B ≤ b) (hB : B ≤ w0.heap.size) : Below B w0 w' :=
  h.trans (ho.below (Nat.le_trans hB h.size) (fun j hj => by rw [hj]; exact hb))
theorem Only.bel3 {B b mb : Nat} {w0 w w' : World} (h : Below B w0 w) (ho : Only (Own3 b mb none) w w') (hb : B ≤ b) (hm : B ≤ mb) (hB : B ≤ w0.heap.size) : Below B w0 w' :=
  h.trans (ho.below (Nat.le_trans hB h.size) (fun j hj => by rcases hj with rfl | rfl | ⟨_, x, _⟩; exact hb; exact hm; cases x))
theorem Drawn0.bel {B : Nat} {w0 w w' : World} (h : Below B w0 w) (hd : Drawn0 w w') : Below B w0 w' := by
  obtain ⟨m, rfl⟩ := hd
  exact ⟨h.os, h.tape, h.output, h.size, h.block⟩
/-- A registry whose blocks are not another's is not turned with it. -/
theorem Reg.apart {b mb b2 mb2 : Nat} {A : Option Addr} {m : Int} {L : List S27} {sl : Bool} {so : List S27} {st : Int} {w w' : World} (h : Reg b mb A m L sl so st w) (ho : Only (Own3 b2 mb2 none) w w') (h1 : b ≠ b2) (h2 : b ≠ mb2) (h3 : mb ≠ b2) (h4 : mb ≠ mb2) (h5 : ∀ a, A = some a → a.block ≠ b2 ∧ a.block ≠ mb2) : Reg b mb A m L sl so st w' :=
  h.keep_only ho fun j hj hj2 => by
    rcases hj with rfl | rfl | ⟨a, ha, rfl⟩ <;> rcases hj2 with x | x | ⟨_, x, _⟩
    · exact h1 x
    · exact h2 x
    · cases x
    · exact h3 x
    · exact h4 x
    · cases x
    · exact (h5 a ha).1 x
    · exact (h5 a ha).2 x
    · cases x
theorem Reg.apart1 {b mb b2 : Nat} {A : Option Addr} {m : Int} {L : List S27} {sl : Bool} {so : List S27} {st : Int} {w w' : World} (h : Reg b mb A m L sl so st w) (ho : Only (fun j => j = b2) w w') (h1 : b ≠ b2) (h3 : mb ≠ b2) (h5 : ∀ a, A = some a → a.block ≠ b2) : Reg b mb A m L sl so st w' :=
  h.keep_only ho fun j hj hj2 => by
    rcases hj with rfl | rfl | ⟨a, ha, rfl⟩
    · exact h1 hj2
    · exact h3 hj2
    · exact h5 a ha hj2
end Go.Proofs.Ytfhgdjajifnfiaa.PA

namespace Go.Proofs.Ytfhgdjajifnfiaa.PA
open Go.RowKit Go.Maps Go.ChangeMaps Go.WideShapes Go.WideMaps Go.MuLone Go.Conc.Locks Go.Sort Go.Proofs.YtfhgdjajifnfiaaW.PrintWords Go.Proofs.YtfhgdjajifnfiaaW.PrintLast Go.Proofs.YtfhgdjajifnfiaaW.PrintMore
set_option linter.unusedVariables false

theorem Reg.drewN {b mb : Nat} {A : Option Addr} {m : Int} {L : List S27} {sl : Bool} {so : List S27} {st : Int} {w : World} (h : Reg b mb A m L sl so st w) (n : Nat) : Reg b mb A m L sl so st (w.drewN n) := h.keep (Nat.le_refl _) fun _ _ => rfl
theorem Row.drewN {w : World} {A : Option Addr} {l : List S27} (h : Row w A l) (n : Nat) : Row (w.drewN n) A l := h.keep fun _ _ => rfl
theorem below_drewN {B : Nat} {w0 w : World} (h : Below B w0 w) (n : Nat) : Below B w0 (w.drewN n) := ⟨h.os, h.tape, h.output, h.size, h.block⟩
theorem rd_get {l : List S27} {j : Nat} (hj : j < l.length) : rd_T27 l (j : Int) = l[j] := by
  unfold rd_T27
  rw [Int.toNat_natCast, List.getD_eq_getElem?_getD, List.getElem?_eq_getElem hj]
  rfl
/-- A sealed registry, two rows beside it. -/
structure Hld (b mb : Nat) (m : Int) (L : List S27) (A2 A3 : Option Addr) (s f : List S27) (w0 w : World) : Prop where
  reg : ∃ Aq, RegS b mb Aq m L true 0 w
  bel : Below w0.heap.size w0 w
  r2 : Row w A2 s
  r3 : Row w A3 f
  n2 : ∀ a, A2 = some a → b < a.block ∧ a.block < w.heap.size
  n3 : ∀ a, A3 = some a → b < a.block ∧ a.block < w.heap.size
theorem Hld.drewN {b mb : Nat} {m : Int} {L : List S27} {A2 A3 : Option Addr} {s f : List S27} {w0 w : World} (h : Hld b mb m L A2 A3 s f w0 w) (n : Nat) : Hld b mb m L A2 A3 s f w0 (w.drewN n) :=
  ⟨by obtain ⟨Aq, hq⟩ := h.reg; exact ⟨Aq, hq.drewN n⟩, below_drewN h.bel n, h.r2.drewN n, h.r3.drewN n, h.n2, h.n3⟩
theorem Hld.only {b mb : Nat} {m : Int} {L : List S27} {A2 A3 : Option Addr} {s f : List S27} {w0 w w' : World} (h : Hld b mb m L A2 A3 s f w0 w) (hr : ∃ Aq, RegS b mb Aq m L true 0 w') (ho : Only (fun j => j = b) w w') (hb : w0.heap.size ≤ b) : Hld b mb m L A2 A3 s f w0 w' :=
  ⟨hr, Only.bel h.bel ho hb (Nat.le_refl _), h.r2.keep fun a h2 => ho.block _ (h.n2 a h2).2 (by have := h.n2 a h2; omega), h.r3.keep fun a h2 => ho.block _ (h.n3 a h2).2 (by have := h.n3 a h2; omega),
   fun a h2 => ⟨(h.n2 a h2).1, Nat.lt_of_lt_of_le (h.n2 a h2).2 ho.size⟩, fun a h2 => ⟨(h.n3 a h2).1, Nat.lt_of_lt_of_le (h.n3 a h2).2 ho.size⟩⟩
end Go.Proofs.Ytfhgdjajifnfiaa.PA

namespace Go.Proofs.Ytfhgdjajifnfiaa.PA
open Go.RowKit Go.Maps Go.ChangeMaps Go.WideShapes Go.WideMaps Go.MuLone Go.Conc.Locks Go.Sort Go.Proofs.YtfhgdjajifnfiaaW.PrintWords Go.Proofs.YtfhgdjajifnfiaaW.PrintLast Go.Proofs.YtfhgdjajifnfiaaW.PrintMore
set_option linter.unusedVariables false

/-- Add, sealed. -/
theorem add_sealed {b mb : Nat} {A : Option Addr} {m : Int} {L : List S27} {so : List S27} {st : Int} (h : S27) (w : World) (hr : Reg b mb A m L true so st w) :
    Calls Try.prog 15 #[.pointer (some ⟨b, 0, none⟩), hv h] w fun e w' => e = .returned (.bool false) ∧ Below w.heap.size w w' := by
  have hlt := hr.lt
  have k5 : ∀ o : Obj, (w.alloc o).cell? ⟨b, 5, none⟩ = some (.bool true) := fun o => (World.cell?_of_block (w := w) (a := ⟨b, 5, none⟩) (Below.heap_alloc _ _ _ hlt)).trans hr.c5
  clear hr
  go_enter Try.func15, Try.ntmps15
  go_wp2
  go_ret
  exact ⟨rfl, (Below.refl _ _).alloc (Nat.le_refl _) _⟩
/-- A row of one's own survives what turns only older blocks. -/
theorem R_only {F : Nat → Prop} {w w' : World} {base : Nat} {v : Value} {xs : List S27} (h : k27.R 27 w base (fun k => base ≤ k) v xs) (ho : Only F w w') (hF : ∀ j, F j → j < base) : k27.R 27 w' base (fun k => base ≤ k) v xs :=
  Kd.R_step h fun k hk hlt => ho.block k hlt fun x => by have := hF k x; have hk2 : base ≤ k := hk; omega
theorem Row.only {F : Nat → Prop} {w w' : World} {A : Option Addr} {l : List S27} (h : Row w A l) (ho : Only F w w') (hF : ∀ a, A = some a → a.block < w.heap.size ∧ ¬ F a.block) : Row w' A l := h.keep fun a ha => ho.block a.block (hF a ha).1 (hF a ha).2
theorem perm_next {L Lt M : List S27} (hp : (Lt ++ M).Perm L) {p : Nat} (hlt : p < M.length) : ((Lt ++ [M[p]]) ++ (M.take p ++ M.drop (p + 1))).Perm L := by
  refine List.Perm.trans ?_ hp
  rw [List.append_assoc]
  refine List.Perm.append_left Lt ?_
  have h1 : M = M.take p ++ (M[p] :: M.drop (p + 1)) := by
    rw [← List.drop_eq_getElem_cons hlt, List.take_append_drop]
  refine List.Perm.trans ?_ (List.Perm.of_eq h1.symm)
  exact (List.perm_middle (a := M[p]) (l₁ := M.take p) (l₂ := M.drop (p + 1))).symm
end Go.Proofs.Ytfhgdjajifnfiaa.PA

namespace Go.Proofs.Ytfhgdjajifnfiaa.PA
open Go.RowKit Go.Maps Go.ChangeMaps Go.WideShapes Go.WideMaps Go.MuLone Go.Conc.Locks Go.Sort Go.Proofs.YtfhgdjajifnfiaaW.PrintWords Go.Proofs.YtfhgdjajifnfiaaW.PrintLast Go.Proofs.YtfhgdjajifnfiaaW.PrintMore
set_option linter.unusedVariables false

/-- The reference's registry in block g; its row lies at B or behind. -/
structure Rf (g B : Nat) (A : Option Addr) (c : Nat) (m : Int) (L : List S27) (sl : Bool) (st : Int) (w : World) : Prop where
  lt : g < B
  sz : B ≤ w.heap.size
  fz : ∀ j, w.frozen? ⟨g, j, none⟩ = false
  c0 : w.cell? ⟨g, 0, none⟩ = some (.slice A L.length c)
  c1 : w.cell? ⟨g, 1, none⟩ = some (.int .i64 m)
  c2 : w.cell? ⟨g, 2, none⟩ = some (.bool sl)
  c3 : w.cell? ⟨g, 3, none⟩ = some (.int .i64 st)
  ro : k27.R 27 w B (fun k => B ≤ k) (.slice A L.length c) L
  lc : L.length ≤ c
section
variable {g B : Nat} {A : Option Addr} {c : Nat} {m : Int} {L : List S27} {sl : Bool} {st : Int} {w w' : World}
theorem Rf.only {F : Nat → Prop} (h : Rf g B A c m L sl st w) (ho : Only F w w') (hF : ∀ j, F j → j < B ∧ j ≠ g) : Rf g B A c m L sl st w' := by
  have hlt := h.lt
  have hsz := h.sz
  have hk : w'.heap[g]? = w.heap[g]? := ho.block g (by omega) fun x => (hF g x).2 rfl
  have kb : ∀ i, w'.cell? ⟨g, i, none⟩ = w.cell? ⟨g, i, none⟩ := fun i => World.cell?_of_block (w := w) (a := ⟨g, i, none⟩) hk
  exact ⟨hlt, Nat.le_trans hsz ho.size, fun j => (World.frozen?_of_block (w := w) (a := ⟨g, j, none⟩) hk).trans (h.fz j), (kb 0).trans h.c0, (kb 1).trans h.c1, (kb 2).trans h.c2, (kb 3).trans h.c3, R_only h.ro ho fun j hj => (hF j hj).1, h.lc⟩
theorem Rf.below (h : Rf g B A c m L sl st w) (hb : Below w.heap.size w w') : Rf g B A c m L sl st w' := by
  have hlt := h.lt
  have hsz := h.sz
  have hk : w'.heap[g]? = w.heap[g]? := hb.block g (by omega)
  have kb : ∀ i, w'.cell? ⟨g, i, none⟩ = w.cell? ⟨g, i, none⟩ := fun i => World.cell?_of_block (w := w) (a := ⟨g, i, none⟩) hk
  exact ⟨hlt, Nat.le_trans hsz hb.size, fun j => (World.frozen?_of_block (w := w) (a := ⟨g, j, none⟩) hk).trans (h.fz j), (kb 0).trans h.c0, (kb 1).trans h.c1, (kb 2).trans h.c2, (kb 3).trans h.c3, Kd.R_below h.ro hb, h.lc⟩
theorem Rf.row (h : Rf g B A c m L sl st w) : Row w A L := by
  obtain ⟨_, _, h2⟩ := Kd.R_reads' h.ro
  exact h2
/-- A cell of the block is written. -/
theorem Rf.closed (h : Rf g B A c m L sl st w) : Rf g B A c m L true st (w.setCell ⟨g, 2, none⟩ (.bool true)) := by
  have hlt := h.lt
  have o : ∀ j, j ≠ 2 → (w.setCell ⟨g, 2, none⟩ (.bool true)).cell? ⟨g, j, none⟩ = w.cell? ⟨g, j, none⟩ := fun j hj => World.cell?_setCell_other _ ⟨g, 2, none⟩ ⟨g, j, none⟩ _ (by intro e; apply hj; have h := congrArg Addr.off e; first | exact h | exact h.symm)
  exact ⟨hlt, (by rw [World.size_setCell]; exact h.sz), fun j => (by simp; exact h.fz j), (o 0 (by decide)).trans h.c0, (o 1 (by decide)).trans h.c1, World.cell?_setCell_same _ _ _ h.c2, (o 3 (by decide)).trans h.c3, R_only (F := fun j => j = g) h.ro (Only.set w ⟨g, 2, none⟩ _ rfl) fun j hj => (by rw [hj]; exact hlt), h.lc⟩
theorem Rf.step (h : Rf g B A c m L sl st w) (s : Int) : Rf g B A c m L sl s (w.setCell ⟨g, 3, none⟩ (.int .i64 s)) := by
  have hlt := h.lt
  have o : ∀ j, j ≠ 3 → (w.setCell ⟨g, 3, none⟩ (.int .i64 s)).cell? ⟨g, j, none⟩ = w.cell? ⟨g, j, none⟩ := fun j hj => World.cell?_setCell_other _ ⟨g, 3, none⟩ ⟨g, j, none⟩ _ (by intro e; apply hj; have h := congrArg Addr.off e; first | exact h | exact h.symm)
  exact ⟨hlt, (by rw [World.size_setCell]; exact h.sz), fun j => (by simp; exact h.fz j), (o 0 (by decide)).trans h.c0, (o 1 (by decide)).trans h.c1, (o 2 (by decide)).trans h.c2, World.cell?_setCell_same _ _ _ h.c3, R_only (F := fun j => j = g) h.ro (Only.set w ⟨g, 3, none⟩ _ rfl) fun j hj => (by rw [hj]; exact hlt), h.lc⟩
end
set_option maxRecDepth 100000 in
theorem rnew_calls (m : Int) (w : World) :
    Calls Try.prog 21 #[.int .i64 m] w fun e w' => e = .returned (.pointer (some ⟨w.heap.size, 0, none⟩)) ∧ Rf w.heap.size (w.heap.size + 1) none 0 (bits .and .i64 m 127) [] false 0 w' ∧ Below w.heap.size w w' := by
  go_enter Try.func21, Try.ntmps21
  go_wp2
  go_ret
  generalize bits .and .i64 m 127 = m'
  have hg : ∀ o : Obj, (w.alloc o).heap[w.heap.size]? = some o := fun o => heap_alloc_new _ _
  refine ⟨rfl, ⟨by omega, by simp, frozen_at (hg _), cell_at (hg _) 0, cell_at (hg _) 1, cell_at (hg _) 2, cell_at (hg _) 3, Kd.R_nil _ _ _ _ _, Nat.le_refl _⟩, (Below.refl _ _).alloc (Nat.le_refl _) _⟩
set_option maxHeartbeats 1000000 in
theorem ron_calls {g B : Nat} {A : Option Addr} {c : Nat} {m : Int} {L : List S27} {sl : Bool} {st : Int} (h : S27) (W : World) (hr : Rf g B A c m L sl st W) :
    Calls Try.prog 35 #[.pointer (some ⟨g, 0, none⟩), hv h] W fun e w' => e = .returned (.bool (onH m h)) ∧ Below W.heap.size W w' := by
  have hlt : g < W.heap.size := Nat.lt_of_lt_of_le hr.lt hr.sz
  have c1a : ∀ o : Obj, (W.alloc o).cell? ⟨g, 1, none⟩ = some (.int .i64 m) := fun o => (World.cell?_of_block (w := W) (a := ⟨g, 1, none⟩) (Below.heap_alloc _ _ _ hlt)).trans hr.c1
  have hB := Aside0.mk (fun (o : Obj) (n : Nat) => (((Below.refl W.heap.size W).alloc (Nat.le_refl _) o).trans (show Below W.heap.size (W.alloc o) ((W.alloc o).drewN n) from ⟨rfl, rfl, rfl, Nat.le_refl _, fun _ _ => rfl⟩)))
  clear hr
  unfold onH
  generalize hr : bits .and .i64 h.f4 m = r
  by_cases h0 : h.f4 = 0
  · have e0 : (h.f4 == 0) = true := beq_iff_eq.2 h0
    rw [e0, Bool.true_or]
    clear hr
    go_enter Try.func35, Try.ntmps35
    go_wp2
    go_quiet (fail)
    go_wp2
    go_ret
    exact ⟨rfl, hB.out _ _⟩
  · have e0 : (h.f4 == 0) = false := beq_eq_false_iff_ne.2 h0
    rw [e0, Bool.false_or]
    go_enter Try.func35, Try.ntmps35
    go_wp2
    go_quiet (fail)
    go_wp2
    go_ret
    exact ⟨rfl, hB.out _ _⟩
set_option maxHeartbeats 1000000 in
theorem rstep_calls {g B : Nat} {A : Option Addr} {c : Nat} {m : Int} {L : List S27} {sl : Bool} {st : Int} (n : Int) (w : World) (hr : Rf g B A c m L sl st w) (h0 : 0 ≤ st) (h1 : st ≤ 4611686018427387904) :
    Calls Try.prog 26 #[.pointer (some ⟨g, 0, none⟩), .int .i64 n] w fun e w' => e = .returned (.tuple #[]) ∧ Rf g B A c m L sl (stp st n) w' ∧ Only (fun j => j = g) w w' := by
  unfold stp
  by_cases hn : 0 < n
  · have q : decide (0 < n) = true := decide_eq_true hn
    rw [if_pos hn]
    have hc := hr.c3
    have hf := hr.fz 3
    have HR := Aside0.mk hr
    clear hr
    go_enter Try.func26, Try.ntmps26
    go_wp2
    go_region
    all_goals
      go_end0
      exact ⟨rfl, (HR.out.step _).below (below_drew (Below.refl _ _)), (Only.set (F := fun j => j = g) w ⟨g, 3, none⟩ _ rfl).drew⟩
  · have q : decide (0 < n) = false := decide_eq_false hn
    rw [if_neg hn]
    have HR := Aside0.mk hr
    clear hr
    go_enter Try.func26, Try.ntmps26
    go_wp2
    go_end0
    exact ⟨rfl, HR.out, Only.refl _ _⟩
end Go.Proofs.Ytfhgdjajifnfiaa.PA

namespace Go.Proofs.Ytfhgdjajifnfiaa.PA
open Go.RowKit Go.Maps Go.ChangeMaps Go.WideShapes Go.WideMaps Go.MuLone Go.Conc.Locks Go.Sort Go.Proofs.YtfhgdjajifnfiaaW.PrintWords Go.Proofs.YtfhgdjajifnfiaaW.PrintLast Go.Proofs.YtfhgdjajifnfiaaW.PrintMore
set_option linter.unusedVariables false

theorem Rf.put {g B : Nat} {A : Option Addr} {c : Nat} {m : Int} {L : List S27} {sl : Bool} {st : Int} {w w5 : World} (h : Rf g B A c m L sl st w) (ho : Only (fun j => B ≤ j) w w5) {A' : Option Addr} {c' : Nat} {L' : List S27} (hv : k27.R 27 w5 B (fun k => B ≤ k) (.slice A' L'.length c') L') (hc : L'.length ≤ c') : Rf g B A' c' m L' sl st (w5.setCell ⟨g, 0, none⟩ (.slice A' L'.length c')) := by
  have hlt := h.lt
  have hsz := h.sz
  have hk : w5.heap[g]? = w.heap[g]? := ho.block g (by omega) fun x => by have h2 : B ≤ g := x; omega
  have kb : ∀ i, w5.cell? ⟨g, i, none⟩ = w.cell? ⟨g, i, none⟩ := fun i => World.cell?_of_block (w := w) (a := ⟨g, i, none⟩) hk
  have o : ∀ j, j ≠ 0 → (w5.setCell ⟨g, 0, none⟩ (.slice A' L'.length c')).cell? ⟨g, j, none⟩ = w5.cell? ⟨g, j, none⟩ := fun j hj => World.cell?_setCell_other _ ⟨g, 0, none⟩ ⟨g, j, none⟩ _ (by intro e; apply hj; have h := congrArg Addr.off e; first | exact h | exact h.symm)
  exact ⟨hlt, (by rw [World.size_setCell]; exact Nat.le_trans hsz ho.size), fun j => (by simp; exact (World.frozen?_of_block (w := w) (a := ⟨g, j, none⟩) hk).trans (h.fz j)), World.cell?_setCell_same _ _ _ ((kb 0).trans h.c0), ((o 1 (by decide)).trans (kb 1)).trans h.c1, ((o 2 (by decide)).trans (kb 2)).trans h.c2, ((o 3 (by decide)).trans (kb 3)).trans h.c3, R_only (F := fun j => j = g) hv (Only.set w5 ⟨g, 0, none⟩ _ rfl) fun j hj => (by rw [hj]; exact hlt), hc⟩
theorem addOk_any {L : List S27} {h : S27} (h0 : h.f0.toList.isEmpty = false) (h1 : ∀ x ∈ L, x.f0 ≠ h.f0) : addOk L h = true := by
  unfold addOk
  rw [h0, List.any_eq_false.2 fun x hx => by simp [h1 x hx]]
  rfl
theorem addOk_hit {L : List S27} {h x : S27} (hx : x ∈ L) (he : x.f0 = h.f0) : addOk L h = false := by
  unfold addOk
  rw [List.any_eq_true.2 ⟨x, hx, by simp [he]⟩, Bool.not_true, Bool.and_false]
/-- Blocks of one other type (a step of the law), from B on, stand. -/
def K46 (B : Nat) (w w' : World) : Prop := ∀ q cs, B ≤ q → w.heap[q]? = some (.cells cs 46 (0, 0)) → w'.heap[q]? = some (.cells cs 46 (0, 0))
theorem K46.trans {B : Nat} {w w' w'' : World} (h : K46 B w w') (k : K46 B w' w'') : K46 B w w'' := fun q cs hq e => k q cs hq (h q cs hq e)
theorem K46.below {B : Nat} {w w' : World} (h : Below w.heap.size w w') : K46 B w w' := fun q cs _ e => (h.block q (Array.getElem?_eq_some_iff.1 e).1).trans e
theorem K46.only {B : Nat} {F : Nat → Prop} {w w' : World} (h : Only F w w') (hF : ∀ j, F j → j < B) : K46 B w w' := fun q cs hq e => (h.block q (Array.getElem?_eq_some_iff.1 e).1 fun x => by have := hF q x; omega).trans e
/-- What the reference's Add leaves, its answer being r. -/
structure RAdd (g B : Nat) (m : Int) (L : List S27) (sl : Bool) (st : Int) (h : S27) (r : Bool) (w : World) (e : Ending) (w' : World) : Prop where
  ret : e = .returned (.bool r)
  reg : ∃ A' c', Rf g B A' c' m (if r then L ++ [h] else L) sl st w'
  only : Only (fun j => j = g ∨ B ≤ j) w w'
  kept : K46 B w w'
set_option maxHeartbeats 4000000 in
set_option maxRecDepth 100000 in
theorem radd_calls {g B : Nat} {A : Option Addr} {c : Nat} {m : Int} {L : List S27} {sl : Bool} {st : Int} (h : S27) (w : World) (hr : Rf g B A c m L sl st w) (hL : L.length ≤ 100000) :
    Calls Try.prog 22 #[.pointer (some ⟨g, 0, none⟩), hv h] w (RAdd g B m L sl st h (!sl && addOk L h) w) := by
  obtain ⟨w1, hw1⟩ : ∃ w1, w.alloc (.cells #[.string h.f0, .int .i64 h.f1, .int .i64 h.f2, .string h.f3, .int .i64 h.f4] 27) = w1 := ⟨_, rfl⟩
  have hb1 : Below w.heap.size w w1 := hw1 ▸ below_alloc (Below.refl _ _) _
  have hr1 := hr.below hb1
  have hg : w1.heap[w.heap.size]? = some (.cells #[.string h.f0, .int .i64 h.f1, .int .i64 h.f2, .string h.f3, .int .i64 h.f4] 27 (0, 0)) := by rw [← hw1]; exact heap_alloc_new _ _
  have hs1 : w.heap.size < w1.heap.size := by rw [← hw1]; simp
  have d0 : w1.cell? ⟨w.heap.size, 0, none⟩ = some (.string h.f0) := cell_at hg 0
  have d1 : w1.cell? ⟨w.heap.size, 1, none⟩ = some (.int .i64 h.f1) := cell_at hg 1
  have d2 : w1.cell? ⟨w.heap.size, 2, none⟩ = some (.int .i64 h.f2) := cell_at hg 2
  have d3 : w1.cell? ⟨w.heap.size, 3, none⟩ = some (.string h.f3) := cell_at hg 3
  have d4 : w1.cell? ⟨w.heap.size, 4, none⟩ = some (.int .i64 h.f4) := cell_at hg 4
  have HK1 := Aside0.mk (show K46 B w w1 from K46.below hb1)
  have HGB := Aside0.mk hr.lt
  have k2 := hr1.c2
  have k0 := hr1.c0
  have hBs := hr.sz
  have HO1 := Aside0.mk (show Only (fun j => j = g ∨ B ≤ j) w w1 from (Below.only (F := fun _ => False) hb1 (fun j hj hj2 => by omega)).imp (fun _ _ x => x.elim))
  have HR := Aside0.mk hr1
  clear hb1 hr1 hr hg
  cases sl with
  | true =>
    go_enter Try.func22, Try.ntmps22
    go_wp2
    go_ret
    exact ⟨rfl, ⟨_, _, HR.out⟩, HO1.out, HK1.out⟩
  | false =>
    cases hE : h.f0.toList.isEmpty with
    | true =>
      have ha : addOk L h = false := by simp [addOk, hE]
      rw [ha]
      go_enter Try.func22, Try.ntmps22
      go_wp2
      go_ret
      exact ⟨rfl, ⟨_, _, HR.out⟩, HO1.out, HK1.out⟩
    | false =>
      go_enter Try.func22, Try.ntmps22
      go_wp2_with fail
      go_loopw [5] (fun v5 wr => ∃ i : Nat, v5 = .int .i64 (i : Int) ∧ i ≤ L.length ∧ Aside0 (∀ j, (hj : j < L.length) → j < i → L[j].f0 ≠ h.f0) ∧ Drawn0 w1 wr) (fun v5 _ => L.length - (intOf v5).toNat)
      case atStart => exact ⟨0, rfl, by omega, ⟨fun j hj h2 => by omega⟩, Drawn0.refl _⟩
      case round =>
        obtain ⟨i, rfl, hi, HN, ⟨n, rfl⟩⟩ := hrel
        by_cases hlt : i < L.length
        · have q1 : decide ((i : Int) < (L.length : Int)) = true := decide_eq_true (by omega)
          have p0 : 0 ≤ (i : Int) := by omega
          have p1 : (i : Int) < (L.length : Int) := by omega
          obtain ⟨ad, e1, x0, -⟩ := at_T27 HR.out.row (i : Int) p0 p1
          cases e1
          rw [rd_get hlt] at x0
          simp only [Int.toNat_natCast] at x0
          obtain ⟨x, hx⟩ : ∃ x, L[i] = x := ⟨_, rfl⟩
          rw [hx] at x0
          have hmem : x ∈ L := hx ▸ List.getElem_mem hlt
          have HX := Aside0.mk hx
          have HM := Aside0.mk hmem
          clear hx hmem
          replace p0 := eq_true p0
          replace p1 := eq_true p1
          by_cases he : x.f0.toList = h.f0.toList
          · have z : (x.f0.toList == h.f0.toList) = true := beq_iff_eq.2 he
            have ha : addOk L h = false := addOk_hit HM.out (toList_inj he)
            have HAK := Aside0.mk ha
            clear he ha
            go_wp2
            go_quiet (fail)
            go_wp2
            go_ret
            rw [HAK.out]
            exact ⟨rfl, ⟨_, _, HR.out.below ⟨rfl, rfl, rfl, Nat.le_refl _, fun _ _ => rfl⟩⟩, ⟨HO1.out.os, HO1.out.tape, HO1.out.output, HO1.out.size, HO1.out.block⟩, HK1.out⟩
          · have z : (x.f0.toList == h.f0.toList) = false := beq_eq_false_iff_ne.2 he
            have HN2 := Aside0.mk (show ∀ j, (hj : j < L.length) → j < i + 1 → L[j].f0 ≠ h.f0 from fun j hj h2 => by
              by_cases h3 : j = i
              · subst h3
                rw [HX.out]
                exact fun e => he (by rw [e])
              · exact HN.out j hj (by omega))
            clear he
            go_wp2
            go_quiet (fail)
            go_wp2
            go_roundw
            case rel => exact ⟨i + 1, by simp, by omega, HN2, ⟨_, rfl⟩⟩
            case measure => simp [intOf]; omega
        · have q1 : decide ((i : Int) < (L.length : Int)) = false := decide_eq_false (by omega)
          have ha : addOk L h = true := addOk_any hE (fun x hx => by
            obtain ⟨j, hj, rfl⟩ := List.getElem_of_mem hx
            exact HN.out j hj (by omega))
          have HAK := Aside0.mk ha
          obtain ⟨w2, hw2⟩ : ∃ w2, w1.drewN n = w2 := ⟨_, rfl⟩
          have hr2 : Rf g B A c m L false st w2 := by rw [← hw2]; exact HR.out.below ⟨rfl, rfl, rfl, Nat.le_refl _, fun _ _ => rfl⟩
          have ho2 : Only (fun j => j = g ∨ B ≤ j) w w2 := by rw [← hw2]; exact ⟨HO1.out.os, HO1.out.tape, HO1.out.output, HO1.out.size, HO1.out.block⟩
          have d0' : w2.cell? ⟨w.heap.size, 0, none⟩ = some (.string h.f0) := by rw [← hw2]; exact d0
          have d1' : w2.cell? ⟨w.heap.size, 1, none⟩ = some (.int .i64 h.f1) := by rw [← hw2]; exact d1
          have d2' : w2.cell? ⟨w.heap.size, 2, none⟩ = some (.int .i64 h.f2) := by rw [← hw2]; exact d2
          have d3' : w2.cell? ⟨w.heap.size, 3, none⟩ = some (.string h.f3) := by rw [← hw2]; exact d3
          have d4' : w2.cell? ⟨w.heap.size, 4, none⟩ = some (.int .i64 h.f4) := by rw [← hw2]; exact d4
          have k0' : w2.cell? ⟨g, 0, none⟩ = some (.slice A L.length c) := hr2.c0
          have hgl : g < w2.heap.size := Nat.lt_of_lt_of_le hr2.lt hr2.sz
          have k0a : ∀ o : Obj, (w2.alloc o).cell? ⟨g, 0, none⟩ = some (.slice A L.length c) := fun o => (World.cell?_of_block (w := w2) (a := ⟨g, 0, none⟩) (Below.heap_alloc _ _ _ hgl)).trans k0'
          have hgB : g < B := hr2.lt
          have hB2 : B ≤ w2.heap.size := hr2.sz
          have HK2 := Aside0.mk (show K46 B w w2 from HK1.out.trans (by rw [← hw2]; exact fun q cs _ e => e))
          have HR2 := Aside0.mk hr2
          have HO2 := Aside0.mk ho2
          have HGL := Aside0.mk hgl
          have hng : some g ≠ (Value.slice A L.length c).ownBlock := fun e => by
            obtain ⟨inner, ho⟩ := Kd.R_own hr2.ro
            have := (ho.lt g e.symm).1
            omega
          have HNG := Aside0.mk hng
          have HF0 := Aside0.mk (hr2.fz 0)
          have HK0 := Aside0.mk k0'
          clear hng
          rw [hw2]
          clear hr2 ho2 hw2 d0 d1 d2 d3 d4 k0 k2 hw1 ha HR HO1 hgl
          go_wp2
          go_region_law (refine Kd.R_append_step k27 (w0 := w2) (W := w2.drew) B (by rfl) (.tmp 39) (.tmp 41) 23 27 (.agg #[(.string ⟨#[]⟩), (.int .i64 0), (.int .i64 0), (.string ⟨#[]⟩), (.int .i64 0)]) 56 (by rfl) Try.underlying23 info27 rfl (by decide) (by omega) (.slice A L.length c) L h (hcs h) (fun k => B ≤ k) (fun _ => False) (by rfl) (by rfl) ?aP (fun _ hk => hk.elim) ?aF ?aO ?aB ?aS ?aL ?_; (case aP => exact k27_mkM _ _ _ h); (case aB => exact below_drew (Below.refl _ _)); (case aF => exact (fun k hk => Nat.le_trans hB2 hk)); (case aO => exact Kd.R_drew HR2.out.ro); (case aS => exact hB2); (case aL => omega); intro v5 w5 ho5 hb5 hg5 hat5; obtain ⟨A5, c5, rfl⟩ := Kd.R_slice ho5; have hbk5 := hg5.block g HGL.out HNG.out; have n6 := (World.cell?_of_block (a := ⟨g, 0, none⟩) hbk5).trans HK0.out; have z6 := (World.frozen?_of_block (a := ⟨g, 0, none⟩) hbk5).trans HF0.out; have HK5 := Aside0.mk (show K46 B w2 w5 from fun q cs hq e => (hg5.block q (Array.getElem?_eq_some_iff.1 e).1 (Kd.R_ne HR2.out.ro e (by decide))).trans e); have HO5 := Aside0.mk ho5; have HB5 := Aside0.mk hb5; clear ho5 hb5 hg5 hat5 hbk5)
          all_goals
            have hF := Below.only (F := fun j => B ≤ j) HB5.out (fun j hj _ => hj)
            have hlc : (L ++ [h]).length ≤ c5 := by
              obtain ⟨_, h2, _⟩ := Kd.R_reads' HO5.out
              exact h2
            have hfin := HR2.out.put hF HO5.out hlc
            have hof := ((HO2.out.trans (hF.imp fun j _ x => .inr x)).trans (Only.set (F := fun j => j = g ∨ B ≤ j) w5 ⟨g, 0, none⟩ (.slice A5 (L ++ [h]).length c5) (.inl rfl)))
            rw [List.length_append, List.length_singleton] at hfin hof
            have HFIN := Aside0.mk hfin
            have HOF := Aside0.mk hof
            have HKF := Aside0.mk (show K46 B w (w5.setCell ⟨g, 0, none⟩ (.slice A5 (L.length + 1) c5)) from (HK2.out.trans HK5.out).trans (K46.only (F := fun j => j = g) (Only.set w5 ⟨g, 0, none⟩ _ rfl) fun j hj => by rw [hj]; exact HGB.out))
            clear hF hlc n6 z6 hfin hof
            go_wp2
            go_ret
            rw [HAK.out]
            exact ⟨rfl, ⟨_, _, HFIN.out⟩, HOF.out, HKF.out⟩
end Go.Proofs.Ytfhgdjajifnfiaa.PA

namespace Go.Proofs.Ytfhgdjajifnfiaa.PA
open Go.RowKit Go.Maps Go.ChangeMaps Go.WideShapes Go.WideMaps Go.MuLone Go.Conc.Locks Go.Sort Go.Proofs.YtfhgdjajifnfiaaW.PrintWords Go.Proofs.YtfhgdjajifnfiaaW.PrintLast Go.Proofs.YtfhgdjajifnfiaaW.PrintMore
set_option linter.unusedVariables false

/-- A row of one's own survives what leaves its block alone. -/
theorem R_move1 {w w' : World} {base : Nat} {ok : Nat → Prop} {v : Value} {xs : List S27} (h : k27.R 27 w base ok v xs) (hm : ∀ k, v.ownBlock = some k → w'.heap[k]? = w.heap[k]?) : k27.R 27 w' base ok v xs := by
  obtain ⟨h0, h2⟩ := h
  obtain ⟨inner, ho, hrep⟩ := h2.imp_ (R' := k27.M w' base (fun k => ok k ∧ some k ≠ v.ownBlock)) (fun p c hM => by rw [k27_openM hM]; exact k27_mkM _ _ _ _)
  exact ⟨h0, inner, own_move ho hm, hrep⟩
/-- The least of what is left goes out. -/
structure Sel (L0 O M : List S27) : Prop where
  perm : (O ++ M).Perm L0
  pw : O.Pairwise ltH
  lt : ∀ x ∈ O, ∀ y ∈ M, ltH x y
theorem sel_start (L0 : List S27) : Sel L0 [] L0 := ⟨List.Perm.refl _, List.Pairwise.nil, fun x hx => by simp at hx⟩
theorem sel_step {L0 O M : List S27} (hne : L0.Pairwise fun x y => x.f0 ≠ y.f0) (h : Sel L0 O M) {k : Nat} (hk : k < M.length) (hmin : ∀ j, (hj : j < M.length) → ¬ ltH M[j] M[k]) : Sel L0 (O ++ [M[k]]) (M.take k ++ M.drop (k + 1)) := by
  have hp := perm_next h.perm hk
  have hu : ((O ++ [M[k]]) ++ (M.take k ++ M.drop (k + 1))).Pairwise fun x y => x.f0 ≠ y.f0 := (hp.pairwise_iff (fun {x y} a => Ne.symm a)).2 hne
  have hu2 := (List.pairwise_append.1 hu).2.2
  have hsub : ∀ y ∈ M.take k ++ M.drop (k + 1), y ∈ M := fun y hy => by
    rcases List.mem_append.1 hy with hy | hy
    · exact List.mem_of_mem_take hy
    · exact List.mem_of_mem_drop hy
  refine ⟨hp, ?_, fun x hx y hy => ?_⟩
  · refine List.pairwise_append.2 ⟨h.pw, List.pairwise_singleton _ _, fun x hx y hy => ?_⟩
    rw [List.mem_singleton.1 hy]
    exact h.lt x hx _ (List.getElem_mem hk)
  · rcases List.mem_append.1 hx with hx | hx
    · exact h.lt x hx y (hsub y hy)
    · rw [List.mem_singleton.1 hx]
      obtain ⟨j, hj, rfl⟩ := List.getElem_of_mem (hsub y hy)
      exact ltH_total (hmin j hj) (hu2 _ (List.mem_append.2 (.inr (List.mem_singleton.2 rfl))) _ hy)
theorem sel_end {m p : Int} {L O : List S27} (U : Uniq L) (h : Sel (L.filter fun x => x.f1 == p && onH m x) O []) : O = (srt m L).filter fun h => h.f1 == p := by
  have h1 : O.Perm (L.filter fun x => x.f1 == p && onH m x) := by have := h.perm; rwa [List.append_nil] at this
  refine List.Perm.eq_of_pairwise (fun x y _ _ h1 h2 => absurd (ltH_trans h1 h2) (ltH_irrefl x)) h.pw ((srt_pw U).filter _) (h1.trans ?_)
  refine List.Perm.trans (List.Perm.of_eq ?_) ((srt_perm m L).symm.filter _)
  rw [List.filter_filter]
end Go.Proofs.Ytfhgdjajifnfiaa.PA

namespace Go.Proofs.Ytfhgdjajifnfiaa.PA
open Go.RowKit Go.Maps Go.ChangeMaps Go.WideShapes Go.WideMaps Go.MuLone Go.Conc.Locks Go.Sort Go.Proofs.YtfhgdjajifnfiaaW.PrintWords Go.Proofs.YtfhgdjajifnfiaaW.PrintLast Go.Proofs.YtfhgdjajifnfiaaW.PrintMore
set_option linter.unusedVariables false

theorem sel_drop {w4 w5 : World} {ad : Addr} {M : List S27} {pp c : Nat} {adr : Option Addr} (hC : k27.C w4 (some ad) M.length M) (hg : (w4.alloc (.cells #[] 27)).drew.grownBy w5 (Value.slice (some ⟨w4.heap.size, 0, none⟩) 0 0).ownBlock) (hlt : ad.block < w4.heap.size) (hp : pp < M.length) (hc : M.length ≤ c) (ha : (if c = pp + 1 then some ad else some (ad.add ((pp + 1) * 5))) = adr) :
    ReadsRow (k27.K w5) k27.sz w5 adr (M.length - (pp + 1)) (M.drop (pp + 1)) := by
  have hrow : Row w5 (some ad) M := Row.keep (w := w4) hC fun a e => by
    cases e
    refine (hg.block ad.block (Nat.lt_of_lt_of_le hlt (by simp)) fun e => ?_).trans (Below.heap_alloc _ _ _ hlt)
    have e2 : some ad.block = some w4.heap.size := e
    injection e2 with e2
    omega
  have h1 := Kd.C_drop (c := c) (m := pp + 1) hrow hp hc
  rw [List.length_drop] at h1
  have e : (if c = pp + 1 then some ad else (some ad).map (·.add ((pp + 1) * k27.sz))) = adr := ha
  rw [e] at h1
  exact h1
def lenV : Value → Nat
  | .slice _ n _ => n
  | _ => 0
def ltB (x y : S27) : Bool := decide (ltH x y)
/-- What a question at the reference's registry leaves. -/
structure RAns (g B : Nat) (A : Option Addr) (c : Nat) (m : Int) (L : List S27) (st : Int) (l : List S27) (w : World) (e : Ending) (w' : World) : Prop where
  row : ∃ A2 c2, e = .returned (.slice A2 l.length c2) ∧ l.length ≤ c2 ∧ Row w' A2 l ∧ ∀ a, A2 = some a → w.heap.size ≤ a.block ∧ a.block < w'.heap.size
  reg : Rf g B A c m L true st w'
  only : Only (fun j => j = g) w w'
set_option maxHeartbeats 8000000 in
set_option maxRecDepth 100000 in
theorem rsorted_calls {g B : Nat} {A : Option Addr} {c : Nat} {m : Int} {L : List S27} {sl : Bool} {st : Int} (p : Int) (w : World) (hr : Rf g B A c m L sl st w) (U : Uniq L) (hL : L.length ≤ 100000) :
    Calls Try.prog 23 #[.pointer (some ⟨g, 0, none⟩), .int .i64 p] w (RAns g B A c m L st ((srt m L).filter fun h => h.f1 == p) w) := by
  have c2 := hr.c2
  have f2 := hr.fz 2
  have hrs := hr.closed
  obtain ⟨w1, hw1⟩ : ∃ w1, w.setCell ⟨g, 2, none⟩ (.bool true) = w1 := ⟨_, rfl⟩
  have ho1 : Only (fun j => j = g) w w1 := hw1 ▸ Only.set w ⟨g, 2, none⟩ _ rfl
  have hs1 : w1.heap.size = w.heap.size := by rw [← hw1, World.size_setCell]
  rw [hw1] at hrs
  have HR := Aside0.mk hrs
  have HO := Aside0.mk ho1
  have HS := Aside0.mk hs1
  have HU := Aside0.mk U
  obtain ⟨q, hq⟩ : ∃ q : S27 → Bool, q = fun x => x.f1 == p && onH m x := ⟨_, rfl⟩
  have HQ := Aside0.mk hq
  obtain ⟨R, hR⟩ : ∃ R, RAns g B A c m L st ((srt m L).filter fun h => h.f1 == p) w = R := ⟨_, rfl⟩
  have HRR := Aside0.mk hR
  rw [hR]
  clear hr hrs ho1 hs1 hq hR
  go_enter Try.func23, Try.ntmps23
  go_wp2_with fail
  go_loopw [5, 6] (fun v5 v6 wr => ∃ i : Nat, v6 = .int .i64 (i : Int) ∧ i ≤ L.length ∧ Aside0 (k27.R 27 wr w1.heap.size (fun k => w1.heap.size ≤ k) v5 ((L.take i).filter q)) ∧ Aside0 (Below w1.heap.size w1 wr)) (fun _ v6 _ => L.length - (intOf v6).toNat)
  case atStart => exact ⟨0, rfl, by omega, ⟨Kd.R_nil _ _ _ _ _⟩, ⟨Below.refl _ _⟩⟩
  case round =>
    obtain ⟨i, rfl, hi, HO5, HB⟩ := hrel
    have HRr := Aside0.mk (HR.out.below HB.out)
    have k0 := HRr.out.c0
    by_cases hlt : i < L.length
    · have q1 : decide ((i : Int) < (L.length : Int)) = true := decide_eq_true (by omega)
      have p0 : 0 ≤ (i : Int) := by omega
      have p1 : (i : Int) < (L.length : Int) := by omega
      obtain ⟨ad, e1, x0, x1, x2, x3, x4⟩ := at_T27 HRr.out.row (i : Int) p0 p1
      cases e1
      obtain ⟨h, hh⟩ : ∃ h, L[i] = h := ⟨_, rfl⟩
      rw [rd_get hlt, hh] at x0 x1 x2 x3 x4
      simp only [Int.toNat_natCast] at x0 x1 x2 x3 x4
      have hgd : L.getD i z27 = h := by rw [List.getD_eq_getElem?_getD, List.getElem?_eq_getElem hlt]; exact hh
      have hts := take_snoc (p := q) hlt
      rw [hgd] at hts
      have HTS := Aside0.mk hts
      have HHJ := Aside0.mk ((rd_get hlt).trans hh)
      have HLL := Aside0.mk (show ((L.take i).filter q).length ≤ 100000 from Nat.le_trans (List.length_filter_le _ _) (by rw [List.length_take]; omega))
      clear hh hgd hts
      replace p0 := eq_true p0
      replace p1 := eq_true p1
      cases hf1 : h.f1 == p with
      | false =>
        have HQF := Aside0.mk (show q h = false from by rw [HQ.out]; simp [hf1])
        go_wp2
        go_roundw
        case rel => exact ⟨i + 1, by simp, by omega, ⟨by rw [HTS.out, HQF.out]; exact HO5.out⟩, HB⟩
        case measure => simp [intOf]; omega
      | true =>
        have HON := Aside0.mk (ron_calls h _ HRr.out)
        go_wp2_with fail
        refine HON.out.mono ?_
        rintro e w4 ⟨rfl, hb4⟩
        have HB4 := Aside0.mk (below_step HB.out hb4)
        have HO4 := Aside0.mk (Kd.R_below HO5.out hb4)
        have HR4 := Aside0.mk (HRr.out.below hb4)
        have k0' := HR4.out.c0
        obtain ⟨ad', e1', y0, y1, y2, y3, y4⟩ := at_T27 HR4.out.row (i : Int) (by omega) (by omega)
        cases e1'
        rw [HHJ.out] at y0 y1 y2 y3 y4
        simp only [Int.toNat_natCast] at y0 y1 y2 y3 y4
        have g4 : w1.heap.size ≤ w4.heap.size := HB4.out.size
        clear hb4 HON HB HO5 k0 x0 x1 x2 x3 x4 HRr
        cases hon : onH m h with
        | false =>
          have HQF := Aside0.mk (show q h = false from by rw [HQ.out]; simp [hon])
          clear hon
          go_wp2
          go_roundw
          case rel => exact ⟨i + 1, by simp, by omega, ⟨by rw [HTS.out, HQF.out]; exact HO4.out⟩, HB4⟩
          case measure => simp [intOf]; omega
        | true =>
          have HQF := Aside0.mk (show q h = true from by rw [HQ.out]; simp [hon, hf1])
          clear hon
          go_wp2_with (((with_reducible refine gate_builtin (b := .append) (xs := #[.tmp 43, .tmp 51]) rfl ?_); at_builtin; refine Kd.R_append k27 (w0 := w1) w1.heap.size rfl (.tmp 43) (.tmp 51) 23 27 (.agg #[(.string ⟨#[]⟩), (.int .i64 0), (.int .i64 0), (.string ⟨#[]⟩), (.int .i64 0)]) 56 rfl Try.underlying23 info27 rfl (by decide) (by omega) u5 ((L.take i).filter q) h (hcs h) (fun k => w1.heap.size ≤ k) (fun _ => False) rfl rfl ?aP (fun _ hk => hk.elim) ?aF ?aO ?aB ?aS ?aL ?_; (case aP => exact k27_mkM _ _ _ h); (case aB => exact HB4.out); (case aF => exact (fun k hk => Nat.le_trans g4 hk)); (case aO => exact HO4.out); (case aS => exact g4); (case aL => have := HLL.out; omega); intro v6 w6 ho hb hg hat; have HO6 := Aside0.mk ho; have HB6 := Aside0.mk hb; clear ho hb hg hat))
          go_roundw
          case rel => exact ⟨i + 1, by simp, by omega, ⟨by rw [HTS.out, HQF.out]; exact HO6.out⟩, HB6⟩
          case measure => simp [intOf]; omega
    · have q1 : decide ((i : Int) < (L.length : Int)) = false := decide_eq_false (by omega)
      have htk : L.take i = L := List.take_of_length_le (by omega)
      rw [htk] at HO5
      obtain ⟨M0, hM0⟩ : ∃ M0, L.filter q = M0 := ⟨_, rfl⟩
      rw [hM0] at HO5
      have hM0l : M0.length ≤ 100000 := by rw [← hM0]; exact Nat.le_trans (List.length_filter_le _ _) hL
      have HNE := Aside0.mk (show M0.Pairwise fun x y => x.f0 ≠ y.f0 from by rw [← hM0]; exact HU.out.ne.filter _)
      have HM0 := Aside0.mk hM0
      obtain ⟨A5, c5, hv5, hc5⟩ : ∃ A c, u5 = .slice A M0.length c ∧ M0.length ≤ c := by
        obtain ⟨A, c, h1, h2, _⟩ := Kd.R_reads HO5.out
        exact ⟨A, c, h1, h2⟩
      subst hv5
      clear hM0 htk
      go_wp2_with fail
      go_loopw [5, 7, 8, 9] (fun v5 v7 v8 v9 wq => ∃ (A5 : Option Addr) (c5 : Nat) (M O : List S27), v5 = .slice A5 M.length c5 ∧ M.length ≤ c5 ∧ O.length + M.length = M0.length ∧ Aside0 (Sel M0 O M) ∧ Aside0 (k27.R 27 wq w1.heap.size (fun k => w1.heap.size ≤ k) v5 M) ∧ Aside0 (k27.R 27 wq w1.heap.size (fun k => w1.heap.size ≤ k) v7 O) ∧ Aside0 (∀ k, v5.ownBlock = some k → v7.ownBlock ≠ some k) ∧ Aside0 (Below w1.heap.size w1 wq)) (fun v5 _ _ _ _ => lenV v5)
      case atStart => exact ⟨A5, c5, M0, [], rfl, hc5, by simp, ⟨sel_start M0⟩, HO5, ⟨Kd.R_nil _ _ _ _ _⟩, ⟨fun k _ e => by simp [Value.ownBlock] at e⟩, HB⟩
      case round =>
        clear HO5 HB hc5 k0 HRr
        obtain ⟨A5, c5, M, O, rfl, hc5, hOM, HSL, HO5, HO7, HAP, HB⟩ := hrel
        by_cases hM : 0 < M.length
        · have q2 : decide (0 < (M.length : Int)) = true := decide_eq_true (by omega)
          have q2' : decide (0 < M.length) = true := decide_eq_true hM
          have HM1 := Aside0.mk (show ∀ j, (hj : j < M.length) → (hk : 0 < M.length) → j < 1 → ¬ ltH M[j] M[0] from by
            intro j hj hk h1
            have hj0 : j = 0 := by omega
            subst hj0
            exact ltH_irrefl _)
          go_wp2_with fail
          go_loopw [8, 9] (fun v8 v9 wz => ∃ (k x : Nat), v8 = .int .i64 (k : Int) ∧ v9 = .int .i64 (x : Int) ∧ k < M.length ∧ x ≤ M.length ∧ 1 ≤ x ∧ Aside0 (∀ j, (hj : j < M.length) → (hk : k < M.length) → j < x → ¬ ltH M[j] M[k]) ∧ Drawn0 wr wz) (fun _ v9 _ => M.length - (intOf v9).toNat)
          case atStart => exact ⟨0, 1, rfl, rfl, hM, by omega, by omega, HM1, Drawn0.refl _⟩
          case round =>
            obtain ⟨k, x, rfl, rfl, hk, hx, hx1, HMN, ⟨n, rfl⟩⟩ := hrel
            by_cases hxl : x < M.length
            · have q3 : decide ((x : Int) < (M.length : Int)) = true := decide_eq_true (by omega)
              have p0 : 0 ≤ (x : Int) := by omega
              have p1 : (x : Int) < (M.length : Int) := by omega
              have r0 : 0 ≤ (k : Int) := by omega
              have r1 : (k : Int) < (M.length : Int) := by omega
              obtain ⟨_, _, hCM⟩ := Kd.R_reads' HO5.out
              obtain ⟨ad, e1, x0, -, x2, -⟩ := at_T27 hCM (x : Int) p0 p1
              cases e1
              obtain ⟨ad', e1, y0, -, y2, -⟩ := at_T27 hCM (k : Int) r0 r1
              cases e1
              obtain ⟨a, ha⟩ : ∃ a, M[x] = a := ⟨_, rfl⟩
              obtain ⟨b, hb⟩ : ∃ b, M[k] = b := ⟨_, rfl⟩
              rw [rd_get hxl, ha] at x0 x2
              rw [rd_get hk, hb] at y0 y2
              simp only [Int.toNat_natCast] at x0 x2 y0 y2
              have HXA := Aside0.mk ha
              have HXB := Aside0.mk hb
              clear ha hb hCM
              replace p0 := eq_true p0
              replace p1 := eq_true p1
              replace r0 := eq_true r0
              replace r1 := eq_true r1
              go_upto_region 14 with fail
              go_cut [98] (fun cv wx => cv = .bool (ltB a b) ∧ Drawn0 wr wx)
              case first =>
                by_cases z1 : a.f2 < b.f2
                · have z2 : decide (a.f2 < b.f2) = true := decide_eq_true z1
                  have hB := Aside0.mk (show ltB a b = true from decide_eq_true (.inl z1))
                  clear z1
                  go_quiet (fail)
                  go_wp2
                  go_meet
                  exact ⟨by rw [hB.out], ⟨_, rfl⟩⟩
                · have z2 : decide (a.f2 < b.f2) = false := decide_eq_false z1
                  by_cases z3 : a.f2 = b.f2
                  · have z4 : (a.f2 == b.f2) = true := beq_iff_eq.2 z3
                    have hB := Aside0.mk (show ltB a b = Op.bytesLess a.f0.toList b.f0.toList from by
                      rw [bytesLess_eq]
                      unfold ltB ltH
                      by_cases z5 : a.f0.toList < b.f0.toList <;> simp [z3, z5])
                    rw [z3] at x2
                    clear z1 z3
                    go_quiet (fail)
                    go_wp2
                    go_meet
                    exact ⟨by rw [hB.out], ⟨_, rfl⟩⟩
                  · have z4 : (a.f2 == b.f2) = false := beq_eq_false_iff_ne.2 z3
                    have hB := Aside0.mk (show ltB a b = false from decide_eq_false (by rintro (h | ⟨h, _⟩); exact z1 h; exact z3 h))
                    clear z1 z3
                    go_quiet (fail)
                    go_wp2
                    go_meet
                    exact ⟨by rw [hB.out], ⟨_, rfl⟩⟩
              case rest =>
                obtain ⟨rfl, ⟨n2, rfl⟩⟩ := hcut
                clear x0 x2 y0 y2
                cases hB : ltB a b with
                | true =>
                  have HB2 := Aside0.mk (of_decide_eq_true hB : ltH a b)
                  have HMN2 := Aside0.mk (show ∀ j, (hj : j < M.length) → (hk : x < M.length) → j < x + 1 → ¬ ltH M[j] M[x] from fun j hj hkk h1 h2 => by
                    by_cases e : j = x
                    · subst e
                      exact ltH_irrefl _ h2
                    · rw [HXA.out] at h2
                      exact HMN.out j hj hk (by omega) (by rw [HXB.out]; exact ltH_trans h2 HB2.out))
                  clear hB
                  go_wp2
                  go_roundw
                  case rel => exact ⟨x, x + 1, rfl, by simp, hxl, by omega, by omega, HMN2, ⟨_, rfl⟩⟩
                  case measure => simp [intOf]; omega
                | false =>
                  have HB2 := Aside0.mk (of_decide_eq_false hB : ¬ ltH a b)
                  have HMN2 := Aside0.mk (show ∀ j, (hj : j < M.length) → (hk : k < M.length) → j < x + 1 → ¬ ltH M[j] M[k] from fun j hj hkk h1 h2 => by
                    by_cases e : j = x
                    · subst e
                      rw [HXA.out, HXB.out] at h2
                      exact HB2.out h2
                    · exact HMN.out j hj hk (by omega) h2)
                  clear hB
                  go_wp2
                  go_roundw
                  case rel => exact ⟨k, x + 1, rfl, by simp, hk, by omega, by omega, HMN2, ⟨_, rfl⟩⟩
                  case measure => simp [intOf]; omega
            · have q3 : decide ((x : Int) < (M.length : Int)) = false := decide_eq_false (by omega)
              have HMIN := Aside0.mk (show ∀ j, (hj : j < M.length) → ¬ ltH M[j] M[k] from fun j hj => HMN.out j hj hk (by omega))
              clear HMN
              obtain ⟨h, hh⟩ : ∃ h, M[k] = h := ⟨_, rfl⟩
              have hsel := sel_step HNE.out HSL.out hk HMIN.out
              rw [hh] at hsel
              have hm2 : (M.take k ++ M.drop (k + 1)).length + 1 = M.length := by rw [List.length_append, List.length_take, List.length_drop]; omega
              obtain ⟨M2, hMM⟩ : ∃ M2, M.take k ++ M.drop (k + 1) = M2 := ⟨_, rfl⟩
              rw [hMM] at hsel hm2
              have HSEL := Aside0.mk hsel
              have HMM := Aside0.mk hMM
              have HM2 := Aside0.mk hm2
              obtain ⟨wn, hwn⟩ : ∃ wn, wr.drewN n = wn := ⟨_, rfl⟩
              have hbn : Below wr.heap.size wr wn := by rw [← hwn]; exact ⟨rfl, rfl, rfl, Nat.le_refl _, fun _ _ => rfl⟩
              have HO5n := Aside0.mk (Kd.R_below HO5.out hbn)
              have HO7n := Aside0.mk (Kd.R_below HO7.out hbn)
              have HBn := Aside0.mk (below_step HB.out hbn)
              have gn : w1.heap.size ≤ wn.heap.size := HBn.out.size
              have p0 : 0 ≤ (k : Int) := by omega
              have p1 : (k : Int) < (M.length : Int) := by omega
              obtain ⟨_, _, hCM⟩ := Kd.R_reads' HO5n.out
              obtain ⟨ad, e1, x0, x1, x2, x3, x4⟩ := at_T27 hCM (k : Int) p0 p1
              cases e1
              rw [rd_get hk, hh] at x0 x1 x2 x3 x4
              simp only [Int.toNat_natCast] at x0 x1 x2 x3 x4
              have HADL := Aside0.mk (show ad.block < wn.heap.size from Kd.R_lt HO5n.out ad.block rfl)
              have hM0l2 : M.length ≤ 100000 := by omega
              have HML := Aside0.mk hM0l2
              have HOL := Aside0.mk (show O.length + 1 ≤ 100001 from by omega)
              have HW1 := Aside0.mk (show IntKind.i64.wrap ((k : Int) + 1) = (k : Int) + 1 from IntWalk.i64_in _ (by omega))
              rw [hwn]
              clear hh hsel hMM hm2 hwn hbn hCM HO5 HO7 HB
              replace p0 := eq_true p0
              replace p1 := eq_true p1
              go_upto_region 17 with (((with_reducible refine gate_builtin (b := .append) (xs := #[.tmp 100, .tmp 105]) rfl ?_); at_builtin; refine Kd.R_append k27 (w0 := w1) w1.heap.size rfl (.tmp 100) (.tmp 105) 23 27 (.agg #[(.string ⟨#[]⟩), (.int .i64 0), (.int .i64 0), (.string ⟨#[]⟩), (.int .i64 0)]) 56 rfl Try.underlying23 info27 rfl (by decide) (by omega) u7 O h (hcs h) (fun k => w1.heap.size ≤ k) (fun _ => False) rfl rfl ?aP (fun _ hk => hk.elim) ?aF ?aO ?aB ?aS ?aL ?_; (case aP => exact k27_mkM _ _ _ h); (case aB => exact HBn.out); (case aF => exact (fun k hk => Nat.le_trans gn hk)); (case aO => exact HO7n.out); (case aS => exact gn); (case aL => have := HOL.out; omega); intro v6 w6 ho hb hg hat; have HO6 := Aside0.mk ho; have HB6 := Aside0.mk hb; have HG6 := Aside0.mk hg; have HAT6 := Aside0.mk hat; clear ho hb hg hat))
              have HM6 := Aside0.mk (show k27.R 27 w6 w1.heap.size (fun k => w1.heap.size ≤ k) (.slice (some ad) M.length c5) M from R_move1 HO5n.out fun j hj => HG6.out.block j (Kd.R_lt HO5n.out j hj) (fun e => HAP.out j hj e.symm))
              have HAD6 := Aside0.mk (show ad.block < w6.heap.size from Kd.R_lt HM6.out ad.block rfl)
              have HNE6 := Aside0.mk (show v6.ownBlock ≠ some ad.block from fun e => by
                rcases HAT6.out with e2 | ⟨b2, e2, e3⟩
                · exact HAP.out ad.block rfl (e2 ▸ e)
                · rw [e2] at e
                  injection e with e
                  have := HADL.out
                  omega)
              clear x0 x1 x2 x3 x4
              obtain ⟨_, _, hC4⟩ := Kd.R_reads' HM6.out
              have hE : k27.R 27 (w6.alloc (.cells #[] 27)).drew w6.heap.size (fun k => w6.heap.size ≤ k) (.slice (some ⟨w6.heap.size, 0, none⟩) 0 0) [] := Kd.R_drew (by
                refine ⟨fun k hk => ?_, [], World.ownsRow_made w6 #[] 0 (Nat.le_refl _) (Nat.zero_le _) (by simp), Reps.none _ _⟩
                have : k = w6.heap.size := by simpa [Value.ownBlock] using hk.symm
                rw [this]
                exact Nat.le_refl _)
              have hT0 : ReadsRow (k27.K w6) k27.sz (w6.alloc (.cells #[] 27)).drew (some ad) k (M.take k) := by
                have h1 := Kd.C_take hC4 (Nat.le_of_lt hk)
                have h2 : (M.take k).length = k := by rw [List.length_take]; omega
                rw [h2] at h1
                exact ReadsRow.imp_ h1 (below_drew (below_alloc (Below.refl _ _) _)) (fun _ _ hp => hp)
              have HE0 := Aside0.mk hE
              have HT0 := Aside0.mk hT0
              have HC4 := Aside0.mk hC4
              have HB0 := Aside0.mk (show Below w6.heap.size w6 (w6.alloc (.cells #[] 27)).drew from below_drew (below_alloc (Below.refl w6.heap.size w6) _))
              have HS0 := Aside0.mk (show w6.heap.size ≤ (w6.alloc (.cells #[] 27)).drew.heap.size from (below_drew (below_alloc (Below.refl w6.heap.size w6) (.cells #[] 27))).size)
              have HL0 := Aside0.mk (show (([] : List S27).length + k) * 56 ≤ 140737488355328 from by simp; omega)
              have HL1 := Aside0.mk (show ((M.take k).length + (M.length - (k + 1))) * 56 ≤ 140737488355328 from by rw [List.length_take]; omega)
              clear hE hT0 hC4
              have z2 : (k : Int) ≤ (c5 : Int) := Int.ofNat_le.2 (Nat.le_trans (Nat.le_of_lt hk) hc5)
              have z3 := eq_true (show (k : Int) + 1 ≤ (M.length : Int) from Int.ofNat_le.2 hk)
              have z4 := eq_true (show 0 ≤ (k : Int) + 1 from Int.ofNat_le.2 (Nat.zero_le (k + 1)))
              have z1 : IntKind.i64.wrap ((k : Int) + 1) = (k : Int) + 1 := HW1.out
              have z5 : ((k : Int) + 1).toNat = k + 1 := rfl
              obtain ⟨adr, hadr⟩ : ∃ adr, (if c5 = k + 1 then some ad else some (ad.add ((k + 1) * 5))) = adr := ⟨_, rfl⟩
              have HADR := Aside0.mk hadr
              go_region_law (first | (refine Kd.R_append_rows_step k27 (Rr := k27.K w6) (w0 := w6) (W := (w6.alloc (.cells #[] 27)).drew) w6.heap.size (by rfl) (.tmp 107) (.tmp 110) 23 27 (.agg #[(.string ⟨#[]⟩), (.int .i64 0), (.int .i64 0), (.string ⟨#[]⟩), (.int .i64 0)]) 56 (by rfl) Try.underlying23 info27 rfl (by decide) (by omega) (.slice (some ⟨w6.heap.size, 0, none⟩) 0 0) [] (M.take k) (some ad) k c5 (fun k => w6.heap.size ≤ k) (fun _ => False) (by rfl) (by rfl) ?aO ?aR ?aK (fun _ hk => hk.elim) ?aF ?aB ?aS ?aL ?_; (case aO => exact HE0.out); (case aR => exact HT0.out); (case aK => exact (fun x cs hx => by rw [k27_open hx]; exact k27_mkM _ _ _ _)); (case aF => exact (fun k hk => Nat.le_trans (by simp) hk)); (case aB => exact HB0.out); (case aS => exact HS0.out); (case aL => exact HL0.out); intro v5 w5 ho5 hb5 hg5 hat5; have HX5 := Aside0.mk ho5; have HB5 := Aside0.mk hb5; have HG5 := Aside0.mk hg5; have HS5 := Aside0.mk (show w6.heap.size ≤ w5.heap.size from Nat.le_trans HS0.out hg5.size); clear ho5 hb5 hg5 hat5) | (have HRD := sel_drop (adr := adr) HC4.out HG5.out HAD6.out hk hc5 HADR.out; refine Kd.R_append_rows_step k27 (Rr := k27.K w5) (w0 := w6) (W := w5) w6.heap.size (by rfl) (.tmp 111) (.tmp 115) 23 27 (.agg #[(.string ⟨#[]⟩), (.int .i64 0), (.int .i64 0), (.string ⟨#[]⟩), (.int .i64 0)]) 56 (by rfl) Try.underlying23 info27 rfl (by decide) (by omega) v5 (M.take k) (M.drop (k + 1)) adr (M.length - (k + 1)) (c5 - (k + 1)) (fun k => w6.heap.size ≤ k) (fun _ => False) (by rfl) (by rfl) ?aO ?aR ?aK (fun _ hk => hk.elim) ?aF ?aB ?aS ?aL ?_; (case aO => exact HX5.out); (case aR => exact HRD); (case aK => exact (fun x cs hx => by rw [k27_open hx]; exact k27_mkM _ _ _ _)); (case aF => exact (fun k hk => Nat.le_trans HS5.out hk)); (case aB => exact HB5.out); (case aS => exact HS5.out); (case aL => exact HL1.out); intro v7 w7 ho7 hb7 hg7 hat7; rw [HMM.out] at ho7; obtain ⟨A', c', rfl⟩ := Kd.R_slice ho7; have HO8 := Aside0.mk ho7; have HB8 := Aside0.mk hb7; clear ho7 hb7 hg7 hat7 HRD))
              all_goals
                clear hadr z1 z2 z3 z4 z5
                obtain ⟨_, hlc, _⟩ := Kd.R_reads' HO8.out
                have HLC := Aside0.mk hlc
                have hms := HM2.out
                have HO9 := Aside0.mk (show k27.R 27 w7 w1.heap.size (fun k => w1.heap.size ≤ k) (.slice A' M2.length c') M2 from Kd.R_mono (Kd.R_lower HO8.out HB6.out.size) (fun k hk => Nat.le_trans HB6.out.size hk))
                have HO10 := Aside0.mk (Kd.R_below HO6.out HB8.out)
                have HB10 := Aside0.mk (below_step HB6.out HB8.out)
                have HAP2 := Aside0.mk (show ∀ k, (Value.slice A' M2.length c').ownBlock = some k → v6.ownBlock ≠ some k from fun k hk e => by
                  have h1 : w6.heap.size ≤ k := HO8.out.1 k hk
                  have h2 := Kd.R_lt HO6.out k e
                  omega)
                clear hlc HO8 HO6 HB8 HB6
                go_wp2
                go_roundw
                case rel => exact ⟨A', c', M2, ⟨rfl, rfl, rfl⟩, HLC.out, O ++ [h], by rw [List.length_append, List.length_singleton]; omega, HSEL, HO9, HO10⟩
                case measure => simp [lenV]; omega
        · have q2 : decide (0 < (M.length : Int)) = false := decide_eq_false (by omega)
          have q2' : decide (0 < M.length) = false := decide_eq_false hM
          have hM0' : M = [] := List.eq_nil_of_length_eq_zero (by omega)
          have hend : O = (srt m L).filter fun h => h.f1 == p := by
            have h1 := HSL.out
            rw [hM0', ← HM0.out, HQ.out] at h1
            exact sel_end HU.out h1
          obtain ⟨A7, c7, hv7, hc7⟩ : ∃ A c, u7 = .slice A O.length c ∧ O.length ≤ c := by
            obtain ⟨A, c, h1, h2, _⟩ := Kd.R_reads HO7.out
            exact ⟨A, c, h1, h2⟩
          subst hv7
          have HEND := Aside0.mk hend
          clear hM0' hend
          go_wp2
          rw [← HRR.out, ← HEND.out]
          obtain ⟨_, _, hC7⟩ := Kd.R_reads' HO7.out
          refine ⟨⟨A7, c7, rfl, hc7, hC7, fun a ha => ?_⟩, HR.out.below HB.out, HO.out.trans (Below.only HB.out fun j h1 h2 => by omega)⟩
          subst ha
          have h1 := Kd.R_lt HO7.out a.block rfl
          obtain ⟨inner, hown⟩ := Kd.R_own HO7.out
          have h2 := (hown.lt a.block rfl).1
          have h3 := HS.out
          exact ⟨by omega, h1⟩
end Go.Proofs.Ytfhgdjajifnfiaa.PA

namespace Go.Proofs.Ytfhgdjajifnfiaa.PA
open Go.RowKit Go.Maps Go.ChangeMaps Go.WideShapes Go.WideMaps Go.MuLone Go.Conc.Locks Go.Sort Go.Proofs.YtfhgdjajifnfiaaW.PrintWords Go.Proofs.YtfhgdjajifnfiaaW.PrintLast Go.Proofs.YtfhgdjajifnfiaaW.PrintMore
set_option linter.unusedVariables false

theorem has_hit {m : Int} {L : List S27} (U : Uniq L) {h : S27} (hh : h ∈ L) {n : ByteArray} (hn : h.f0.toList = n.toList) : decide (0 < ((srt m L).filter fun h => h.f0.toList == n.toList).length) = onH m h := by
  cases ho : onH m h with
  | true =>
    refine decide_eq_true (List.length_pos_of_mem (a := h) ?_)
    refine List.mem_filter.2 ⟨(srt_perm m L).mem_iff.2 (List.mem_filter.2 ⟨hh, ho⟩), by simp [hn]⟩
  | false =>
    refine decide_eq_false fun h0 => ?_
    obtain ⟨x, hx⟩ := List.exists_mem_of_length_pos h0
    obtain ⟨hx1, hx2⟩ := List.mem_filter.1 hx
    obtain ⟨hx3, hx4⟩ := List.mem_filter.1 ((srt_perm m L).mem_iff.1 hx1)
    have e := uniq_eq U hx3 hh (toList_inj ((beq_iff_eq.1 hx2).trans hn.symm))
    rw [e, ho] at hx4
    cases hx4
theorem has_miss {m : Int} {L : List S27} {n : ByteArray} (hn : ∀ x ∈ L, x.f0.toList ≠ n.toList) : decide (0 < ((srt m L).filter fun h => h.f0.toList == n.toList).length) = false := by
  refine decide_eq_false fun h0 => ?_
  obtain ⟨x, hx⟩ := List.exists_mem_of_length_pos h0
  obtain ⟨hx1, hx2⟩ := List.mem_filter.1 hx
  obtain ⟨hx3, hx4⟩ := List.mem_filter.1 ((srt_perm m L).mem_iff.1 hx1)
  exact hn x hx3 (beq_iff_eq.1 hx2)
/-- Has a byte been met among the first k of a trigger's, or is there none? -/
def isT (c : Int) (s : ByteArray) (k : Nat) : Bool := s.toList.isEmpty || (s.data.toList.take k).any fun x => (x.toNat : Int) == c
theorem isT_zero (c : Int) (s : ByteArray) : isT c s 0 = s.toList.isEmpty := by simp [isT]
theorem isT_succ (c : Int) (s : ByteArray) {k : Nat} (hk : k < s.size) : isT c s (k + 1) = (isT c s k || (s[k].toNat : Int) == c) := by
  unfold isT
  have hk' : k < s.data.toList.length := by rw [Array.length_toList]; exact hk
  rw [List.take_add_one, List.getElem?_eq_getElem hk', List.any_append, Bool.or_assoc]
  simp
  rfl
theorem isT_end {c : Int} (c0 : 0 ≤ c) (c1 : c < 256) (h : S27) : isT c h.f3 h.f3.size = trig c h := by
  unfold isT trig
  congr 1
  rw [← Lib.contains_iff_indexByte, List.take_of_length_le (by rw [Array.length_toList]; exact Nat.le_refl _), Bool.eq_iff_iff, List.any_eq_true, List.contains_iff_mem]
  constructor
  · rintro ⟨x, hx, he⟩
    have e := beq_iff_eq.1 he
    have : c.toNat.toUInt8 = x := by rw [← e]; simp
    rw [this]
    exact hx
  · intro hx
    refine ⟨_, hx, beq_iff_eq.2 ?_⟩
    simp
    omega
theorem for_filter {m p c : Int} {L : List S27} : (((srt m L).filter fun h => h.f1 == p).filter fun h => trig c h) = (srt m L).filter fun h => h.f1 == p && trig c h := by
  rw [List.filter_filter]
  refine List.filter_congr fun x _ => ?_
  rw [Bool.and_comm]
end Go.Proofs.Ytfhgdjajifnfiaa.PA
