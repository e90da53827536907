/-
  (*sync.Once).Do at a replacer's record that is not yet built: it is built, once. No condition.
-/
import Derived.Test.YtinpchebcnkckaaGreatDoorGHtml3
import Derived.Test.YtinpchebcnkckaaGreatDoorGLock
import Derived.Defers
import Derived.RegionCalls
import Derived.Laws.LoneSync
namespace Go.Proofs.YtinpchebcnkckaaGreatDoor.PA
open Go.RowKit Go.MuLone Go.Conc.Locks
set_option linter.unusedVariables false

theorem Bld.keep {B c t k : Nat} {w w' : World} (h : Bld B c t k w) (hs : w.heap.size ≤ w'.heap.size) (hk : ∀ j, B ≤ j → j < w.heap.size → w'.heap[j]? = w.heap[j]?) : Bld B c t k w' := by
  obtain ⟨lc, lt, ct, hc, ht, ⟨tc, r1, r2, r3⟩, ⟨cc, a1, a2, a3, a4, a5⟩⟩ := h
  refine ⟨lc, lt, ct, by omega, by omega, ⟨tc, (hk t lt ht).trans r1, r2, r3⟩, ⟨cc, (hk c lc hc).trans a1, a2, a3, fun j hj => ?_, a5⟩⟩
  obtain ⟨v, h1, gx, cp, e1, e2, e3, e4, e5, e6, e7⟩ := a4 j hj
  exact ⟨v, h1, gx, cp, e1, e2, e3, by omega, e5, e6, fun i hi => (World.cell?_of_block (hk gx e3 e4)).trans (e7 i hi)⟩
/-- What buildOnce leaves. -/
structure Onc (B b : Nat) (w w' : World) : Prop where
  bld : ∃ c t, Bld w.heap.size c t 4 w' ∧ w'.cell? ⟨b, 3, none⟩ = some (.iface 97 (.pointer (some ⟨c, 0, none⟩)))
  bel : Below B w w'
  size : w.heap.size ≤ w'.heap.size
  c0 : w'.cell? ⟨b, 0, none⟩ = w.cell? ⟨b, 0, none⟩
  c1 : w'.cell? ⟨b, 1, none⟩ = w.cell? ⟨b, 1, none⟩
  fz : ∀ j, w'.frozen? ⟨b, j, none⟩ = w.frozen? ⟨b, j, none⟩
set_option maxHeartbeats 2000000 in
set_option maxRecDepth 100000 in
theorem bonce (B b g gc : Nat) (w : World) (h3 : w.cell? ⟨b, 3, none⟩ = some .nilIface) (h4 : w.cell? ⟨b, 4, none⟩ = some (.slice (some ⟨g, 0, none⟩) 8 gc)) (hgc : 8 ≤ gc) (hg : PatsAt g w) (hbl : b < w.heap.size) (hB : B ≤ b) (hfz : ∀ j, w.frozen? ⟨b, j, none⟩ = false) :
    Calls Tryz.prog 32 #[.pointer (some ⟨b, 0, none⟩)] w fun e w' => e = .returned (.tuple #[]) ∧ Onc B b w w' := by
  have HW := hid0 (build_walk b g gc w h4 hgc hg hbl)
  have HZ := hid0 hfz
  clear hfz hg
  go_enter Tryz.func32, Tryz.ntmps32
  go_wp2_with fail
  refine HW.out.mono ?_
  rintro e wm ⟨c, t, rfl, hb, hbel⟩
  have k3 : wm.cell? ⟨b, 3, none⟩ = some .nilIface := by rw [hbel.cell (by exact hbl)]; exact h3
  have k4 : wm.cell? ⟨b, 4, none⟩ = some (.slice (some ⟨g, 0, none⟩) 8 gc) := by rw [hbel.cell (by exact hbl)]; exact h4
  have f3 : wm.frozen? ⟨b, 3, none⟩ = false := by rw [hbel.frozen (by exact hbl)]; exact HZ.out 3
  have f4 : wm.frozen? ⟨b, 4, none⟩ = false := by rw [hbel.frozen (by exact hbl)]; exact HZ.out 4
  have HB := hid0 hb
  have HL := hid0 hbel
  clear hb hbel h3 h4 HW
  go_wp2
  go_end0
  refine ⟨rfl, ?_⟩
  have hne : ∀ (j : Nat) (v v2 : Value), w.heap.size ≤ j → ((wm.setCell ⟨b, 3, none⟩ v).setCell ⟨b, 4, none⟩ v2).heap[j]? = wm.heap[j]? := fun j v v2 hj => by
    rw [Below.heap_setCell _ _ _ _ (by show j ≠ b; omega), Below.heap_setCell _ _ _ _ (by show j ≠ b; omega)]
  refine { bld := ⟨c, t, HB.out.keep (by simp) (fun j hj _ => hne j _ _ hj), ?_⟩, bel := ((HL.out.mono (by omega)).setCell hB _).setCell hB _, size := by have := HL.out.size; simp; exact this, c0 := ?_, c1 := ?_, fz := fun j => ?_ }
  · rw [World.cell?_setCell_other _ ⟨b, 4, none⟩ ⟨b, 3, none⟩ _ (by simp)]
    exact World.cell?_setCell_same _ _ _ k3
  · rw [World.cell?_setCell_other _ ⟨b, 4, none⟩ ⟨b, 0, none⟩ _ (by simp), World.cell?_setCell_other _ ⟨b, 3, none⟩ ⟨b, 0, none⟩ _ (by simp)]
    exact HL.out.cell hbl
  · rw [World.cell?_setCell_other _ ⟨b, 4, none⟩ ⟨b, 1, none⟩ _ (by simp), World.cell?_setCell_other _ ⟨b, 3, none⟩ ⟨b, 1, none⟩ _ (by simp)]
    exact HL.out.cell hbl
  · simp
    exact HL.out.frozen hbl
/-- '(*sync/atomic.Bool).Store(true)', entered as a deferred call. -/
theorem store_d (a : Addr) (x : Value) (u : FrameMode) (w : World) (hc : w.cell? a = some x) (hz : w.frozen? a = false) :
    CallsD Tryz.prog 57 #[.pointer (some a), .bool true] u w fun e u' w' => u' = u ∧ (e = .returned (.tuple #[]) ∧ w' = w.drew.setCell a (.int .u32 1)) := by
  have hc' : w.drew.cell? a = some x := by go_simp
  have hz' : w.drew.frozen? a = false := by go_simp
  have hst := run_call_store (P := Tryz.prog) Tryz.func71 (by kernel_rfl) (by kernel_rfl) (by kernel_rfl) (by kernel_rfl) (k := .u32) (y := 1) hc' hz'
  go_enter_d Tryz.func57, Tryz.ntmps57
  go_wp2
  go_region_calls
  all_goals (go_end0; exact ⟨rfl, rfl⟩)
/-- What Do leaves. -/
def Done (B b : Nat) (w w' : World) : Prop := ∃ c t, Bld w.heap.size c t 4 w' ∧ w'.cell? ⟨b, 3, none⟩ = some (.iface 97 (.pointer (some ⟨c, 0, none⟩))) ∧ Below B w w'
set_option maxRecDepth 100000 in
set_option maxHeartbeats 2000000 in
theorem slow_once (B b : Nat) (w : World) (hr : RepNew B b w) :
    Calls Tryz.prog 43 #[.pointer (some ⟨b, 0, none⟩), .func (.func 32) #[.pointer (some ⟨b, 0, none⟩)] #[]] w fun e w' => e = .returned (.tuple #[]) ∧ Done B b w w' := by
  obtain ⟨g, gc, h4, hgc, hg, hgb, hgB⟩ := hr.c4
  obtain ⟨w1, hw1⟩ : ∃ w1, w.setCell ⟨b, 1, none⟩ (.int .i32 1) = w1 := ⟨_, rfl⟩
  have o : ∀ j, j ≠ 1 → w1.cell? ⟨b, j, none⟩ = w.cell? ⟨b, j, none⟩ := fun j hj => by rw [← hw1]; exact World.cell?_setCell_other _ ⟨b, 1, none⟩ ⟨b, j, none⟩ _ (by intro e; apply hj; have h := congrArg Addr.off e; first | exact h | exact h.symm)
  have hs1 : w1.heap.size = w.heap.size := by rw [← hw1, World.size_setCell]
  have hg1 : PatsAt g w1 := ⟨by rw [hs1]; exact hg.1, fun j hj => by rw [← hw1, World.cell?_of_block (Below.heap_setCell _ _ _ _ (by exact hgb))]; exact hg.2 j hj⟩
  have f1 : ∀ j, w1.frozen? ⟨b, j, none⟩ = false := fun j => by rw [← hw1]; simp [hr.fz j]
  have HO := hid0 (bonce B b g gc w1 ((o 3 (by decide)).trans hr.c3) ((o 4 (by decide)).trans h4) hgc hg1 (by rw [hs1]; exact hr.lt) hr.lo f1)
  have hb1 : Below B w w1 := by rw [← hw1]; exact (Below.refl _ w).setCell hr.lo _
  have c01 := (o 0 (by decide)).trans hr.c0
  have c11 : w1.cell? ⟨b, 1, none⟩ = some (.int .i32 1) := by rw [← hw1]; exact World.cell?_setCell_same _ _ _ hr.c1
  have hl := run_call_load (P := Tryz.prog) Tryz.func54 (by kernel_rfl) (by kernel_rfl) (by kernel_rfl) .u32 (by kernel_rfl) (w := w1) (a := ⟨b, 0, none⟩) (x := 0) c01
  have hnot : ∀ (x : Bool) (w : World), (Op.unary .not (.bool x)).run Tryz.prog w = .ok (.bool (!x)) w := fun _ _ => rfl
  have hlock := hid0 (lock_free muLib ⟨b, 1, none⟩ w hr.c1 (hr.fz 1))
  have HR := hid0 hr
  clear hr h4 hg hg1
  go_enter_defers Tryz.func43, Tryz.ntmps43
  go_wp2_with (first | (go_at_call 55; refine hlock.out.mono ?_; rintro e w' ⟨rfl, rfl⟩; rw [hw1]) | (go_at_call 42; go_in))
  refine HO.out.mono ?_
  rintro e w2 ⟨rfl, ho⟩
  have d0 : w2.cell? ⟨b, 0, none⟩ = some (.int .u32 0) := ho.c0.trans c01
  have d1 : w2.cell? ⟨b, 1, none⟩ = some (.int .i32 1) := ho.c1.trans c11
  have fz : ∀ j, w2.frozen? ⟨b, j, none⟩ = false := fun j => (ho.fz j).trans (f1 j)
  have HN := hid0 ho
  have HF := hid0 fz
  clear ho fz HO hl c01 c11 f1 o hlock
  go_wp2
  refine leaves_cons (f := 57) (args := #[.pointer (some ⟨b, 0, none⟩), .bool true]) (by simp) (by simp [go_sem]) ?_
  refine (store_d ⟨b, 0, none⟩ (.int .u32 0) .returning _ d0 (HF.out 0)).mono ?_
  rintro e u' w3 ⟨rfl, rfl, rfl⟩
  refine leaves_cons (f := 56) (args := #[.pointer (some ⟨b, 1, none⟩)]) (by simp [settle]) (by simp [go_sem]) ?_
  refine (unlock_deferred muLib ⟨b, 1, none⟩ _ _ ?_ (by simp [HF.out 1])).mono ?_
  · refine (World.cell?_setCell_other _ ⟨b, 0, none⟩ ⟨b, 1, none⟩ _ (by simp)).trans ?_
    rw [World.cell?_drew]
    exact d1
  rintro e u' w4 ⟨rfl, rfl, rfl⟩
  obtain ⟨c, t, hb, h3⟩ := HN.out.bld
  have hlo := HR.out.lo
  have hlt := HR.out.lt
  have hfin : Done B b w ((w2.drew.setCell ⟨b, 0, none⟩ (.int .u32 1)).setCell ⟨b, 1, none⟩ (.int .i32 0)) := by
    refine ⟨c, t, hs1 ▸ (hb.keep (by simp) (fun j hj _ => ?_)), ?_, ((hb1.trans HN.out.bel).drew.setCell hlo _).setCell hlo _⟩
    · rw [Below.heap_setCell _ _ _ _ (by show j ≠ b; omega), Below.heap_setCell _ _ _ _ (by show j ≠ b; omega)]
      rfl
    · rw [World.cell?_setCell_other _ ⟨b, 1, none⟩ ⟨b, 3, none⟩ _ (by simp), World.cell?_setCell_other _ ⟨b, 0, none⟩ ⟨b, 3, none⟩ _ (by simp), World.cell?_drew]
      exact h3
  have HFin := hid0 hfin
  clear hfin
  simp [Leaves, settle, results, Tryz.results43]
  exact HFin.out
set_option maxRecDepth 100000 in
set_option maxHeartbeats 1600000 in
/-- Do, not yet done. -/
theorem do_once (B b : Nat) (w : World) (hr : RepNew B b w) :
    Calls Tryz.prog 31 #[.pointer (some ⟨b, 0, none⟩), .func (.func 32) #[.pointer (some ⟨b, 0, none⟩)] #[]] w fun e w' => e = .returned (.tuple #[]) ∧ Done B b w w' := by
  have hl := run_call_load (P := Tryz.prog) Tryz.func54 (by kernel_rfl) (by kernel_rfl) (by kernel_rfl) .u32 (by kernel_rfl) hr.c0
  have hnot : ∀ (x : Bool) (w : World), (Op.unary .not (.bool x)).run Tryz.prog w = .ok (.bool (!x)) w := fun _ _ => rfl
  have HS := hid0 (slow_once B b w hr)
  clear hr
  go_enter Tryz.func31, Tryz.ntmps31
  go_wp2_with (first | (go_at_call 43; refine HS.out.mono ?_; rintro e w' ⟨rfl, hd⟩) | (go_at_call 42; go_in))
  go_end0
  exact ⟨rfl, hd⟩
end Go.Proofs.YtinpchebcnkckaaGreatDoor.PA
