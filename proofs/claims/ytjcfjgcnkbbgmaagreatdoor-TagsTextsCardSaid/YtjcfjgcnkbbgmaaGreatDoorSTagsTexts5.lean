/-
  Texts of the proof of TagsTexts, part 5 of 6: contracts and plain laws. Conditions: see each statement.
-/
import Derived.Test.YtjcfjgcnkbbgmaaGreatDoorProg
import Derived.Conc.MuLone
import Derived.KernelRfl
import Derived.Test.YtjcfjgcnkbbgmaaGreatDoorSTagsTexts4
import Derived.Defers
import Derived.RegionCalls
import Derived.Laws.LoneSync
import Derived.Test.YtjcfjgcnkbbgmaaGreatDoorSTagsTexts3
import Derived.Test.YtjcfjgcnkbbgmaaGreatDoorSTagsTexts1
import Derived.Test.YtjcfjgcnkbbgmaaGreatDoorWWords
import Derived.Laws.CopyRow
import Derived.Laws.MakeOwn
import Derived.Lib.Bytealg
import Derived.Lib.Strings
import Derived.Lib.Walk
import Derived.Lib.ConvBytes
import Derived.Lib.Hide
import Derived.Laws.Strings3
import Derived.Laws.Closers25
import Derived.Laws.Closers25b
import Derived.BigGuard
import Derived.WalkKit
import Derived.BigCall
import Derived.Deep.RegionHeld3
import Derived.Deep.DeepCutAuto
import Derived.IntWalk
import Derived.Test.YtjcfjgcnkbbgmaaGreatDoorSTagsTexts2
import Derived.Deep.Slices
set_option linter.unusedVariables false
namespace Go.Proofs.YtjcfjgcnkbbgmaaGreatDoor.PA
open Go.Conc.Locks

abbrev muLink : MuLink := { lock := 74, unlock := 75, ilock := 86, iunlock := 87, lockSlow := 103, unlockSlow := 106, disable := 99, enable := 101, acquire := 102, relMerge := 104, cas32 := 100, add32 := 105, tMutex := 95, tIMutex := 93, tPMutex := 132, tPIMutex := 154, tPI32 := 156, tUP := 73, tNoCopy := 87, tU32 := 89 }
set_option maxRecDepth 100000 in
theorem muLib : MuLib Tryz.prog muLink := ⟨Tryz.func74, Tryz.func75, Tryz.func86, Tryz.func87, Tryz.func99, Tryz.func101, Tryz.func102, Tryz.func104, Tryz.func100, Tryz.func105, Tryz.underlying93, Tryz.runUnderlying93, Tryz.sizeOf93, Tryz.isAgg93, Tryz.zeroValue93, Tryz.underlying95, Tryz.runUnderlying95, Tryz.sizeOf95, Tryz.isAgg95, Tryz.zeroValue95, Tryz.underlying132, Tryz.runUnderlying132, Tryz.sizeOf132, Tryz.isAgg132, Tryz.zeroValue132, Tryz.underlying154, Tryz.runUnderlying154, Tryz.sizeOf154, Tryz.isAgg154, Tryz.zeroValue154, Tryz.underlying156, Tryz.runUnderlying156, Tryz.sizeOf156, Tryz.isAgg156, Tryz.zeroValue156, Tryz.underlying73, Tryz.runUnderlying73, Tryz.sizeOf73, Tryz.isAgg73, Tryz.zeroValue73, Tryz.underlying87, Tryz.runUnderlying87, Tryz.sizeOf87, Tryz.isAgg87, Tryz.zeroValue87, Tryz.underlying21, Tryz.runUnderlying21, Tryz.sizeOf21, Tryz.isAgg21, Tryz.zeroValue21, (by kernel_rfl)⟩
end Go.Proofs.YtjcfjgcnkbbgmaaGreatDoor.PA

namespace Go.Proofs.YtjcfjgcnkbbgmaaGreatDoor.PA
open Go.RowKit Go.MuLone Go.Conc.Locks
set_option linter.unusedVariables false

theorem Bld.keep {B c t k : Nat} {w w' : World} (h : Bld B c t k w) (hs : w.heap.size ≤ w'.heap.size) (hk : ∀ j, B ≤ j → j < w.heap.size → w'.heap[j]? = w.heap[j]?) : Bld B c t k w' := by
  obtain ⟨lc, lt, ct, hc, ht, ⟨tc, r1, r2, r3⟩, ⟨cc, a1, a2, a3, a4, a5⟩⟩ := h
  refine ⟨lc, lt, ct, by omega, by omega, ⟨tc, (hk t lt ht).trans r1, r2, r3⟩, ⟨cc, (hk c lc hc).trans a1, a2, a3, fun j hj => ?_, a5⟩⟩
  obtain ⟨v, h1, gx, cp, e1, e2, e3, e4, e5, e6, e7⟩ := a4 j hj
  exact ⟨v, h1, gx, cp, e1, e2, e3, by omega, e5, e6, fun i hi => (World.cell?_of_block (hk gx e3 e4)).trans (e7 i hi)⟩
/-- What buildOnce leaves. -/
structure Onc (B b : Nat) (w w' : World) : Prop where
  bld : ∃ c t, Bld w.heap.size c t 4 w' ∧ w'.cell? ⟨b, 3, none⟩ = some (.iface 127 (.pointer (some ⟨c, 0, none⟩)))
  bel : Below B w w'
  size : w.heap.size ≤ w'.heap.size
  c0 : w'.cell? ⟨b, 0, none⟩ = w.cell? ⟨b, 0, none⟩
  c1 : w'.cell? ⟨b, 1, none⟩ = w.cell? ⟨b, 1, none⟩
  fz : ∀ j, w'.frozen? ⟨b, j, none⟩ = w.frozen? ⟨b, j, none⟩
set_option maxHeartbeats 2000000 in
set_option maxRecDepth 100000 in
theorem bonce (B b g gc : Nat) (w : World) (h3 : w.cell? ⟨b, 3, none⟩ = some .nilIface) (h4 : w.cell? ⟨b, 4, none⟩ = some (.slice (some ⟨g, 0, none⟩) 8 gc)) (hgc : 8 ≤ gc) (hg : PatsAt g w) (hbl : b < w.heap.size) (hB : B ≤ b) (hfz : ∀ j, w.frozen? ⟨b, j, none⟩ = false) :
    Calls Tryz.prog 56 #[.pointer (some ⟨b, 0, none⟩)] w fun e w' => e = .returned (.tuple #[]) ∧ Onc B b w w' := by
  have HW := hid0 (build_walk b g gc w h4 hgc hg hbl)
  have HZ := hid0 hfz
  clear hfz hg
  go_enter Tryz.func56, Tryz.ntmps56
  go_wp2_with fail
  refine HW.out.mono ?_
  rintro e wm ⟨c, t, rfl, hb, hbel⟩
  have k3 : wm.cell? ⟨b, 3, none⟩ = some .nilIface := by rw [hbel.cell (by exact hbl)]; exact h3
  have k4 : wm.cell? ⟨b, 4, none⟩ = some (.slice (some ⟨g, 0, none⟩) 8 gc) := by rw [hbel.cell (by exact hbl)]; exact h4
  have f3 : wm.frozen? ⟨b, 3, none⟩ = false := by rw [hbel.frozen (by exact hbl)]; exact HZ.out 3
  have f4 : wm.frozen? ⟨b, 4, none⟩ = false := by rw [hbel.frozen (by exact hbl)]; exact HZ.out 4
  have HB := hid0 hb
  have HL := hid0 hbel
  clear hb hbel h3 h4 HW
  go_wp2
  go_end0
  refine ⟨rfl, ?_⟩
  have hne : ∀ (j : Nat) (v v2 : Value), w.heap.size ≤ j → ((wm.setCell ⟨b, 3, none⟩ v).setCell ⟨b, 4, none⟩ v2).heap[j]? = wm.heap[j]? := fun j v v2 hj => by
    rw [Below.heap_setCell _ _ _ _ (by show j ≠ b; omega), Below.heap_setCell _ _ _ _ (by show j ≠ b; omega)]
  refine { bld := ⟨c, t, HB.out.keep (by simp) (fun j hj _ => hne j _ _ hj), ?_⟩, bel := ((HL.out.mono (by omega)).setCell hB _).setCell hB _, size := by have := HL.out.size; simp; exact this, c0 := ?_, c1 := ?_, fz := fun j => ?_ }
  · rw [World.cell?_setCell_other _ ⟨b, 4, none⟩ ⟨b, 3, none⟩ _ (by simp)]
    exact World.cell?_setCell_same _ _ _ k3
  · rw [World.cell?_setCell_other _ ⟨b, 4, none⟩ ⟨b, 0, none⟩ _ (by simp), World.cell?_setCell_other _ ⟨b, 3, none⟩ ⟨b, 0, none⟩ _ (by simp)]
    exact HL.out.cell hbl
  · rw [World.cell?_setCell_other _ ⟨b, 4, none⟩ ⟨b, 1, none⟩ _ (by simp), World.cell?_setCell_other _ ⟨b, 3, none⟩ ⟨b, 1, none⟩ _ (by simp)]
    exact HL.out.cell hbl
  · simp
    exact HL.out.frozen hbl
/-- '(*sync/atomic.Bool).Store(true)', entered as a deferred call. -/
theorem store_d (a : Addr) (x : Value) (u : FrameMode) (w : World) (hc : w.cell? a = some x) (hz : w.frozen? a = false) :
    CallsD Tryz.prog 76 #[.pointer (some a), .bool true] u w fun e u' w' => u' = u ∧ (e = .returned (.tuple #[]) ∧ w' = w.drew.setCell a (.int .u32 1)) := by
  have hc' : w.drew.cell? a = some x := by go_simp
  have hz' : w.drew.frozen? a = false := by go_simp
  have hst := run_call_store (P := Tryz.prog) Tryz.func88 (by kernel_rfl) (by kernel_rfl) (by kernel_rfl) (by kernel_rfl) (k := .u32) (y := 1) hc' hz'
  go_enter_d Tryz.func76, Tryz.ntmps76
  go_wp2
  go_region_calls
  all_goals (go_end0; exact ⟨rfl, rfl⟩)
/-- What Do leaves. -/
def Done (B b : Nat) (w w' : World) : Prop := ∃ c t, Bld w.heap.size c t 4 w' ∧ w'.cell? ⟨b, 3, none⟩ = some (.iface 127 (.pointer (some ⟨c, 0, none⟩))) ∧ Below B w w'
set_option maxRecDepth 100000 in
set_option maxHeartbeats 2000000 in
theorem slow_once (B b : Nat) (w : World) (hr : RepNew B b w) :
    Calls Tryz.prog 64 #[.pointer (some ⟨b, 0, none⟩), .func (.func 56) #[.pointer (some ⟨b, 0, none⟩)] #[]] w fun e w' => e = .returned (.tuple #[]) ∧ Done B b w w' := by
  obtain ⟨g, gc, h4, hgc, hg, hgb, hgB⟩ := hr.c4
  obtain ⟨w1, hw1⟩ : ∃ w1, w.setCell ⟨b, 1, none⟩ (.int .i32 1) = w1 := ⟨_, rfl⟩
  have o : ∀ j, j ≠ 1 → w1.cell? ⟨b, j, none⟩ = w.cell? ⟨b, j, none⟩ := fun j hj => by rw [← hw1]; exact World.cell?_setCell_other _ ⟨b, 1, none⟩ ⟨b, j, none⟩ _ (by intro e; apply hj; have h := congrArg Addr.off e; first | exact h | exact h.symm)
  have hs1 : w1.heap.size = w.heap.size := by rw [← hw1, World.size_setCell]
  have hg1 : PatsAt g w1 := ⟨by rw [hs1]; exact hg.1, fun j hj => by rw [← hw1, World.cell?_of_block (Below.heap_setCell _ _ _ _ (by exact hgb))]; exact hg.2 j hj⟩
  have f1 : ∀ j, w1.frozen? ⟨b, j, none⟩ = false := fun j => by rw [← hw1]; simp [hr.fz j]
  have HO := hid0 (bonce B b g gc w1 ((o 3 (by decide)).trans hr.c3) ((o 4 (by decide)).trans h4) hgc hg1 (by rw [hs1]; exact hr.lt) hr.lo f1)
  have hb1 : Below B w w1 := by rw [← hw1]; exact (Below.refl _ w).setCell hr.lo _
  have c01 := (o 0 (by decide)).trans hr.c0
  have c11 : w1.cell? ⟨b, 1, none⟩ = some (.int .i32 1) := by rw [← hw1]; exact World.cell?_setCell_same _ _ _ hr.c1
  have hl := run_call_load (P := Tryz.prog) Tryz.func73 (by kernel_rfl) (by kernel_rfl) (by kernel_rfl) .u32 (by kernel_rfl) (w := w1) (a := ⟨b, 0, none⟩) (x := 0) c01
  have hnot : ∀ (x : Bool) (w : World), (Op.unary .not (.bool x)).run Tryz.prog w = .ok (.bool (!x)) w := fun _ _ => rfl
  have hlock := hid0 (lock_free muLib ⟨b, 1, none⟩ w hr.c1 (hr.fz 1))
  have HR := hid0 hr
  clear hr h4 hg hg1
  go_enter_defers Tryz.func64, Tryz.ntmps64
  go_wp2_with (first | (go_at_call 74; refine hlock.out.mono ?_; rintro e w' ⟨rfl, rfl⟩; rw [hw1]) | (go_at_call 63; go_in))
  refine HO.out.mono ?_
  rintro e w2 ⟨rfl, ho⟩
  have d0 : w2.cell? ⟨b, 0, none⟩ = some (.int .u32 0) := ho.c0.trans c01
  have d1 : w2.cell? ⟨b, 1, none⟩ = some (.int .i32 1) := ho.c1.trans c11
  have fz : ∀ j, w2.frozen? ⟨b, j, none⟩ = false := fun j => (ho.fz j).trans (f1 j)
  have HN := hid0 ho
  have HF := hid0 fz
  clear ho fz HO hl c01 c11 f1 o hlock
  go_wp2
  refine leaves_cons (f := 76) (args := #[.pointer (some ⟨b, 0, none⟩), .bool true]) (by simp) (by simp [go_sem]) ?_
  refine (store_d ⟨b, 0, none⟩ (.int .u32 0) .returning _ d0 (HF.out 0)).mono ?_
  rintro e u' w3 ⟨rfl, rfl, rfl⟩
  refine leaves_cons (f := 75) (args := #[.pointer (some ⟨b, 1, none⟩)]) (by simp [settle]) (by simp [go_sem]) ?_
  refine (unlock_deferred muLib ⟨b, 1, none⟩ _ _ ?_ (by simp [HF.out 1])).mono ?_
  · refine (World.cell?_setCell_other _ ⟨b, 0, none⟩ ⟨b, 1, none⟩ _ (by simp)).trans ?_
    rw [World.cell?_drew]
    exact d1
  rintro e u' w4 ⟨rfl, rfl, rfl⟩
  obtain ⟨c, t, hb, h3⟩ := HN.out.bld
  have hlo := HR.out.lo
  have hlt := HR.out.lt
  have hfin : Done B b w ((w2.drew.setCell ⟨b, 0, none⟩ (.int .u32 1)).setCell ⟨b, 1, none⟩ (.int .i32 0)) := by
    refine ⟨c, t, hs1 ▸ (hb.keep (by simp) (fun j hj _ => ?_)), ?_, ((hb1.trans HN.out.bel).drew.setCell hlo _).setCell hlo _⟩
    · rw [Below.heap_setCell _ _ _ _ (by show j ≠ b; omega), Below.heap_setCell _ _ _ _ (by show j ≠ b; omega)]
      rfl
    · rw [World.cell?_setCell_other _ ⟨b, 1, none⟩ ⟨b, 3, none⟩ _ (by simp), World.cell?_setCell_other _ ⟨b, 0, none⟩ ⟨b, 3, none⟩ _ (by simp), World.cell?_drew]
      exact h3
  have HFin := hid0 hfin
  clear hfin
  simp [Leaves, settle, results, Tryz.results64]
  exact HFin.out
set_option maxRecDepth 100000 in
set_option maxHeartbeats 1600000 in
/-- Do, not yet done. -/
theorem do_once (B b : Nat) (w : World) (hr : RepNew B b w) :
    Calls Tryz.prog 55 #[.pointer (some ⟨b, 0, none⟩), .func (.func 56) #[.pointer (some ⟨b, 0, none⟩)] #[]] w fun e w' => e = .returned (.tuple #[]) ∧ Done B b w w' := by
  have hl := run_call_load (P := Tryz.prog) Tryz.func73 (by kernel_rfl) (by kernel_rfl) (by kernel_rfl) .u32 (by kernel_rfl) hr.c0
  have hnot : ∀ (x : Bool) (w : World), (Op.unary .not (.bool x)).run Tryz.prog w = .ok (.bool (!x)) w := fun _ _ => rfl
  have HS := hid0 (slow_once B b w hr)
  clear hr
  go_enter Tryz.func55, Tryz.ntmps55
  go_wp2_with (first | (go_at_call 64; refine HS.out.mono ?_; rintro e w' ⟨rfl, hd⟩) | (go_at_call 63; go_in))
  go_end0
  exact ⟨rfl, hd⟩
end Go.Proofs.YtjcfjgcnkbbgmaaGreatDoor.PA

namespace Go.Proofs.YtjcfjgcnkbbgmaaGreatDoor.PA
open Go.RowKit Go.Proofs.YtjcfjgcnkbbgmaaGreatDoor.Pl Go.Proofs.YtjcfjgcnkbbgmaaGreatDoorW.PrintWords
set_option linter.unusedVariables false

theorem neq_nil (a : Option Addr) (l c : Nat) (W : World) : (binOp .neq 41 (.slice a l c) (.slice none 0 0)).run Tryz.prog W = .ok (.bool (!a.isNone)) W := run_neq_slice_nil W 41 5 a l c Tryz.underlying41
/-- What the record holds at a byte. -/
theorem look {b0 c t : Nat} {w : World} (h : Bld b0 c t 4 w) (x : UInt8) :
    (isS x = false ∧ w.cell? ⟨c, x.toNat, none⟩ = some (.slice none 0 0)) ∨
    (isS x = true ∧ ∃ gx cap, w.cell? ⟨c, x.toNat, none⟩ = some (.slice (some ⟨gx, 0, none⟩) (esc x).length cap) ∧ (esc x).length ≤ cap ∧ gx < w.heap.size ∧ ∀ j, j < (esc x).length → w.cell? ⟨gx, j, none⟩ = some (.int .u8 ((esc x).getD j 0).toNat)) := by
  obtain ⟨cc, h1, h2, h3, h4, h5⟩ := h.ary
  have hc : ∀ j, w.cell? ⟨c, j, none⟩ = cc[j]? := fun j => cell_of_row w c j cc _ _ h1
  have hs : ∀ k, k < 4 → x = sgs.getD k 0 → esc x = rps.getD k [] ∧ isS x = true := by
    have h0 : ∀ k : Fin 4, esc (sgs.getD k.val 0) = rps.getD k.val [] ∧ isS (sgs.getD k.val 0) = true := by decide
    intro k hk e
    rw [e]
    exact h0 ⟨k, hk⟩
  by_cases hx : isS x = true
  · have : ∃ k, k < 4 ∧ x = sgs.getD k 0 := by
      unfold isS at hx
      simp only [Bool.or_eq_true, decide_eq_true_eq] at hx
      rcases hx with ((e | e) | e) | e
      · exact ⟨3, by decide, e⟩
      · exact ⟨2, by decide, e⟩
      · exact ⟨1, by decide, e⟩
      · exact ⟨0, by decide, e⟩
    obtain ⟨k, hk, e⟩ := this
    obtain ⟨v, hv, gx, cap, e1, e2, e3, e4, e5, e6, e7⟩ := h4 k hk
    rw [← e] at hv
    rw [← (hs k hk e).1] at e1 e2 e7
    exact .inr ⟨hx, gx, cap, by rw [hc, hv, e1], e2, e4, e7⟩
  · refine .inl ⟨by simpa using hx, ?_⟩
    rw [hc]
    refine h5 x.toNat x.toNat_lt (fun j hj e => hx ?_)
    have : x = sgs.getD j 0 := (UInt8.toNat_inj.1 e).symm
    exact (hs j hj this).2
theorem tos_cell {b0 c t : Nat} {w : World} (h : Bld b0 c t 4 w) (j : Nat) (hj : j < 4) : w.cell? ⟨t, j, none⟩ = some (.string ⟨#[sgs.getD j 0]⟩) := by
  obtain ⟨tc, h1, h2, h3⟩ := h.row
  rw [cell_of_row w t j tc _ _ h1]
  exact h3 j hj
theorem to_cell {b0 c t : Nat} {w : World} (h : Bld b0 c t 4 w) : w.cell? ⟨c, 256, none⟩ = some (.slice (some ⟨t, 0, none⟩) 4 4) := by
  obtain ⟨cc, h1, h2, h3, h4, h5⟩ := h.ary
  rw [cell_of_row w c 256 cc _ _ h1]
  exact h3
/-- How much longer the text gets by the first k signs; how many there are. -/
def sumK (s : List UInt8) (k : Nat) : Nat := [0, s.count 34 * 5, s.count 34 * 5 + s.count 62 * 3, s.count 34 * 5 + s.count 62 * 3 + s.count 60 * 3, s.count 34 * 5 + s.count 62 * 3 + s.count 60 * 3 + s.count 38 * 4].getD k 0
def cntK (s : List UInt8) (k : Nat) : Nat := [0, s.count 34, s.count 34 + s.count 62, s.count 34 + s.count 62 + s.count 60, s.count 34 + s.count 62 + s.count 60 + s.count 38].getD k 0
theorem cntK_le (s : List UInt8) : s.count 34 ≤ s.length ∧ s.count 62 ≤ s.length ∧ s.count 60 ≤ s.length ∧ s.count 38 ≤ s.length := ⟨List.count_le_length, List.count_le_length, List.count_le_length, List.count_le_length⟩
theorem sumK_le (s : List UInt8) (k : Nat) (hk : k ≤ 4) : sumK s k ≤ 20 * s.length := by
  obtain ⟨h1, h2, h3, h4⟩ := cntK_le s
  rcases (by omega : k = 0 ∨ k = 1 ∨ k = 2 ∨ k = 3 ∨ k = 4) with rfl | rfl | rfl | rfl | rfl
  · exact Nat.zero_le _
  · show s.count 34 * 5 ≤ _; omega
  · show s.count 34 * 5 + s.count 62 * 3 ≤ _; omega
  · show s.count 34 * 5 + s.count 62 * 3 + s.count 60 * 3 ≤ _; omega
  · show s.count 34 * 5 + s.count 62 * 3 + s.count 60 * 3 + s.count 38 * 4 ≤ _; omega
/-- The buffer, in which l stands. -/
def Buf (G N : Nat) (l : List UInt8) (W : World) : Prop := ∃ cur : Array Value, W.heap[G]? = some (.cells cur 5 (0, 0)) ∧ cur.size = N ∧ ∀ j, j < l.length → cur[j]? = some (.int .u8 (l.getD j 0).toNat)
theorem buf_one {G N : Nat} {l : List UInt8} {W : World} (h : Buf G N l W) (hl : l.length < N) (x : UInt8) : Buf G N (l ++ [x]) (W.setCell ⟨G, l.length, none⟩ (.int .u8 (x.toNat : Int))) := by
  obtain ⟨cur, h1, h2, h3⟩ := h
  refine ⟨cur.setIfInBounds l.length (.int .u8 (x.toNat : Int)), by rw [setCell_eq_setRow _ _ _ _ _ _ _ h1]; exact setRow_heap _ _ _ _ _ _ h1, by simp [h2], fun j hj => ?_⟩
  rw [List.length_append, List.length_singleton] at hj
  by_cases e : j = l.length
  · subst e
    rw [Array.getElem?_setIfInBounds_self_of_lt (by omega)]
    simp [List.getD_eq_getElem?_getD]
  · rw [Array.getElem?_setIfInBounds_ne (fun e2 => e e2.symm), h3 j (by omega)]
    simp [List.getD_eq_getElem?_getD, List.getElem?_append_left (show j < l.length by omega)]
theorem buf_many {G N : Nat} {l m : List UInt8} {W : World} {cur : Array Value} (h1 : W.heap[G]? = some (.cells cur 5 (0, 0))) (h2 : cur.size = N) (h3 : ∀ j, j < l.length → cur[j]? = some (.int .u8 (l.getD j 0).toNat)) (hl : l.length + m.length ≤ N) :
    Buf G N (l ++ m) (W.setRow G (cur.toList.take l.length ++ m.map (fun y => Value.int .u8 (y.toNat : Int)) ++ cur.toList.drop (l.length + m.length)).toArray) := by
  have hcl : cur.toList.length = N := by simpa using h2
  refine ⟨_, setRow_heap _ _ _ _ _ _ h1, by rw [List.size_toArray, List.length_append, List.length_append, List.length_take, List.length_drop, List.length_map, hcl]; omega, fun j hj => ?_⟩
  rw [List.length_append] at hj
  have hlt : (cur.toList.take l.length).length = l.length := by rw [List.length_take, hcl]; omega
  rw [List.getElem?_toArray, List.append_assoc]
  by_cases e : j < l.length
  · rw [List.getElem?_append_left (by omega), List.getElem?_take, if_pos e, Array.getElem?_toList, h3 j e]
    simp [List.getD_eq_getElem?_getD, List.getElem?_append_left e]
  · rw [List.getElem?_append_right (by omega), hlt, List.getElem?_append_left (by rw [List.length_map]; omega), List.getElem?_map]
    have hj2 : j - l.length < m.length := by omega
    simp [List.getD_eq_getElem?_getD, List.getElem?_append_right (show l.length ≤ j by omega), List.getElem?_eq_getElem hj2]
theorem Bld.drew {b0 c t k : Nat} {w : World} (h : Bld b0 c t k w) : Bld b0 c t k w.drew := by
  obtain ⟨lc, lt, ct, hc, ht, ⟨tc, r1, r2, r3⟩, ⟨cc, a1, a2, a3, a4, a5⟩⟩ := h
  exact ⟨lc, lt, ct, hc, ht, ⟨tc, r1, r2, r3⟩, ⟨cc, a1, a2, a3, a4, a5⟩⟩
set_option maxHeartbeats 8000000 in
set_option maxRecDepth 100000 in
theorem bsr_walk (b0 c t : Nat) (s : List UInt8) (hs : s.length ≤ 268435456) (w : World) (hb : Bld b0 c t 4 w) :
    Calls Tryz.prog 151 #[.pointer (some ⟨c, 0, none⟩), .string (B s)] w fun e w' => e = .returned (.string (B (htm s))) ∧ Below w.heap.size w w' := by
  have hsz : (B s).size = s.length := B_size s
  have h256 := to_cell hb
  have HB := hid0 hb
  clear hb
  by_cases h32 : 32 ≤ s.length
  · have q32 : decide ((32 : Int) ≤ (s.length : Int)) = true := decide_eq_true (by omega)
    go_enter Tryz.func151, Tryz.ntmps151
    go_wp2
    go_loopw [5, 6, 32] (fun v5 v6 v32 wr => ∃ k : Nat, k ≤ 4 ∧ v32 = .int .i64 (k : Int) ∧ v5 = .int .i64 ((s.length + sumK s k : Nat) : Int) ∧ v6 = .bool (decide (0 < cntK s k)) ∧ Hid (Bld b0 c t 4 wr) ∧ Hid (Below w.heap.size w wr)) (fun _ _ v32 _ => 4 - (intOf v32).toNat)
    case atStart => exact ⟨0, by decide, rfl, rfl, rfl, HB, hid0 (Below.refl _ _)⟩
    case round =>
      obtain ⟨k, hk, rfl, rfl, rfl, HD, HBl⟩ := hrel
      rcases (by omega : k = 0 ∨ k = 1 ∨ k = 2 ∨ k = 3 ∨ k = 4) with rfl | rfl | rfl | rfl | rfl
      · have hcnt := hid0 (Tryz.strings_Count_one (B s) 34)
        have hx : (({ data := #[34] } : ByteArray)[0]'(by decide)).toNat = 34 := rfl
        have tk : wr.cell? ⟨t, 0, none⟩ = some (.string ⟨#[34]⟩) := tos_cell HD.out 0 (by decide)
        obtain ⟨a, ha⟩ : ∃ a, s.count 34 = a := ⟨_, rfl⟩
        have hal : a ≤ s.length := by rw [← ha]; exact List.count_le_length
        have e0 : Lib.countByte (B s).data.toList 34 = a := by rw [B_data]; exact ha
        rw [e0] at hcnt
        obtain ⟨gx, cap, hL⟩ : ∃ gx cap, wr.cell? ⟨c, 34, none⟩ = some (.slice (some ⟨gx, 0, none⟩) 6 cap) := by
          rcases look HD.out 34 with ⟨h, _⟩ | ⟨_, gx, cap, h, _⟩
          · cases h
          · exact ⟨gx, cap, h⟩
        have hS : sumK s 1 = sumK s 0 + a * 5 := by rw [← ha]; first | rfl | exact (Nat.zero_add _).symm
        have hZ : cntK s 1 = cntK s 0 + a := by rw [← ha]; first | rfl | exact (Nat.zero_add _).symm
        have hSb := sumK_le s 0 (by decide)
        have HS := hid0 hS
        have HZ := hid0 hZ
        clear hS hZ ha e0
        generalize sumK s 0 = S0 at *
        generalize cntK s 0 = Z0 at *
        by_cases h0 : a = 0
        · have q : ((a : Int) != 0) = false := by rw [h0]; rfl
          go_wp2_with (go_at_call 153; refine (hcnt.out wr).mono ?_; rintro e w' ⟨rfl, rfl⟩)
          go_roundw
          case rel => exact ⟨1, by decide, rfl, by rw [HS.out, h0]; go_num, by rw [HZ.out, h0]; rfl, HD, HBl⟩
          case measure => decide
        · have q : ((a : Int) != 0) = true := bne_iff_ne.2 (by omega)
          have hw : wrap64 ((s.length : Int) + (S0 : Int) + (a : Int) * 5) = ((s.length + (S0 + a * 5) : Nat) : Int) := by rw [w64 (by omega) (by omega)]; omega
          go_wp2_with (go_at_call 153; refine (hcnt.out wr).mono ?_; rintro e w' ⟨rfl, rfl⟩)
          go_region
          go_wp2
          go_roundw
          case rel => exact ⟨1, by decide, rfl, congrArg (Value.int .i64) (by rw [HS.out]; omega), congrArg Value.bool (by rw [HZ.out]; exact (decide_eq_true (by omega)).symm), hid0 HD.out.drew, hid0 HBl.out.drew⟩
          case measure => decide
      · have hcnt := hid0 (Tryz.strings_Count_one (B s) 62)
        have hx : (({ data := #[62] } : ByteArray)[0]'(by decide)).toNat = 62 := rfl
        have tk : wr.cell? ⟨t, 1, none⟩ = some (.string ⟨#[62]⟩) := tos_cell HD.out 1 (by decide)
        obtain ⟨a, ha⟩ : ∃ a, s.count 62 = a := ⟨_, rfl⟩
        have hal : a ≤ s.length := by rw [← ha]; exact List.count_le_length
        have e0 : Lib.countByte (B s).data.toList 62 = a := by rw [B_data]; exact ha
        rw [e0] at hcnt
        obtain ⟨gx, cap, hL⟩ : ∃ gx cap, wr.cell? ⟨c, 62, none⟩ = some (.slice (some ⟨gx, 0, none⟩) 4 cap) := by
          rcases look HD.out 62 with ⟨h, _⟩ | ⟨_, gx, cap, h, _⟩
          · cases h
          · exact ⟨gx, cap, h⟩
        have hS : sumK s 2 = sumK s 1 + a * 3 := by rw [← ha]; first | rfl | exact (Nat.zero_add _).symm
        have hZ : cntK s 2 = cntK s 1 + a := by rw [← ha]; first | rfl | exact (Nat.zero_add _).symm
        have hSb := sumK_le s 1 (by decide)
        have HS := hid0 hS
        have HZ := hid0 hZ
        clear hS hZ ha e0
        generalize sumK s 1 = S0 at *
        generalize cntK s 1 = Z0 at *
        by_cases h0 : a = 0
        · have q : ((a : Int) != 0) = false := by rw [h0]; rfl
          go_wp2_with (go_at_call 153; refine (hcnt.out wr).mono ?_; rintro e w' ⟨rfl, rfl⟩)
          go_roundw
          case rel => exact ⟨2, by decide, rfl, by rw [HS.out, h0]; go_num, by rw [HZ.out, h0]; rfl, HD, HBl⟩
          case measure => decide
        · have q : ((a : Int) != 0) = true := bne_iff_ne.2 (by omega)
          have hw : wrap64 ((s.length : Int) + (S0 : Int) + (a : Int) * 3) = ((s.length + (S0 + a * 3) : Nat) : Int) := by rw [w64 (by omega) (by omega)]; omega
          go_wp2_with (go_at_call 153; refine (hcnt.out wr).mono ?_; rintro e w' ⟨rfl, rfl⟩)
          go_region
          go_wp2
          go_roundw
          case rel => exact ⟨2, by decide, rfl, congrArg (Value.int .i64) (by rw [HS.out]; omega), congrArg Value.bool (by rw [HZ.out]; exact (decide_eq_true (by omega)).symm), hid0 HD.out.drew, hid0 HBl.out.drew⟩
          case measure => decide
      · have hcnt := hid0 (Tryz.strings_Count_one (B s) 60)
        have hx : (({ data := #[60] } : ByteArray)[0]'(by decide)).toNat = 60 := rfl
        have tk : wr.cell? ⟨t, 2, none⟩ = some (.string ⟨#[60]⟩) := tos_cell HD.out 2 (by decide)
        obtain ⟨a, ha⟩ : ∃ a, s.count 60 = a := ⟨_, rfl⟩
        have hal : a ≤ s.length := by rw [← ha]; exact List.count_le_length
        have e0 : Lib.countByte (B s).data.toList 60 = a := by rw [B_data]; exact ha
        rw [e0] at hcnt
        obtain ⟨gx, cap, hL⟩ : ∃ gx cap, wr.cell? ⟨c, 60, none⟩ = some (.slice (some ⟨gx, 0, none⟩) 4 cap) := by
          rcases look HD.out 60 with ⟨h, _⟩ | ⟨_, gx, cap, h, _⟩
          · cases h
          · exact ⟨gx, cap, h⟩
        have hS : sumK s 3 = sumK s 2 + a * 3 := by rw [← ha]; first | rfl | exact (Nat.zero_add _).symm
        have hZ : cntK s 3 = cntK s 2 + a := by rw [← ha]; first | rfl | exact (Nat.zero_add _).symm
        have hSb := sumK_le s 2 (by decide)
        have HS := hid0 hS
        have HZ := hid0 hZ
        clear hS hZ ha e0
        generalize sumK s 2 = S0 at *
        generalize cntK s 2 = Z0 at *
        by_cases h0 : a = 0
        · have q : ((a : Int) != 0) = false := by rw [h0]; rfl
          go_wp2_with (go_at_call 153; refine (hcnt.out wr).mono ?_; rintro e w' ⟨rfl, rfl⟩)
          go_roundw
          case rel => exact ⟨3, by decide, rfl, by rw [HS.out, h0]; go_num, by rw [HZ.out, h0]; rfl, HD, HBl⟩
          case measure => decide
        · have q : ((a : Int) != 0) = true := bne_iff_ne.2 (by omega)
          have hw : wrap64 ((s.length : Int) + (S0 : Int) + (a : Int) * 3) = ((s.length + (S0 + a * 3) : Nat) : Int) := by rw [w64 (by omega) (by omega)]; omega
          go_wp2_with (go_at_call 153; refine (hcnt.out wr).mono ?_; rintro e w' ⟨rfl, rfl⟩)
          go_region
          go_wp2
          go_roundw
          case rel => exact ⟨3, by decide, rfl, congrArg (Value.int .i64) (by rw [HS.out]; omega), congrArg Value.bool (by rw [HZ.out]; exact (decide_eq_true (by omega)).symm), hid0 HD.out.drew, hid0 HBl.out.drew⟩
          case measure => decide
      · have hcnt := hid0 (Tryz.strings_Count_one (B s) 38)
        have hx : (({ data := #[38] } : ByteArray)[0]'(by decide)).toNat = 38 := rfl
        have tk : wr.cell? ⟨t, 3, none⟩ = some (.string ⟨#[38]⟩) := tos_cell HD.out 3 (by decide)
        obtain ⟨a, ha⟩ : ∃ a, s.count 38 = a := ⟨_, rfl⟩
        have hal : a ≤ s.length := by rw [← ha]; exact List.count_le_length
        have e0 : Lib.countByte (B s).data.toList 38 = a := by rw [B_data]; exact ha
        rw [e0] at hcnt
        obtain ⟨gx, cap, hL⟩ : ∃ gx cap, wr.cell? ⟨c, 38, none⟩ = some (.slice (some ⟨gx, 0, none⟩) 5 cap) := by
          rcases look HD.out 38 with ⟨h, _⟩ | ⟨_, gx, cap, h, _⟩
          · cases h
          · exact ⟨gx, cap, h⟩
        have hS : sumK s 4 = sumK s 3 + a * 4 := by rw [← ha]; first | rfl | exact (Nat.zero_add _).symm
        have hZ : cntK s 4 = cntK s 3 + a := by rw [← ha]; first | rfl | exact (Nat.zero_add _).symm
        have hSb := sumK_le s 3 (by decide)
        have HS := hid0 hS
        have HZ := hid0 hZ
        clear hS hZ ha e0
        generalize sumK s 3 = S0 at *
        generalize cntK s 3 = Z0 at *
        by_cases h0 : a = 0
        · have q : ((a : Int) != 0) = false := by rw [h0]; rfl
          go_wp2_with (go_at_call 153; refine (hcnt.out wr).mono ?_; rintro e w' ⟨rfl, rfl⟩)
          go_roundw
          case rel => exact ⟨4, by decide, rfl, by rw [HS.out, h0]; go_num, by rw [HZ.out, h0]; rfl, HD, HBl⟩
          case measure => decide
        · have q : ((a : Int) != 0) = true := bne_iff_ne.2 (by omega)
          have hw : wrap64 ((s.length : Int) + (S0 : Int) + (a : Int) * 4) = ((s.length + (S0 + a * 4) : Nat) : Int) := by rw [w64 (by omega) (by omega)]; omega
          go_wp2_with (go_at_call 153; refine (hcnt.out wr).mono ?_; rintro e w' ⟨rfl, rfl⟩)
          go_region
          go_wp2
          go_roundw
          case rel => exact ⟨4, by decide, rfl, congrArg (Value.int .i64) (by rw [HS.out]; omega), congrArg Value.bool (by rw [HZ.out]; exact (decide_eq_true (by omega)).symm), hid0 HD.out.drew, hid0 HBl.out.drew⟩
          case measure => decide
      · have e5 : s.length + sumK s 4 = (htm s).length := by rw [htm_count]; show _ + (s.count 34 * 5 + s.count 62 * 3 + s.count 60 * 3 + s.count 38 * 4) = _; omega
        have e6 : decide (0 < cntK s 4) = s.any isS := (any_count s).symm
        rw [e5, e6]
        clear e5 e6 hk
        obtain ⟨wo, hwo⟩ : ∃ wo, wo = wr := ⟨wr, rfl⟩
        subst hwo
        cases hA : s.any isS with
        | false =>
          have hfin := htm_no s hA
          clear hA
          go_wp2
          go_ret
          exact ⟨congrArg (fun z => Ending.returned (.string (B z))) hfin.symm, HBl.out⟩
        | true =>
          obtain ⟨N, hN⟩ : ∃ N, (htm s).length = N := ⟨_, rfl⟩
          have hNb := htm_len s
          rw [hN] at hNb ⊢
          have hm : (Instr.makeSlice 41 (.int .i64 (N : Int)) (.int .i64 (N : Int))).run Tryz.prog wo = .ok (.slice (some ⟨wo.heap.size, 0, none⟩) N N) (wo.alloc (.cells (madeCells #[.int .u8 0] N) 5)) := by
            obtain ⟨i0, hi, hz0, hz1, hz2⟩ := info_parts (show (Tryz.prog.info? 5).map (fun i => (i.zero, i.size, i.bytes)) = some (some (.int .u8 0), 1, 1) by kernel_rfl)
            have h := run_make (P := Tryz.prog) wo 41 5 i0 (.int .u8 0) Tryz.underlying41 hi hz0 .i64 .i64 (N : Int) (N : Int) (by omega) (Int.le_refl _) (by rw [hz2]; omega) (by omega)
            rw [hz1, Int.toNat_natCast, Nat.mul_one] at h
            exact h
          have hbuf0 : Buf wo.heap.size N (htm (s.take 0)) (wo.alloc (.cells (madeCells #[.int .u8 0] N) 5)) := ⟨_, heap_alloc_new _ _, size_madeCells _ _, fun j hj => by simp [htm] at hj⟩
          have HB0 := hid0 hbuf0
          have hwr := HBl.out.size
          clear hbuf0
          go_wp2
          go_loopw [13, 14] (fun v13 v14 wr => ∃ k : Nat, k ≤ s.length ∧ v14 = .int .i64 (k : Int) ∧ v13 = .int .i64 ((htm (s.take k)).length : Int) ∧ Hid (Buf wo.heap.size N (htm (s.take k)) wr) ∧ Hid (Below wo.heap.size wo wr)) (fun _ v14 _ => s.length - (intOf v14).toNat)
          case atStart => exact ⟨0, Nat.zero_le _, rfl, rfl, HB0, hid0 ((Below.refl _ wo).alloc (Nat.le_refl _) _)⟩
          case round =>
            obtain ⟨k, hk, rfl, rfl, HU, HW⟩ := hrel
            clear HB0 hm
            by_cases hkn : k < s.length
            · have hks : k < (B s).size := by omega
              have hi : (B s)[k]'hks = s[k] := List.getElem_toArray hkn
              have hlt := htm_take_lt s k
              rw [hN] at hlt
              obtain ⟨x, hx⟩ : ∃ x, s[k] = x := ⟨_, rfl⟩
              rw [hx] at hi
              have htk : htm (s.take (k + 1)) = htm (s.take k) ++ esc x := by rw [← hx]; exact htm_take s k hkn
              have hel := esc_len x
              obtain ⟨l, hl⟩ : ∃ l, htm (s.take k) = l := ⟨_, rfl⟩
              have hlt2 := htm_take_lt s (k + 1)
              rw [hN, htk, List.length_append] at hlt2
              rw [hl] at htk hlt hlt2 HU ⊢
              obtain ⟨cur, hu1, hu2, hu3⟩ := HU.out
              have hdc := HD.out.hc
              have hxl := x.toNat_lt
              have fG : ∀ j, wr.frozen? ⟨wo.heap.size, j, none⟩ = false := fun j => by simp [World.frozen?, hu1]
              have fGl := fG l.length
              rcases look HD.out x with ⟨hxn, hcell⟩ | ⟨hxs, gx, cap, hcell, hcap, hgx, hby⟩
              · have hc1 : wr.cell? ⟨c, x.toNat, none⟩ = some (.slice none 0 0) := by rw [HW.out.cell (by exact hdc)]; exact hcell
                have hq := neq_nil none 0 0
                have hG : ∃ v, wr.cell? ⟨wo.heap.size, l.length, none⟩ = some v := ⟨cur[l.length]'(by omega), by rw [cell_of_row wr _ _ cur _ _ hu1]; exact Array.getElem?_eq_getElem (by omega)⟩
                obtain ⟨v, hG⟩ := hG
                have hstep := hid0 (buf_one HU.out (show l.length < N by omega) x)
                rw [esc_no x hxn] at htk hel
                rw [← htk] at hstep
                have hlen : (htm (s.take (k + 1))).length = l.length + 1 := by rw [htk, List.length_append]; rfl
                have HLn := hid0 hlen
                have HBel := hid0 (HW.out.setCell (p := ⟨wo.heap.size, l.length, none⟩) (Nat.le_refl _) (.int .u8 (x.toNat : Int)))
                have hll : l.length < N := by omega
                clear hu1 hu3 htk hlen hcell hlt hlt2 hx hA
                go_wp2
                go_roundw
                case rel => exact ⟨k + 1, hkn, by go_num, by rw [HLn.out]; go_num, hstep, HBel⟩
                case measure => simp [intOf]; omega
              · have hc1 : wr.cell? ⟨c, x.toNat, none⟩ = some (.slice (some ⟨gx, 0, none⟩) (esc x).length cap) := by rw [HW.out.cell (by exact hdc)]; exact hcell
                have hq := neq_nil (some ⟨gx, 0, none⟩) (esc x).length cap
                have hll : l.length < N := by omega
                obtain ⟨i0, hi0, hz0, hz1, hz2⟩ := info_parts (show (Tryz.prog.info? 5).map (fun i => (i.zero, i.size, i.bytes)) = some (some (.int .u8 0), 1, 1) by kernel_rfl)
                have hcut := cut_from (P := Tryz.prog) 41 5 .i64 Tryz.underlying41 hi0 1 hz1 (some ⟨wo.heap.size, 0, none⟩) N N (l.length : Int) (by omega) (by omega)
                have hadd : ∀ g j : Nat, (⟨g, 0, none⟩ : Addr).add j = ⟨g, j, none⟩ := by
                  intro g j
                  unfold Addr.add
                  split
                  · rename_i e; subst e; rfl
                  · simp
                rw [Int.toNat_natCast, if_neg (by omega), Nat.mul_one, Option.map_some, hadd] at hcut
                have hml : ((esc x).map (fun y => Value.int .u8 (y.toNat : Int))).length = (esc x).length := List.length_map _
                have hcp := fun ty => run_copy_row (P := Tryz.prog) wr.drew 41 41 ty 5 wo.heap.size l.length (N - l.length) (N - l.length) ⟨gx, 0, none⟩ (esc x).length cap cur 5 ((esc x).map (fun y => Value.int .u8 (y.toNat : Int))) Tryz.underlying41 (by rw [hi0]; simp [hz1]) hu1 (by rw [hml]; exact (Nat.min_eq_left (by omega)).symm) (by
                  intro j v hj
                  have hj2 : j < (esc x).length := by
                    have := (List.getElem?_eq_some_iff.1 hj).1
                    rwa [hml] at this
                  rw [hadd, World.cell?_drew, HW.out.cell (by exact hgx), hby j hj2, ← hj, List.getElem?_map, List.getD_eq_getElem?_getD, List.getElem?_eq_getElem hj2]
                  rfl) (by rw [hml]; omega) (by
                  intro v hv
                  obtain ⟨y, _, rfl⟩ := List.mem_map.1 hv
                  rfl)
                rw [hml] at hcp
                have hstep := hid0 (buf_many (W := wr.drew) hu1 hu2 hu3 (show l.length + (esc x).length ≤ N by omega))
                rw [← htk] at hstep
                have HLn := hid0 (show (htm (s.take (k + 1))).length = l.length + (esc x).length by rw [htk, List.length_append])
                have HBel := hid0 (below_setRow (HW.out.drew) (Nat.le_refl _) (cur.toList.take l.length ++ (esc x).map (fun y => Value.int .u8 (y.toNat : Int)) ++ cur.toList.drop (l.length + (esc x).length)).toArray)
                clear hu1 hu3 htk hcell hlt hx hA hby hadd hi0 hz0 hz1 hz2 hml fG fGl
                generalize (cur.toList.take l.length ++ (esc x).map (fun y => Value.int .u8 (y.toNat : Int)) ++ cur.toList.drop (l.length + (esc x).length)).toArray = nc at hcp hstep HBel
                generalize (esc x).length = M at *
                go_wp2
                go_region
                go_wp2
                go_roundw
                case rel => exact ⟨k + 1, hkn, by go_num, by rw [HLn.out]; go_num, hstep, HBel⟩
                case measure => simp [intOf]; omega
            · obtain rfl : k = s.length := by omega
              obtain ⟨cur, hu1, hu2, hu3⟩ := HU.out
              rw [List.take_length] at hu3
              have kc : (convert 41 9 (.slice (some ⟨wo.heap.size, 0, none⟩) N N)).run Tryz.prog wr = .ok (.string ⟨(htm s).toArray⟩) wr := by
                rw [← hN]
                refine run_convert_bytes_back (P := Tryz.prog) wr 41 9 5 ⟨wo.heap.size, 0, none⟩ _ (htm s) Tryz.underlying41 Tryz.underlying5 Tryz.underlying9 (fun j hj => ?_)
                have hadd : (⟨wo.heap.size, 0, none⟩ : Addr).add j = ⟨wo.heap.size, j, none⟩ := by
                  unfold Addr.add
                  split
                  · rename_i e; subst e; rfl
                  · simp
                rw [hadd, cell_of_row wr _ _ cur _ _ hu1, hu3 j hj, List.getD_eq_getElem?_getD, List.getElem?_eq_getElem hj]
                rfl
              clear hu1 hu3 hA
              go_wp2
              go_ret
              exact ⟨rfl, HBl.out.trans (HW.out.mono hwr)⟩
  · have q32 : decide ((32 : Int) ≤ (s.length : Int)) = false := decide_eq_false (by omega)
    go_enter Tryz.func151, Tryz.ntmps151
    go_wp2
    go_loopw [5, 6, 10] (fun v5 v6 v10 wr => ∃ k : Nat, k ≤ s.length ∧ v10 = .int .i64 (k : Int) ∧ v5 = .int .i64 (((htm (s.take k)).length + (s.length - k) : Nat) : Int) ∧ v6 = .bool ((s.take k).any isS) ∧ Hid (Bld b0 c t 4 wr) ∧ Hid (Below w.heap.size w wr)) (fun _ _ v10 _ => s.length - (intOf v10).toNat)
    case atStart => exact ⟨0, Nat.zero_le _, rfl, congrArg (Value.int .i64) (by simp [htm]), rfl, HB, hid0 (Below.refl _ _)⟩
    case round =>
      obtain ⟨k, hk, rfl, rfl, rfl, HD, HBl⟩ := hrel
      by_cases hkn : k < s.length
      · have hks : k < (B s).size := by omega
        have hi : (B s)[k]'hks = s[k] := List.getElem_toArray hkn
        obtain ⟨x, hx⟩ : ∃ x, s[k] = x := ⟨_, rfl⟩
        have htk : htm (s.take (k + 1)) = htm (s.take k) ++ esc x := by rw [← hx]; exact htm_take s k hkn
        have hany : (s.take (k + 1)).any isS = ((s.take k).any isS || isS x) := by rw [List.take_succ_eq_append_getElem hkn, List.any_append, ← hx]; simp; rfl
        rw [hx] at hi
        have hlen : (htm (s.take (k + 1))).length + (s.length - (k + 1)) = (htm (s.take k)).length + (s.length - k) + ((esc x).length - 1) := by
          have := esc_len x
          rw [htk, List.length_append]
          omega
        have hbd := (htm_len (s.take k)).2
        rw [List.length_take] at hbd
        have hxl := x.toNat_lt
        have HLn := hid0 hlen
        have HAn := hid0 hany
        have hel := esc_len x
        obtain ⟨N1, hN1⟩ : ∃ N1, (htm (s.take k)).length + (s.length - k) = N1 := ⟨_, rfl⟩
        have hNb : N1 ≤ 7 * s.length := by omega
        rw [hN1] at HLn ⊢
        clear htk hany hlen hx hN1
        rcases look HD.out x with ⟨hxn, hcell⟩ | ⟨hxs, gx, cap, hcell, hcap, hgx, hby⟩
        · have hq := neq_nil none 0 0
          have e1 : (esc x).length = 1 := by rw [esc_no x hxn]; rfl
          go_wp2
          go_roundw
          case rel => exact ⟨k + 1, hkn, by go_num, by rw [HLn.out, e1]; rfl, by rw [HAn.out, hxn, Bool.or_false], HD, HBl⟩
          case measure => simp [intOf]; omega
        · have hq := neq_nil (some ⟨gx, 0, none⟩) (esc x).length cap
          obtain ⟨M, hM⟩ : ∃ M, (esc x).length = M := ⟨_, rfl⟩
          rw [hM] at hq hcell hel HLn
          clear hM hby hcap
          go_wp2
          go_roundw
          case rel => exact ⟨k + 1, hkn, by go_num, by rw [HLn.out]; first | go_num | exact congrArg (Value.int .i64) (by omega), by rw [HAn.out, hxs, Bool.or_true], HD, HBl⟩
          case measure => simp [intOf]; omega
      · obtain rfl : k = s.length := by omega
        have e5 : (htm (s.take s.length)).length + (s.length - s.length) = (htm s).length := by rw [List.take_length]; omega
        rw [e5, List.take_length]
        clear e5 hk hkn
        obtain ⟨wo, hwo⟩ : ∃ wo, wo = wr := ⟨wr, rfl⟩
        subst hwo
        cases hA : s.any isS with
        | false =>
          have hfin := htm_no s hA
          clear hA
          go_wp2
          go_ret
          exact ⟨congrArg (fun z => Ending.returned (.string (B z))) hfin.symm, HBl.out⟩
        | true =>
          obtain ⟨N, hN⟩ : ∃ N, (htm s).length = N := ⟨_, rfl⟩
          have hNb := htm_len s
          rw [hN] at hNb ⊢
          have hm : (Instr.makeSlice 41 (.int .i64 (N : Int)) (.int .i64 (N : Int))).run Tryz.prog wo = .ok (.slice (some ⟨wo.heap.size, 0, none⟩) N N) (wo.alloc (.cells (madeCells #[.int .u8 0] N) 5)) := by
            obtain ⟨i0, hi, hz0, hz1, hz2⟩ := info_parts (show (Tryz.prog.info? 5).map (fun i => (i.zero, i.size, i.bytes)) = some (some (.int .u8 0), 1, 1) by kernel_rfl)
            have h := run_make (P := Tryz.prog) wo 41 5 i0 (.int .u8 0) Tryz.underlying41 hi hz0 .i64 .i64 (N : Int) (N : Int) (by omega) (Int.le_refl _) (by rw [hz2]; omega) (by omega)
            rw [hz1, Int.toNat_natCast, Nat.mul_one] at h
            exact h
          have hbuf0 : Buf wo.heap.size N (htm (s.take 0)) (wo.alloc (.cells (madeCells #[.int .u8 0] N) 5)) := ⟨_, heap_alloc_new _ _, size_madeCells _ _, fun j hj => by simp [htm] at hj⟩
          have HB0 := hid0 hbuf0
          have hwr := HBl.out.size
          clear hbuf0
          go_wp2
          go_loopw [13, 14] (fun v13 v14 wr => ∃ k : Nat, k ≤ s.length ∧ v14 = .int .i64 (k : Int) ∧ v13 = .int .i64 ((htm (s.take k)).length : Int) ∧ Hid (Buf wo.heap.size N (htm (s.take k)) wr) ∧ Hid (Below wo.heap.size wo wr)) (fun _ v14 _ => s.length - (intOf v14).toNat)
          case atStart => exact ⟨0, Nat.zero_le _, rfl, rfl, HB0, hid0 ((Below.refl _ wo).alloc (Nat.le_refl _) _)⟩
          case round =>
            obtain ⟨k, hk, rfl, rfl, HU, HW⟩ := hrel
            clear HB0 hm
            by_cases hkn : k < s.length
            · have hks : k < (B s).size := by omega
              have hi : (B s)[k]'hks = s[k] := List.getElem_toArray hkn
              have hlt := htm_take_lt s k
              rw [hN] at hlt
              obtain ⟨x, hx⟩ : ∃ x, s[k] = x := ⟨_, rfl⟩
              rw [hx] at hi
              have htk : htm (s.take (k + 1)) = htm (s.take k) ++ esc x := by rw [← hx]; exact htm_take s k hkn
              have hel := esc_len x
              obtain ⟨l, hl⟩ : ∃ l, htm (s.take k) = l := ⟨_, rfl⟩
              have hlt2 := htm_take_lt s (k + 1)
              rw [hN, htk, List.length_append] at hlt2
              rw [hl] at htk hlt hlt2 HU ⊢
              obtain ⟨cur, hu1, hu2, hu3⟩ := HU.out
              have hdc := HD.out.hc
              have hxl := x.toNat_lt
              have fG : ∀ j, wr.frozen? ⟨wo.heap.size, j, none⟩ = false := fun j => by simp [World.frozen?, hu1]
              have fGl := fG l.length
              rcases look HD.out x with ⟨hxn, hcell⟩ | ⟨hxs, gx, cap, hcell, hcap, hgx, hby⟩
              · have hc1 : wr.cell? ⟨c, x.toNat, none⟩ = some (.slice none 0 0) := by rw [HW.out.cell (by exact hdc)]; exact hcell
                have hq := neq_nil none 0 0
                have hG : ∃ v, wr.cell? ⟨wo.heap.size, l.length, none⟩ = some v := ⟨cur[l.length]'(by omega), by rw [cell_of_row wr _ _ cur _ _ hu1]; exact Array.getElem?_eq_getElem (by omega)⟩
                obtain ⟨v, hG⟩ := hG
                have hstep := hid0 (buf_one HU.out (show l.length < N by omega) x)
                rw [esc_no x hxn] at htk hel
                rw [← htk] at hstep
                have hlen : (htm (s.take (k + 1))).length = l.length + 1 := by rw [htk, List.length_append]; rfl
                have HLn := hid0 hlen
                have HBel := hid0 (HW.out.setCell (p := ⟨wo.heap.size, l.length, none⟩) (Nat.le_refl _) (.int .u8 (x.toNat : Int)))
                have hll : l.length < N := by omega
                clear hu1 hu3 htk hlen hcell hlt hlt2 hx hA
                go_wp2
                go_roundw
                case rel => exact ⟨k + 1, hkn, by go_num, by rw [HLn.out]; go_num, hstep, HBel⟩
                case measure => simp [intOf]; omega
              · have hc1 : wr.cell? ⟨c, x.toNat, none⟩ = some (.slice (some ⟨gx, 0, none⟩) (esc x).length cap) := by rw [HW.out.cell (by exact hdc)]; exact hcell
                have hq := neq_nil (some ⟨gx, 0, none⟩) (esc x).length cap
                have hll : l.length < N := by omega
                obtain ⟨i0, hi0, hz0, hz1, hz2⟩ := info_parts (show (Tryz.prog.info? 5).map (fun i => (i.zero, i.size, i.bytes)) = some (some (.int .u8 0), 1, 1) by kernel_rfl)
                have hcut := cut_from (P := Tryz.prog) 41 5 .i64 Tryz.underlying41 hi0 1 hz1 (some ⟨wo.heap.size, 0, none⟩) N N (l.length : Int) (by omega) (by omega)
                have hadd : ∀ g j : Nat, (⟨g, 0, none⟩ : Addr).add j = ⟨g, j, none⟩ := by
                  intro g j
                  unfold Addr.add
                  split
                  · rename_i e; subst e; rfl
                  · simp
                rw [Int.toNat_natCast, if_neg (by omega), Nat.mul_one, Option.map_some, hadd] at hcut
                have hml : ((esc x).map (fun y => Value.int .u8 (y.toNat : Int))).length = (esc x).length := List.length_map _
                have hcp := fun ty => run_copy_row (P := Tryz.prog) wr.drew 41 41 ty 5 wo.heap.size l.length (N - l.length) (N - l.length) ⟨gx, 0, none⟩ (esc x).length cap cur 5 ((esc x).map (fun y => Value.int .u8 (y.toNat : Int))) Tryz.underlying41 (by rw [hi0]; simp [hz1]) hu1 (by rw [hml]; exact (Nat.min_eq_left (by omega)).symm) (by
                  intro j v hj
                  have hj2 : j < (esc x).length := by
                    have := (List.getElem?_eq_some_iff.1 hj).1
                    rwa [hml] at this
                  rw [hadd, World.cell?_drew, HW.out.cell (by exact hgx), hby j hj2, ← hj, List.getElem?_map, List.getD_eq_getElem?_getD, List.getElem?_eq_getElem hj2]
                  rfl) (by rw [hml]; omega) (by
                  intro v hv
                  obtain ⟨y, _, rfl⟩ := List.mem_map.1 hv
                  rfl)
                rw [hml] at hcp
                have hstep := hid0 (buf_many (W := wr.drew) hu1 hu2 hu3 (show l.length + (esc x).length ≤ N by omega))
                rw [← htk] at hstep
                have HLn := hid0 (show (htm (s.take (k + 1))).length = l.length + (esc x).length by rw [htk, List.length_append])
                have HBel := hid0 (below_setRow (HW.out.drew) (Nat.le_refl _) (cur.toList.take l.length ++ (esc x).map (fun y => Value.int .u8 (y.toNat : Int)) ++ cur.toList.drop (l.length + (esc x).length)).toArray)
                clear hu1 hu3 htk hcell hlt hx hA hby hadd hi0 hz0 hz1 hz2 hml fG fGl
                generalize (cur.toList.take l.length ++ (esc x).map (fun y => Value.int .u8 (y.toNat : Int)) ++ cur.toList.drop (l.length + (esc x).length)).toArray = nc at hcp hstep HBel
                generalize (esc x).length = M at *
                go_wp2
                go_region
                go_wp2
                go_roundw
                case rel => exact ⟨k + 1, hkn, by go_num, by rw [HLn.out]; go_num, hstep, HBel⟩
                case measure => simp [intOf]; omega
            · obtain rfl : k = s.length := by omega
              obtain ⟨cur, hu1, hu2, hu3⟩ := HU.out
              rw [List.take_length] at hu3
              have kc : (convert 41 9 (.slice (some ⟨wo.heap.size, 0, none⟩) N N)).run Tryz.prog wr = .ok (.string ⟨(htm s).toArray⟩) wr := by
                rw [← hN]
                refine run_convert_bytes_back (P := Tryz.prog) wr 41 9 5 ⟨wo.heap.size, 0, none⟩ _ (htm s) Tryz.underlying41 Tryz.underlying5 Tryz.underlying9 (fun j hj => ?_)
                have hadd : (⟨wo.heap.size, 0, none⟩ : Addr).add j = ⟨wo.heap.size, j, none⟩ := by
                  unfold Addr.add
                  split
                  · rename_i e; subst e; rfl
                  · simp
                rw [hadd, cell_of_row wr _ _ cur _ _ hu1, hu3 j hj, List.getD_eq_getElem?_getD, List.getElem?_eq_getElem hj]
                rfl
              clear hu1 hu3 hA
              go_wp2
              go_ret
              exact ⟨rfl, HBl.out.trans (HW.out.mono hwr)⟩
end Go.Proofs.YtjcfjgcnkbbgmaaGreatDoor.PA

namespace Go.Proofs.YtjcfjgcnkbbgmaaGreatDoor.PA
open Go.RowKit Go.Proofs.YtjcfjgcnkbbgmaaGreatDoor.Pl Go.Proofs.YtjcfjgcnkbbgmaaGreatDoorW.PrintWords
set_option linter.unusedVariables false

set_option maxHeartbeats 2000000 in
set_option maxRecDepth 100000 in
theorem replace_walk (b0 b : Nat) (s : List UInt8) (hs : s.length ≤ 268435456) (w : World) (hr : RepNew b0 b w) (hb0 : b0 ≤ w.heap.size) :
    Calls Tryz.prog 46 #[.pointer (some ⟨b, 0, none⟩), .string (B s)] w fun e w' => e = .returned (.string (B (htm s))) ∧ Below b0 w w' := by
  have hmf : ∀ (fn : Fn) (first cap : Array Value) (w : World), (Instr.makeFunc fn first cap).run Tryz.prog w = .ok (.func fn first cap) w := fun _ _ _ _ => rfl
  have hmeth : ∀ (v : Value) (W : World), (method 303 127 v "Replace").run Tryz.prog W = .ok (151, v) W := fun _ _ => by kernel_rfl
  have HO := hid0 (do_once b0 b w hr)
  clear hr
  go_enter Tryz.func46, Tryz.ntmps46
  go_wp2_with (first | (go_at_call 55; refine HO.out.mono ?_; rintro e w1 ⟨rfl, c, t, hb, h3, hbel⟩; have HB := hid0 (bsr_walk w.heap.size c t s hs w1 hb); have HL := hid0 hbel; clear hb hbel) | (go_at_call 151; refine HB.out.mono ?_; rintro e w2 ⟨rfl, hb2⟩; have HM := hid0 (HL.out.trans (hb2.mono (by have := HL.out.size; omega))); clear hb2))
  go_ret
  exact ⟨rfl, HM.out⟩
set_option maxHeartbeats 2000000 in
set_option maxRecDepth 100000 in
theorem html_walk (s : List UInt8) (hs : s.length ≤ 268435456) (w : World) :
    Calls Tryz.prog 33 #[.string (B s)] w fun e w' => e = .returned (.string (B (htm s))) ∧ Below w.heap.size w w' := by
  have hpat : PatsAt w.heap.size (w.alloc (.cells (pats.map Value.string).toArray 9)) := by
    refine ⟨by simp, fun j hj => ?_⟩
    have h1 : (w.alloc (.cells (pats.map Value.string).toArray 9)).cell? ⟨w.heap.size, j, none⟩ = (pats.map Value.string).toArray[j]? := by simp
    rw [h1, List.getElem?_toArray, List.getElem?_map, List.getD_eq_getElem?_getD, List.getElem?_eq_getElem (show j < pats.length from hj)]
    rfl
  have HN := hid0 (newRep w.heap.size _ hpat)
  clear hpat
  go_enter Tryz.func33, Tryz.ntmps33
  go_wp2_with fail
  refine HN.out.mono ?_
  rintro e w1 ⟨b, rfl, hr, hb⟩
  rw [World.size_alloc] at hr hb
  have hb1 : Below w.heap.size w w1 := ((Below.refl _ w).alloc (Nat.le_refl _) _).trans (hb.mono (Nat.le_succ _))
  have hbs := hb.size
  rw [World.size_alloc] at hbs
  have HR := hid0 (replace_walk (w.heap.size + 1) b s hs w1 hr hbs)
  have HB := hid0 hb1
  clear hb hr HN hb1
  go_wp2_with (go_at_call 46; refine HR.out.mono ?_; rintro e w2 ⟨rfl, hb2⟩; have HM := hid0 (HB.out.trans (hb2.mono (Nat.le_succ _))); clear hb2)
  go_ret
  exact ⟨rfl, HM.out⟩
end Go.Proofs.YtjcfjgcnkbbgmaaGreatDoor.PA

namespace Go.Proofs.YtjcfjgcnkbbgmaaGreatDoor.PA
open Go.RowKit Go.Proofs.YtjcfjgcnkbbgmaaGreatDoor.Pl Go.Proofs.YtjcfjgcnkbbgmaaGreatDoorW.PrintWords
set_option linter.unusedVariables false
theorem or32 (x : UInt8) : bits .or .u8 (x.toNat : Int) 32 = ((x.toNat ||| 32 : Nat) : Int) := by
  have h : ∀ y : Fin 256, bits .or .u8 (y.val : Int) 32 = ((y.val ||| 32 : Nat) : Int) := by decide +kernel
  exact h ⟨x.toNat, x.toNat_lt⟩

def ltr (x : UInt8) : Bool := decide (97 ≤ (x.toNat ||| 32)) && decide ((x.toNat ||| 32) ≤ 122)
def dgt (x : UInt8) : Bool := decide (48 ≤ x.toNat) && decide (x.toNat ≤ 57)
def plL : List UInt8 := [33, 35, 36, 37, 40, 41, 42, 43, 44, 45, 46, 47, 58, 59, 61, 63, 64, 95, 126]
theorem pln_eq (x : UInt8) : pln x = (ltr x || dgt x || decide (0 ≤ Lib.indexByte plL x)) := by
  have h : ∀ y : Fin 256, pln (UInt8.ofNat y.val) = (ltr (UInt8.ofNat y.val) || dgt (UInt8.ofNat y.val) || decide (0 ≤ Lib.indexByte plL (UInt8.ofNat y.val))) := by decide +kernel
  have := h ⟨x.toNat, x.toNat_lt⟩
  simpa using this
theorem ltr_any (x : UInt8) (w : World) : Calls Tryz.prog 42 #[.int .u8 (x.toNat : Int)] w fun e w' => e = .returned (.bool (ltr x)) ∧ w' = w := by
  have h32 := or32 x
  by_cases h1 : 97 ≤ (x.toNat ||| 32)
  · have hl : ltr x = decide ((x.toNat ||| 32) ≤ 122) := by unfold ltr; rw [decide_eq_true h1, Bool.true_and]
    have q : decide ((97 : Int) ≤ ((x.toNat ||| 32 : Nat) : Int)) = true := decide_eq_true (by omega)
    have q2 : decide (((x.toNat ||| 32 : Nat) : Int) ≤ 122) = ltr x := by rw [hl]; exact decide_eq_decide.2 (by omega)
    have Q := Lib.hid q2
    clear hl q2
    go_enter Tryz.func42, Tryz.ntmps42
    go_wp2
    go_ret
    exact ⟨congrArg (fun z => Ending.returned (.bool z)) Q.out, rfl⟩
  · have hl : ltr x = false := by unfold ltr; rw [decide_eq_false h1, Bool.false_and]
    have q : decide ((97 : Int) ≤ ((x.toNat ||| 32 : Nat) : Int)) = false := decide_eq_false (by omega)
    rw [hl]
    clear hl h1
    go_enter Tryz.func42, Tryz.ntmps42
    go_wp2
    go_ret
    exact ⟨rfl, rfl⟩
theorem dgt_any (x : UInt8) (w : World) : Calls Tryz.prog 43 #[.int .u8 (x.toNat : Int)] w fun e w' => e = .returned (.bool (dgt x)) ∧ w' = w := by
  by_cases h1 : 48 ≤ x.toNat
  · have hl : dgt x = decide (x.toNat ≤ 57) := by unfold dgt; rw [decide_eq_true h1, Bool.true_and]
    have q : decide ((48 : Int) ≤ (x.toNat : Int)) = true := decide_eq_true (by omega)
    have q2 : decide ((x.toNat : Int) ≤ 57) = dgt x := by rw [hl]; exact decide_eq_decide.2 (by omega)
    have Q := Lib.hid q2
    clear hl q2
    go_enter Tryz.func43, Tryz.ntmps43
    go_wp2
    go_ret
    exact ⟨congrArg (fun z => Ending.returned (.bool z)) Q.out, rfl⟩
  · have hl : dgt x = false := by unfold dgt; rw [decide_eq_false h1, Bool.false_and]
    have q : decide ((48 : Int) ≤ (x.toNat : Int)) = false := decide_eq_false (by omega)
    rw [hl]
    clear hl h1
    go_enter Tryz.func43, Tryz.ntmps43
    go_wp2
    go_ret
    exact ⟨rfl, rfl⟩
def hexT : ByteArray := ⟨#[48, 49, 50, 51, 52, 53, 54, 55, 56, 57, 65, 66, 67, 68, 69, 70]⟩
theorem hexT_at : ∀ j : Fin 16, (hexT[j.val]'(by have := j.isLt; exact this)) = hxd16 j.val := by decide
theorem and15 (x : UInt8) : bits .and .u8 (x.toNat : Int) 15 = ((x.toNat % 16 : Nat) : Int) := by
  have h : ∀ y : Fin 256, bits .and .u8 (y.val : Int) 15 = ((y.val % 16 : Nat) : Int) := by decide +kernel
  exact h ⟨x.toNat, x.toNat_lt⟩
set_option maxHeartbeats 4000000 in
set_option maxRecDepth 100000 in
theorem href_walk (s : List UInt8) (hs : s.length ≤ 1048576) (w : World) :
    Calls Tryz.prog 31 #[.string (B s)] w fun e w' => e = .returned (.string (B (hrf s))) ∧ Below w.heap.size w w' := by
  have hsz : (B s).size = s.length := B_size s
  go_enter Tryz.func31, Tryz.ntmps31
  go_wp2
  go_loopw [8] (fun v8 wr => ∃ k : Nat, k ≤ s.length ∧ v8 = .int .i64 (k : Int) ∧ Hid (Lib.IsBuilder 43 5 w.heap.size w.heap.size (Lib.byteCells (hrf (s.take k))) wr) ∧ Hid (Below w.heap.size w wr)) (fun v8 _ => s.length - (intOf v8).toNat)
  case atStart => exact ⟨0, Nat.zero_le _, rfl, Lib.hid (Lib.fresh_isBuilder _ _ w), Lib.hid ((Below.refl _ w).alloc (Nat.le_refl _) _)⟩
  case round =>
    obtain ⟨k, hk, rfl, HI, HB⟩ := hrel
    by_cases hkn : k < s.length
    · have hks : k < (B s).size := by omega
      have hi : (B s)[k]'hks = s[k] := List.getElem_toArray hkn
      obtain ⟨x, hx⟩ : ∃ x, s[k] = x := ⟨_, rfl⟩
      have htk : hrf (s.take (k + 1)) = hrf (s.take k) ++ adr x := by
        rw [List.take_succ_eq_append_getElem hkn, hrf_append, ← hx]
        simp [hrf]
        try rfl
      rw [hx] at hi
      have hbd := (hrf_len (s.take k)).2
      rw [List.length_take] at hbd
      have HX := Lib.hid (show (hrf (s.take k)).length ≤ 6291456 by omega)
      have HT := Lib.hid htk
      have hbs := HB.out.size
      have hxl := x.toNat_lt
      clear htk hbd hx
      generalize hrf (s.take k) = acc at *
      have e38 := u8_eq x 38 (by decide)
      have e39 := u8_eq x 39 (by decide)
      by_cases h38 : x = 38
      · have q : ((x.toNat : Int) == 38) = true := beq_iff_eq.2 (e38.2 h38)
        have HA := Lib.hid (show adr x = [38, 97, 109, 112, 59] by unfold adr; rw [if_pos h38])
        clear e38 e39 h38
        go_wp2_with (go_at_call 41; refine (Tryz.Builder_WriteString w.heap.size w.heap.size _ ⟨#[38, 97, 109, 112, 59]⟩ _ HI.out (by have := HX.out; rw [Lib.byteCells_length]; show _ + 5 ≤ _; omega) hbs).mono ?_; rintro e w1 ⟨rfl, h1, b1⟩)
        have HI1 := Lib.hid h1
        have HB1 := Lib.hid (HB.out.trans b1)
        clear h1 b1
        go_wp2
        go_roundw
        case rel =>
          refine ⟨k + 1, hkn, by go_num, ?_, HB1⟩
          rw [HT.out, HA.out, Lib.byteCells_append]
          exact Lib.hid (.inr HI1.out)
        case measure => simp [intOf]; omega
      · have q : ((x.toNat : Int) == 38) = false := beq_eq_false_iff_ne.2 (fun e => h38 (e38.1 e))
        by_cases h39 : x = 39
        · have q2 : ((x.toNat : Int) == 39) = true := beq_iff_eq.2 (e39.2 h39)
          have HA := Lib.hid (show adr x = [38, 35, 51, 57, 59] by unfold adr; rw [if_neg h38, if_pos h39])
          clear e38 e39 h38 h39
          go_wp2_with (go_at_call 41; refine (Tryz.Builder_WriteString w.heap.size w.heap.size _ ⟨#[38, 35, 51, 57, 59]⟩ _ HI.out (by have := HX.out; rw [Lib.byteCells_length]; show _ + 5 ≤ _; omega) hbs).mono ?_; rintro e w1 ⟨rfl, h1, b1⟩)
          have HI1 := Lib.hid h1
          have HB1 := Lib.hid (HB.out.trans b1)
          clear h1 b1
          go_wp2
          go_roundw
          case rel =>
            refine ⟨k + 1, hkn, by go_num, ?_, HB1⟩
            rw [HT.out, HA.out, Lib.byteCells_append]
            exact Lib.hid (.inr HI1.out)
          case measure => simp [intOf]; omega
        · have q2 : ((x.toNat : Int) == 39) = false := beq_eq_false_iff_ne.2 (fun e => h39 (e39.1 e))
          have hadr : adr x = if pln x = true then [x] else [37, hxd16 (x.toNat / 16), hxd16 (x.toNat % 16)] := by unfold adr; rw [if_neg h38, if_neg h39]
          have hpl := pln_eq x
          have HL := Lib.hid (ltr_any x)
          have HDg := Lib.hid (dgt_any x)
          have HIx := Lib.hid (Tryz.strings_IndexByte ⟨#[33, 35, 36, 37, 40, 41, 42, 43, 44, 45, 46, 47, 58, 59, 61, 63, 64, 95, 126]⟩ (x.toNat : Int))
          have ex : (x.toNat : Int).toNat.toUInt8 = x := by rw [Int.toNat_natCast]; simp [Nat.toUInt8]
          rw [ex] at HIx
          obtain ⟨R, hR⟩ : ∃ R, Lib.indexByte plL x = R := ⟨_, rfl⟩
          rw [hR] at hpl
          change Hid (∀ W, Calls _ _ _ W fun e w' => e = .returned (.int .i64 (Lib.indexByte plL x)) ∧ w' = W) at HIx
          rw [hR] at HIx
          clear e38 e39 h38 h39 ex hR
          cases hL : ltr x with
          | true =>
            rw [hL] at hpl HL
            have HA := Lib.hid (show adr x = [x] by rw [hadr, hpl]; rfl)
            clear hL hpl hadr
            go_wp2_with (first | (go_at_call 42; refine (HL.out _).mono ?_; rintro e w1 ⟨rfl, rfl⟩) | (go_at_call 17; refine (Tryz.Builder_WriteByte w.heap.size w.heap.size _ (x.toNat : Int) _ HI.out (by have := HX.out; simp only [List.length_append, Lib.byteCells_length, List.length_cons, List.length_nil]; omega) hbs).mono ?_; rintro e w1 ⟨rfl, h1, b1⟩))
            have HI1 := Lib.hid h1
            have HB1 := Lib.hid (HB.out.trans b1)
            clear h1 b1
            go_wp2
            go_roundw
            case rel =>
              refine ⟨k + 1, hkn, by go_num, ?_, HB1⟩
              rw [HT.out, HA.out, Lib.byteCells_append]
              exact Lib.hid (.inr HI1.out)
            case measure => simp [intOf]; omega
          | false =>
            rw [hL] at hpl HL
            cases hD : dgt x with
            | true =>
              rw [hD] at hpl HDg
              have HA := Lib.hid (show adr x = [x] by rw [hadr, hpl]; rfl)
              clear hL hD hpl hadr
              go_wp2_with (first | (go_at_call 42; refine (HL.out _).mono ?_; rintro e w1 ⟨rfl, rfl⟩) | (go_at_call 43; refine (HDg.out _).mono ?_; rintro e w1 ⟨rfl, rfl⟩) | (go_at_call 17; refine (Tryz.Builder_WriteByte w.heap.size w.heap.size _ (x.toNat : Int) _ HI.out (by have := HX.out; simp only [List.length_append, Lib.byteCells_length, List.length_cons, List.length_nil]; omega) hbs).mono ?_; rintro e w1 ⟨rfl, h1, b1⟩))
              have HI1 := Lib.hid h1
              have HB1 := Lib.hid (HB.out.trans b1)
              clear h1 b1
              go_wp2
              go_roundw
              case rel =>
                refine ⟨k + 1, hkn, by go_num, ?_, HB1⟩
                rw [HT.out, HA.out, Lib.byteCells_append]
                exact Lib.hid (.inr HI1.out)
              case measure => simp [intOf]; omega
            | false =>
              rw [hD] at hpl HDg
              by_cases h0 : 0 ≤ R
              · have HA := Lib.hid (show adr x = [x] by rw [hadr, hpl, decide_eq_true h0]; rfl)
                have q3 : decide (0 ≤ R) = true := decide_eq_true h0
                clear hL hD hpl hadr h0
                go_wp2_with (first | (go_at_call 42; refine (HL.out _).mono ?_; rintro e w1 ⟨rfl, rfl⟩) | (go_at_call 43; refine (HDg.out _).mono ?_; rintro e w1 ⟨rfl, rfl⟩) | (go_at_call 44; refine (HIx.out _).mono ?_; rintro e w1 ⟨rfl, rfl⟩) | (go_at_call 17; refine (Tryz.Builder_WriteByte w.heap.size w.heap.size _ (x.toNat : Int) _ HI.out (by have := HX.out; simp only [List.length_append, Lib.byteCells_length, List.length_cons, List.length_nil]; omega) hbs).mono ?_; rintro e w1 ⟨rfl, h1, b1⟩))
                have HI1 := Lib.hid h1
                have HB1 := Lib.hid (HB.out.trans b1)
                clear h1 b1
                go_wp2
                go_roundw
                case rel =>
                  refine ⟨k + 1, hkn, by go_num, ?_, HB1⟩
                  rw [HT.out, HA.out, Lib.byteCells_append]
                  exact Lib.hid (.inr HI1.out)
                case measure => simp [intOf]; omega
              · have HA := Lib.hid (show adr x = [37, hxd16 (x.toNat / 16), hxd16 (x.toNat % 16)] by rw [hadr, hpl, decide_eq_false h0]; rfl)
                have q3 : decide (0 ≤ R) = false := decide_eq_false h0
                obtain ⟨y1, hy1⟩ : ∃ y, hxd16 (x.toNat / 16) = y := ⟨_, rfl⟩
                obtain ⟨y2, hy2⟩ : ∃ y, hxd16 (x.toNat % 16) = y := ⟨_, rfl⟩
                rw [hy1, hy2] at HA
                have hx1 : ((⟨#[48, 49, 50, 51, 52, 53, 54, 55, 56, 57, 65, 66, 67, 68, 69, 70]⟩ : ByteArray)[x.toNat / 16]'(by show _ < 16; omega)) = y1 := by rw [← hy1]; exact hexT_at ⟨x.toNat / 16, by omega⟩
                have hx2 : ((⟨#[48, 49, 50, 51, 52, 53, 54, 55, 56, 57, 65, 66, 67, 68, 69, 70]⟩ : ByteArray)[x.toNat % 16]'(by show _ < 16; omega)) = y2 := by rw [← hy2]; exact hexT_at ⟨x.toNat % 16, by omega⟩
                have hand : bits .and .u8 (x.toNat : Int) 15 = ((x.toNat % 16 : Nat) : Int) := and15 x
                clear hL hD hpl hadr h0 hy1 hy2
                go_wp2_with fail
                refine (HL.out _).mono ?_
                rintro e w1 ⟨rfl, rfl⟩
                go_wp2_with fail
                refine (HDg.out _).mono ?_
                rintro e w1 ⟨rfl, rfl⟩
                go_wp2_with fail
                refine (HIx.out _).mono ?_
                rintro e w1 ⟨rfl, rfl⟩
                go_wp2_with fail
                refine (Tryz.Builder_WriteByte w.heap.size w.heap.size _ 37 _ HI.out (by have := HX.out; rw [Lib.byteCells_length]; omega) hbs).mono ?_
                rintro e w1 ⟨rfl, h1, b1⟩
                have HI1 : Hid (Lib.IsBuilder 43 5 w.heap.size w.heap.size (Lib.byteCells acc ++ [.int .u8 37]) w1) := Lib.hid (.inr h1)
                have HB1 := Lib.hid (HB.out.trans b1)
                have hbs1 := HB1.out.size
                clear h1 b1
                go_wp2_with fail
                refine (Tryz.Builder_WriteByte w.heap.size w.heap.size _ (y1.toNat : Int) _ HI1.out (by have := HX.out; rw [List.length_append, Lib.byteCells_length]; show _ + 1 + 1 ≤ _; omega) hbs1).mono ?_
                rintro e w2 ⟨rfl, h2, b2⟩
                have HI2 : Hid (Lib.IsBuilder 43 5 w.heap.size w.heap.size (Lib.byteCells acc ++ [.int .u8 37] ++ [.int .u8 (y1.toNat : Int)]) w2) := Lib.hid (.inr h2)
                have HB2 := Lib.hid (HB1.out.trans b2)
                have hbs2 := HB2.out.size
                clear h2 b2
                go_wp2_with fail
                refine (Tryz.Builder_WriteByte w.heap.size w.heap.size _ (y2.toNat : Int) _ HI2.out (by have := HX.out; rw [List.length_append, List.length_append, Lib.byteCells_length]; show _ + 1 + 1 + 1 ≤ _; omega) hbs2).mono ?_
                rintro e w3 ⟨rfl, h3, b3⟩
                have HI3 := Lib.hid h3
                have HB3 := Lib.hid (HB2.out.trans b3)
                clear h3 b3
                go_wp2
                go_roundw
                case rel =>
                  refine ⟨k + 1, hkn, by go_num, ?_, HB3⟩
                  rw [HT.out, HA.out, Lib.byteCells_append]
                  have h4 := HI3.out
                  rw [List.append_assoc, List.append_assoc] at h4
                  exact Lib.hid (.inr h4)
                case measure => simp [intOf]; omega
    · obtain rfl : k = s.length := by omega
      rw [List.take_length] at HI
      have hbs := HB.out.size
      go_wp2_with (go_at_call 18; refine (Tryz.Builder_String_any w.heap.size w.heap.size (hrf s) _ HI.out hbs).mono ?_; rintro e w1 ⟨rfl, hb1⟩)
      go_ret
      exact ⟨rfl, HB.out.trans hb1⟩
end Go.Proofs.YtjcfjgcnkbbgmaaGreatDoor.PA

namespace Go.Proofs.YtjcfjgcnkbbgmaaGreatDoor.PA
open Go.RowKit Go.Sort Go.Proofs.YtjcfjgcnkbbgmaaGreatDoor.Pl Go.Proofs.YtjcfjgcnkbbgmaaGreatDoorW.PrintWords Go.Proofs.YtjcfjgcnkbbgmaaGreatDoorW.PrintLast Go.Proofs.YtjcfjgcnkbbgmaaGreatDoorW.PrintMore
set_option linter.unusedVariables false

theorem B_ap (a b : List UInt8) : B a ++ B b = B (a ++ b) := B_append a b
set_option maxHeartbeats 1000000 in
set_option maxRecDepth 100000 in
theorem attr_calls (n v : List UInt8) (hn : n.length ≤ 100) (hv : v.length ≤ 2000000000) (w : World) :
    Calls Tryz.prog 32 #[.string (B n), .string (B v)] w fun e w' => e = .returned (.string (B (atr n v))) ∧ w' = w := by
  by_cases h0 : v = []
  · subst h0
    have z : (B ([] : List UInt8)).toList.isEmpty = true := by rw [B_toList]; rfl
    go_enter Tryz.func32, Tryz.ntmps32
    go_wp2
    go_ret
    exact ⟨rfl, rfl⟩
  · have z : (B v).toList.isEmpty = false := by rw [B_toList]; cases v; exact absurd rfl h0; rfl
    have e : atr n v = [32] ++ n ++ [61, 34] ++ v ++ [34] := by unfold atr; rw [if_neg h0]
    rw [e]
    clear e
    have sn := B_size n
    have sv := B_size v
    have y1 : ¬ 9223372036854775807 < 1 + (B n).size := by omega
    have y2 : ¬ 9223372036854775807 < 1 + (B n).size + 2 := by omega
    have y3 : ¬ 9223372036854775807 < 1 + (B n).size + 2 + (B v).size := by omega
    have y4 : ¬ 9223372036854775807 < 1 + (B n).size + 2 + (B v).size + 1 := by omega
    clear sn sv
    go_enter Tryz.func32, Tryz.ntmps32
    go_wp2
    go_ret
    refine ⟨?_, rfl⟩
    show Ending.returned (.string (B [32] ++ B n ++ B [61, 34] ++ B v ++ B [34])) = _
    simp only [B_ap]
    rfl
set_option maxHeartbeats 1000000 in
set_option maxRecDepth 100000 in
theorem ids_calls {n m : Int} (hn : i64 n) (hm : i64 m) (w : World) (hLd : LaidW w) :
    Calls Tryz.prog 58 #[.int .i64 n, .int .i64 m] w fun e w' => e = .returned (.tuple #[.string (B (idA n)), .string (B (idB n m))]) ∧ Below w.heap.size w w' := by
  have hl1 := itoa_len (n := max n 1) (by have := hn.1; omega) (by have := hn.2; omega)
  have hl2 := itoa_len (n := m) hm.1 hm.2
  have H1 := Aside0.mk (itoa_any (max n 1) (by have := hn.1; omega) (by have := hn.2; omega) w hLd)
  have H2 := Aside0.mk (fun W (hW : Below w.heap.size w W) => itoa_any m hm.1 hm.2 W (hLd.go hW))
  have e1 : idA n = [102, 110, 45] ++ Lib.itoa (max n 1) := rfl
  have e2 : idB n m = [102, 110, 114, 101, 102, 45] ++ Lib.itoa (max n 1) ++ (if 1 < m then [45] ++ Lib.itoa m else []) := rfl
  obtain ⟨a, ha⟩ : ∃ a, Lib.itoa (max n 1) = a := ⟨_, rfl⟩
  obtain ⟨c, hc⟩ : ∃ c, Lib.itoa m = c := ⟨_, rfl⟩
  rw [ha] at hl1 H1 e1 e2
  rw [hc] at hl2 e2
  simp only [hc] at H2
  have sa := B_size a
  have sc := B_size c
  have y1 : ¬ 9223372036854775807 < 3 + (B a).size := by omega
  have y2 : ¬ 9223372036854775807 < 6 + (B a).size := by omega
  have y3 : ¬ 9223372036854775807 < 1 + (B c).size := by omega
  by_cases h1 : 1 < m
  · have z1 : decide (1 < m) = true := decide_eq_true h1
    have y4 : ¬ 9223372036854775807 < 6 + (B a).size + (1 + (B c).size) := by omega
    rw [if_pos h1] at e2
    rw [e1, e2]
    clear sa sc h1 e1 e2 ha hc hl1 hl2 hLd
    go_enter Tryz.func58, Tryz.ntmps58
    go_wp2_with fail
    refine H1.out.mono ?_
    rintro e w1 ⟨rfl, hb1⟩
    have HB1 := Aside0.mk hb1
    clear hb1
    go_wp2_with fail
    refine (H2.out _ HB1.out).mono ?_
    rintro e w2 ⟨rfl, hb2⟩
    have HB2 := Aside0.mk (below_step HB1.out hb2)
    clear hb2
    go_wp2
    go_ret2
    refine ⟨?_, HB2.out⟩
    show Ending.returned (.tuple #[.string (B [102, 110, 45] ++ B a), .string (B [102, 110, 114, 101, 102, 45] ++ B a ++ (B [45] ++ B c))]) = _
    simp only [B_ap]
    rfl
  · have z1 : decide (1 < m) = false := decide_eq_false h1
    rw [if_neg h1, List.append_nil] at e2
    have y4 : ¬ 9223372036854775807 < 6 + (B a).size + 0 := by omega
    rw [e1, e2]
    clear sa sc h1 e1 e2 ha hc hl1 hl2 hLd
    go_enter Tryz.func58, Tryz.ntmps58
    go_wp2_with fail
    refine H1.out.mono ?_
    rintro e w1 ⟨rfl, hb1⟩
    have HB1 := Aside0.mk hb1
    clear hb1
    go_wp2
    go_ret2
    refine ⟨?_, HB1.out⟩
    show Ending.returned (.tuple #[.string (B [102, 110, 45] ++ B a), .string (B [102, 110, 114, 101, 102, 45] ++ B a ++ B [])]) = _
    simp only [B_ap, List.append_nil]
    rfl
theorem put_new {w0 : World} {b : Nat} {m : Int} {X : List UInt8} {w : World} (h : Wt w0 b m X w) (ss : List ByteArray) (hl : X.length + (cat ss).length ≤ 70368744177664) (hs : ss.length ≤ 100) :
    Calls Tryz.prog 34 #[.pointer (some ⟨b, 0, none⟩), .slice (some ⟨w.heap.size, 0, none⟩) ss.length ss.length] (w.alloc (.cells (ss.map Value.string).toArray 9)) (Wrote w0 b m X (cat ss) w) := by
  have hb := below_alloc (Below.refl w.heap.size w) (.cells (ss.map Value.string).toArray 9)
  exact (put_w (h.step hb) w.heap.size ss (heap_alloc_new _ _) hl hs).mono fun e w' k => ⟨k.ret, k.wt, (oth_step hb).trans k.oth⟩
theorem cat_B (ls : List (List UInt8)) : cat (ls.map B) = ls.flatten := by
  induction ls with
  | nil => rfl
  | cons x r ih =>
    have e : cat ((x :: r).map B) = (B x).data.toList ++ cat (r.map B) := by unfold cat; rw [List.map_cons, List.flatMap_cons]
    rw [e, ih, B_data, List.flatten_cons]
/-- put, at texts that are told as lists. -/
theorem put_l {w0 : World} {b : Nat} {m : Int} {X : List UInt8} {w : World} (h : Wt w0 b m X w) (ls : List (List UInt8)) (T : List UInt8) (hT : ls.flatten = T) (hl : X.length + T.length ≤ 70368744177664) (hs : (ls.map B).length ≤ 100) :
    Calls Tryz.prog 34 #[.pointer (some ⟨b, 0, none⟩), .slice (some ⟨w.heap.size, 0, none⟩) (ls.map B).length (ls.map B).length] (w.alloc (.cells ((ls.map B).map Value.string).toArray 9)) (Wrote w0 b m X T w) := by
  have h2 := put_new h (ls.map B) (by rw [cat_B, hT]; exact hl) hs
  rw [cat_B, hT] at h2
  exact h2
/-- A node in a block of its own. -/
abbrev ncs (x : Nd) (A6 : Option Addr) (c6 : Nat) : Array Value := #[.int .i64 x.f0, .string x.f1, .string x.f2, .int .i64 x.f3, .int .i64 x.f4, .bool x.f5, .slice A6 x.f6.length c6]
structure NdAt (o : Nat) (x : Nd) (A6 : Option Addr) (c6 : Nat) (w : World) : Prop where
  d0 : w.cell? ⟨o, 0, none⟩ = some (.int .i64 x.f0)
  d1 : w.cell? ⟨o, 1, none⟩ = some (.string x.f1)
  d2 : w.cell? ⟨o, 2, none⟩ = some (.string x.f2)
  d3 : w.cell? ⟨o, 3, none⟩ = some (.int .i64 x.f3)
  d4 : w.cell? ⟨o, 4, none⟩ = some (.int .i64 x.f4)
  d5 : w.cell? ⟨o, 5, none⟩ = some (.bool x.f5)
  d6 : w.cell? ⟨o, 6, none⟩ = some (.slice A6 x.f6.length c6)
theorem ndAt {o : Nat} {x : Nd} {A6 : Option Addr} {c6 : Nat} {w : World} (h : w.heap[o]? = some (.cells (ncs x A6 c6) 26 (0, 0))) : NdAt o x A6 c6 w := ⟨(Lib.cell_of_heap h 0).trans rfl, (Lib.cell_of_heap h 1).trans rfl, (Lib.cell_of_heap h 2).trans rfl, (Lib.cell_of_heap h 3).trans rfl, (Lib.cell_of_heap h 4).trans rfl, (Lib.cell_of_heap h 5).trans rfl, (Lib.cell_of_heap h 6).trans rfl⟩
set_option maxHeartbeats 1000000 in
set_option maxRecDepth 100000 in
theorem raw_calls {w0 : World} {b : Nat} {m : Int} {X : List UInt8} {w : World} (h : Wt w0 b m X w) (hLd : LaidW w0) (s : List UInt8) (hs : s.length ≤ 268435456) (hl : X.length + (rawT m s).length ≤ 70368744177664) :
    Calls Tryz.prog 48 #[.pointer (some ⟨b, 0, none⟩), .string (B s)] w (Wrote w0 b m X (rawT m s) w) := by
  have hc := h.mask
  have HW := Aside0.mk h
  have HF := Aside0.mk (filter_calls s hs w (hLd.go h.bel))
  obtain ⟨T, hT⟩ : ∃ T, rawT m s = T := ⟨_, rfl⟩
  obtain ⟨R, hR⟩ : ∃ R, Wrote w0 b m X T w = R := ⟨_, rfl⟩
  have HR := Aside0.mk hR
  rw [hT] at hl ⊢
  rw [hR]
  unfold rawT at hT
  clear h hR
  by_cases h0 : bits .and .i64 m 16 = 0
  · have z : (bits .and .i64 m 16 != 0) = false := by rw [h0]; rfl
    rw [if_pos h0] at hT
    subst hT
    have HP := Aside0.mk (put_l HW.out [s] s (by simp) hl (by simp))
    clear h0
    go_enter Tryz.func48, Tryz.ntmps48
    go_wp2_with fail
    refine HP.out.mono ?_
    rintro e w2 hq
    have HQ := Aside0.mk hq
    obtain rfl := hq.ret
    clear hq
    go_wp2
    go_end0
    rw [← HR.out]
    exact HQ.out
  · have z : (bits .and .i64 m 16 != 0) = true := by simpa using h0
    rw [if_neg h0] at hT
    have HTT := Aside0.mk hT
    clear h0 hT
    go_enter Tryz.func48, Tryz.ntmps48
    go_wp2_with fail
    refine HF.out.mono ?_
    rintro e w1 ⟨rfl, hb1⟩
    rw [HTT.out]
    have HO1 := Aside0.mk (oth_step (b := b) hb1)
    have HP := Aside0.mk (put_l (HW.out.step hb1) [T] T (by simp) hl (by simp))
    clear hb1
    go_wp2_with fail
    refine HP.out.mono ?_
    rintro e w2 hq
    have HQ := Aside0.mk hq
    obtain rfl := hq.ret
    clear hq
    go_wp2
    go_end0
    rw [← HR.out]
    exact ⟨rfl, HQ.out.wt, HO1.out.trans HQ.out.oth⟩
end Go.Proofs.YtjcfjgcnkbbgmaaGreatDoor.PA

namespace Go.Proofs.YtjcfjgcnkbbgmaaGreatDoor.PA
open Go.RowKit Go.Sort Go.Proofs.YtjcfjgcnkbbgmaaGreatDoor.Pl Go.Proofs.YtjcfjgcnkbbgmaaGreatDoorW.PrintWords Go.Proofs.YtjcfjgcnkbbgmaaGreatDoorW.PrintLast Go.Proofs.YtjcfjgcnkbbgmaaGreatDoorW.PrintMore
set_option linter.unusedVariables false

set_option maxHeartbeats 2000000 in
set_option maxRecDepth 100000 in
theorem ref_calls {w0 : World} {b : Nat} {m : Int} {X : List UInt8} {w : World} (h : Wt w0 b m X w) (hLd : LaidW w0) (x : Nd) (A6 : Option Addr) (c6 : Nat) (hn : i64 x.f3) (hm : i64 x.f4) (hl : X.length + (refT x.f3 x.f4).length ≤ 70368744177664) :
    Calls Tryz.prog 49 #[.pointer (some ⟨b, 0, none⟩), .agg (ncs x A6 c6)] w (Wrote w0 b m X (refT x.f3 x.f4) w) := by
  have hb1 : Below w.heap.size w (w.alloc (.cells (ncs x A6 c6) 26)) := below_alloc (Below.refl w.heap.size w) _
  have hd := ndAt (heap_alloc_new w (.cells (ncs x A6 c6) 26))
  have hbk := heap_alloc_new w (.cells (ncs x A6 c6) 26)
  have hlt : w.heap.size < (w.alloc (.cells (ncs x A6 c6) 26)).heap.size := by simp
  have HLT := Aside0.mk hlt
  have HW1 := Aside0.mk (h.step hb1)
  have HI := Aside0.mk (ids_calls hn hm _ (hLd.go (h.step hb1).bel))
  have HT := Aside0.mk (fun W (hW : Below w0.heap.size w0 W) => itoa_any (max x.f3 1) (by have := hn.1; omega) (by have := hn.2; omega) W (hLd.go hW))
  have HO1 := Aside0.mk (oth_step (b := b) hb1)
  have HBK := Aside0.mk hbk
  have e1 : refT x.f3 x.f4 = [[60, 115, 117, 112, 32, 99, 108, 97, 115, 115, 61, 34, 102, 111, 111, 116, 110, 111, 116, 101, 45, 114, 101, 102, 34, 62, 60, 97, 32, 104, 114, 101, 102, 61, 34, 35], idA x.f3, [34, 32, 105, 100, 61, 34], idB x.f3 x.f4, [34, 62], Lib.itoa (max x.f3 1), [60, 47, 97, 62, 60, 47, 115, 117, 112, 62]].flatten := by
    unfold refT
    simp only [List.flatten_cons, List.flatten_nil, List.append_nil, List.append_assoc]
  obtain ⟨T, hT⟩ : ∃ T, refT x.f3 x.f4 = T := ⟨_, rfl⟩
  rw [hT] at hl e1 ⊢
  have HE := Aside0.mk e1.symm
  obtain ⟨a, ha⟩ : ∃ a, idA x.f3 = a := ⟨_, rfl⟩
  obtain ⟨c, hc⟩ : ∃ a, idB x.f3 x.f4 = a := ⟨_, rfl⟩
  obtain ⟨d, hd'⟩ : ∃ a, Lib.itoa (max x.f3 1) = a := ⟨_, rfl⟩
  rw [ha, hc, hd'] at HE
  rw [ha, hc] at HI
  simp only [hd'] at HT
  obtain ⟨R, hR⟩ : ∃ R, Wrote w0 b m X T w = R := ⟨_, rfl⟩
  have HR := Aside0.mk hR
  have HL := Aside0.mk hl
  rw [hR]
  obtain ⟨o, ho⟩ : ∃ o, w.heap.size = o := ⟨_, rfl⟩
  obtain ⟨w1, hw1⟩ : ∃ w1, w.alloc (.cells (ncs x A6 c6) 26) = w1 := ⟨_, rfl⟩
  rw [hw1] at HW1 HI HO1 hd HBK HLT
  rw [ho] at hd HBK HLT
  obtain ⟨d0, d1, d2, d3, d4, d5, d6⟩ := hd
  clear hb1 hLd hT ha hc hd' hR hl e1 h hn hm hbk hlt
  go_enter Tryz.func49, Tryz.ntmps49
  go_wp2_with fail
  refine HI.out.mono ?_
  rintro e w2 ⟨rfl, hb2⟩
  have HW2 := Aside0.mk (HW1.out.step hb2)
  have HO2 := Aside0.mk (HO1.out.trans (oth_step (b := b) hb2))
  obtain ⟨-, -, -, e3, -⟩ := ndAt ((hb2.block o HLT.out).trans HBK.out)
  clear hb2 HI HW1 HO1 d0 d1 d2 d3 d4 d5 d6
  go_wp2_with fail
  refine (HT.out w2 HW2.out.bel).mono ?_
  rintro e w3 ⟨rfl, hb3⟩
  have HW3 := Aside0.mk (HW2.out.step hb3)
  have HO3 := Aside0.mk (HO2.out.trans (oth_step (b := b) hb3))
  have HP := Aside0.mk (put_l HW3.out [[60, 115, 117, 112, 32, 99, 108, 97, 115, 115, 61, 34, 102, 111, 111, 116, 110, 111, 116, 101, 45, 114, 101, 102, 34, 62, 60, 97, 32, 104, 114, 101, 102, 61, 34, 35], a, [34, 32, 105, 100, 61, 34], c, [34, 62], d, [60, 47, 97, 62, 60, 47, 115, 117, 112, 62]] T HE.out HL.out (by simp))
  clear hb3 HW2 HO2 e3
  go_wp2_with fail
  refine HP.out.mono ?_
  rintro e w4 hq
  have HQ := Aside0.mk hq
  obtain rfl := hq.ret
  clear hq HP
  go_wp2
  go_end0
  rw [← HR.out]
  exact ⟨rfl, HQ.out.wt, HO3.out.trans HQ.out.oth⟩
theorem html_b (s : ByteArray) (hs : s.size ≤ 268435456) (w : World) : Calls Tryz.prog 33 #[.string s] w fun e w' => e = .returned (.string (B (htm s.data.toList))) ∧ Below w.heap.size w w' := html_walk s.data.toList (by rw [Array.length_toList]; exact hs) w
theorem href_b (s : ByteArray) (hs : s.size ≤ 1048576) (w : World) : Calls Tryz.prog 31 #[.string s] w fun e w' => e = .returned (.string (B (hrf s.data.toList))) ∧ Below w.heap.size w w' := href_walk s.data.toList (by rw [Array.length_toList]; exact hs) w
theorem nd_kept {w0 : World} {b : Nat} {m : Int} {X : List UInt8} {w w' : World} {o : Nat} {x : Nd} {A6 : Option Addr} {c6 : Nat} (ho : Lib.OthersKept 5 (some b) w w') (hk : w.heap[o]? = some (.cells (ncs x A6 c6) 26 (0, 0))) (hw : Wt w0 b m X w) : w'.heap[o]? = some (.cells (ncs x A6 c6) 26 (0, 0)) :=
  ho o _ hk (fun e => by
    obtain ⟨p, v, _, hb, _⟩ := hw.at'
    injection e with e
    rw [e, hb] at hk
    injection hk with hk
    injection hk with _ hk
    exact absurd hk (by decide)) (fun c fz e => by injection e with _ e; exact absurd e (by decide))
set_option maxHeartbeats 4000000 in
set_option maxRecDepth 100000 in
theorem leaf_calls {w0 : World} {b : Nat} {m : Int} {X : List UInt8} {w : World} (h : Wt w0 b m X w) (hLd : LaidW w0) (x : Nd) (A6 : Option Addr) (c6 : Nat) (hs : x.f1.size ≤ 1048576) (hn : i64 x.f3) (hm : i64 x.f4) (hl : X.length + (leafT m x.f0 x.f1.data.toList x.f3 x.f4 x.f5).length ≤ 70368744177664) :
    Calls Tryz.prog 36 #[.pointer (some ⟨b, 0, none⟩), .agg (ncs x A6 c6)] w (Wrote w0 b m X (leafT m x.f0 x.f1.data.toList x.f3 x.f4 x.f5) w) := by
  have hb1 : Below w.heap.size w (w.alloc (.cells (ncs x A6 c6) 26)) := below_alloc (Below.refl w.heap.size w) _
  have hd := ndAt (heap_alloc_new w (.cells (ncs x A6 c6) 26))
  have HW1 := Aside0.mk (h.step hb1)
  have HLD := Aside0.mk hLd
  have HH := Aside0.mk (fun W => html_b x.f1 (by omega) W)
  have HRAW := Aside0.mk (fun (X' : List UInt8) (W : World) (hW : Wt w0 b m X' W) (hl' : X'.length + (rawT m x.f1.data.toList).length ≤ 70368744177664) => (show Calls Tryz.prog 48 #[.pointer (some ⟨b, 0, none⟩), .string x.f1] W (Wrote w0 b m X' (rawT m x.f1.data.toList) W) from raw_calls hW hLd x.f1.data.toList (by rw [Array.length_toList]; exact Nat.le_trans hs (by decide)) hl'))
  have HREF := Aside0.mk (fun (X' : List UInt8) (W : World) (hW : Wt w0 b m X' W) (hl' : X'.length + (refT x.f3 x.f4).length ≤ 70368744177664) => ref_calls hW hLd x A6 c6 hn hm hl')
  have HO1 := Aside0.mk (oth_step (b := b) hb1)
  have HBK := Aside0.mk (heap_alloc_new w (.cells (ncs x A6 c6) 26))
  obtain ⟨T, hT⟩ : ∃ T, leafT m x.f0 x.f1.data.toList x.f3 x.f4 x.f5 = T := ⟨_, rfl⟩
  rw [hT] at hl ⊢
  unfold leafT at hT
  obtain ⟨R, hR⟩ : ∃ R, Wrote w0 b m X T w = R := ⟨_, rfl⟩
  have HR := Aside0.mk hR
  have HL := Aside0.mk hl
  rw [hR]
  obtain ⟨o, ho⟩ : ∃ o, w.heap.size = o := ⟨_, rfl⟩
  obtain ⟨w1, hw1⟩ : ∃ w1, w.alloc (.cells (ncs x A6 c6) 26) = w1 := ⟨_, rfl⟩
  rw [hw1] at HW1 HO1 hd HBK
  rw [ho] at hd HBK
  obtain ⟨d0, d1, d2, d3, d4, d5, d6⟩ := hd
  clear hb1 hR hl h hn hm hs hLd
  by_cases k14 : x.f0 = 14
  · have z14 : (x.f0 == 14) = true := beq_iff_eq.2 k14
    rw [if_pos k14] at hT
    obtain ⟨t, ht⟩ : ∃ t, htm x.f1.data.toList = t := ⟨_, rfl⟩
    rw [ht] at hT
    simp only [ht] at HH
    subst hT
    clear ht k14
    go_enter Tryz.func36, Tryz.ntmps36
    go_wp2_with fail
    refine (HH.out w1).mono ?_
    rintro e w2 ⟨rfl, hb2⟩
    have HO2 := Aside0.mk (HO1.out.trans (oth_step (b := b) hb2))
    have HP := Aside0.mk (put_l (HW1.out.step hb2) [t] t (by simp) HL.out (by simp))
    clear hb2 d0 d1 d2 d3 d4 d5 d6
    go_wp2_with fail
    refine HP.out.mono ?_
    rintro e w3 hq
    have HQ := Aside0.mk hq
    obtain rfl := hq.ret
    clear hq HP
    go_wp2
    go_end0
    rw [← HR.out]
    exact ⟨rfl, HQ.out.wt, HO2.out.trans HQ.out.oth⟩
  · have z14 : (x.f0 == 14) = false := beq_eq_false_iff_ne.2 k14
    by_cases k15 : x.f0 = 15
    · have z15 : (x.f0 == 15) = true := beq_iff_eq.2 k15
      rw [if_neg k14, if_pos k15] at hT
      subst hT
      have HP := Aside0.mk (put_l HW1.out [[10]] [10] rfl HL.out (by simp))
      clear k14 k15
      go_enter Tryz.func36, Tryz.ntmps36
      go_wp2_with fail
      refine HP.out.mono ?_
      rintro e w3 hq
      have HQ := Aside0.mk hq
      obtain rfl := hq.ret
      clear hq HP
      go_wp2
      go_end0
      rw [← HR.out]
      exact ⟨rfl, HQ.out.wt, HO1.out.trans HQ.out.oth⟩
    · have z15 : (x.f0 == 15) = false := beq_eq_false_iff_ne.2 k15
      by_cases k16 : x.f0 = 16
      · have z16 : (x.f0 == 16) = true := beq_iff_eq.2 k16
        rw [if_neg k14, if_neg k15, if_pos k16] at hT
        subst hT
        have HP := Aside0.mk (put_l HW1.out [[60, 98, 114, 32, 47, 62, 10]] [60, 98, 114, 32, 47, 62, 10] rfl HL.out (by simp))
        clear k14 k15 k16
        go_enter Tryz.func36, Tryz.ntmps36
        go_wp2_with fail
        refine HP.out.mono ?_
        rintro e w3 hq
        have HQ := Aside0.mk hq
        obtain rfl := hq.ret
        clear hq HP
        go_wp2
        go_end0
        rw [← HR.out]
        exact ⟨rfl, HQ.out.wt, HO1.out.trans HQ.out.oth⟩
      · have z16 : (x.f0 == 16) = false := beq_eq_false_iff_ne.2 k16
        by_cases k17 : x.f0 = 17
        · have z17 : (x.f0 == 17) = true := beq_iff_eq.2 k17
          rw [if_neg k14, if_neg k15, if_neg k16, if_pos k17] at hT
          obtain ⟨t, ht⟩ : ∃ t, htm x.f1.data.toList = t := ⟨_, rfl⟩
          rw [ht] at hT
          simp only [ht] at HH
          subst hT
          clear ht k14 k15 k16 k17
          go_enter Tryz.func36, Tryz.ntmps36
          go_wp2_with fail
          refine (HH.out w1).mono ?_
          rintro e w2 ⟨rfl, hb2⟩
          have HO2 := Aside0.mk (HO1.out.trans (oth_step (b := b) hb2))
          have HP := Aside0.mk (put_l (HW1.out.step hb2) [[60, 99, 111, 100, 101, 62], t, [60, 47, 99, 111, 100, 101, 62]] ([60, 99, 111, 100, 101, 62] ++ t ++ [60, 47, 99, 111, 100, 101, 62]) (by simp) HL.out (by simp))
          clear hb2 d0 d1 d2 d3 d4 d5 d6
          go_wp2_with fail
          refine HP.out.mono ?_
          rintro e w3 hq
          have HQ := Aside0.mk hq
          obtain rfl := hq.ret
          clear hq HP
          go_wp2
          go_end0
          rw [← HR.out]
          exact ⟨rfl, HQ.out.wt, HO2.out.trans HQ.out.oth⟩
        · have z17 : (x.f0 == 17) = false := beq_eq_false_iff_ne.2 k17
          by_cases k22 : x.f0 = 22
          · have z22 : (x.f0 == 22) = true := beq_iff_eq.2 k22
            rw [if_neg k14, if_neg k15, if_neg k16, if_neg k17, if_pos k22] at hT
            obtain ⟨t, ht⟩ : ∃ t, rawT m x.f1.data.toList = t := ⟨_, rfl⟩
            rw [ht] at hT
            simp only [ht] at HRAW
            subst hT
            have HP := Aside0.mk (HRAW.out X w1 HW1.out HL.out)
            clear ht k14 k15 k16 k17 k22
            go_enter Tryz.func36, Tryz.ntmps36
            go_wp2_with fail
            refine HP.out.mono ?_
            rintro e w3 hq
            have HQ := Aside0.mk hq
            obtain rfl := hq.ret
            clear hq HP
            go_wp2
            go_end0
            rw [← HR.out]
            exact ⟨rfl, HQ.out.wt, HO1.out.trans HQ.out.oth⟩
          · have z22 : (x.f0 == 22) = false := beq_eq_false_iff_ne.2 k22
            by_cases k24 : x.f0 = 24
            · have z24 : (x.f0 == 24) = true := beq_iff_eq.2 k24
              rw [if_neg k14, if_neg k15, if_neg k16, if_neg k17, if_neg k22, if_pos k24] at hT
              obtain ⟨t, ht⟩ : ∃ t, refT x.f3 x.f4 = t := ⟨_, rfl⟩
              rw [ht] at hT
              simp only [ht] at HREF
              subst hT
              have HP := Aside0.mk (HREF.out X w1 HW1.out HL.out)
              clear ht k14 k15 k16 k17 k22 k24
              go_enter Tryz.func36, Tryz.ntmps36
              go_wp2_with fail
              refine HP.out.mono ?_
              rintro e w3 hq
              have HQ := Aside0.mk hq
              obtain rfl := hq.ret
              clear hq HP
              go_wp2
              go_end0
              rw [← HR.out]
              exact ⟨rfl, HQ.out.wt, HO1.out.trans HQ.out.oth⟩
            · have z24 : (x.f0 == 24) = false := beq_eq_false_iff_ne.2 k24
              by_cases k25 : x.f0 = 25
              · have z25 : (x.f0 == 25) = true := beq_iff_eq.2 k25
                rw [if_neg k14, if_neg k15, if_neg k16, if_neg k17, if_neg k22, if_neg k24, if_pos k25] at hT
                have hlen := HL.out
                rw [← hT] at hlen
                have hx := boxT_len x.f5
                have HTT := Aside0.mk hT
                have HX := Aside0.mk (show X.length + 200 ≤ 70368744177664 + 200 from by omega)
                cases hfl : x.f5 with
                | true =>
                  have hTv : T = [60, 105, 110, 112, 117, 116, 32, 116, 121, 112, 101, 61, 34, 99, 104, 101, 99, 107, 98, 111, 120, 34, 32, 100, 105, 115, 97, 98, 108, 101, 100, 61, 34, 34] ++ ([32, 99, 104, 101, 99, 107, 101, 100, 61, 34, 34] ++ [32, 47, 62]) := by rw [← HTT.out, hfl]; rfl
                  have hTl : X.length + T.length ≤ 70368744177664 := HL.out
                  rw [hTv] at hTl
                  simp only [List.length_append, List.length_cons, List.length_nil] at hTl
                  have HTV := Aside0.mk hTv
                  have HTL := Aside0.mk hTl
                  rw [hfl] at d5
                  have HP := Aside0.mk (put_l HW1.out [[60, 105, 110, 112, 117, 116, 32, 116, 121, 112, 101, 61, 34, 99, 104, 101, 99, 107, 98, 111, 120, 34, 32, 100, 105, 115, 97, 98, 108, 101, 100, 61, 34, 34]] [60, 105, 110, 112, 117, 116, 32, 116, 121, 112, 101, 61, 34, 99, 104, 101, 99, 107, 98, 111, 120, 34, 32, 100, 105, 115, 97, 98, 108, 101, 100, 61, 34, 34] rfl (by have := HTL.out; simp only [List.length_cons, List.length_nil]; omega) (by simp))
                  clear hTv hTl hT hlen hx k14 k15 k16 k17 k22 k24 k25
                  go_enter Tryz.func36, Tryz.ntmps36
                  go_wp2_with fail
                  refine HP.out.mono ?_
                  rintro e w3 hq
                  have HK3 := Aside0.mk (nd_kept hq.oth HBK.out HW1.out)
                  have HW3 := Aside0.mk hq.wt
                  have HO3 := Aside0.mk (HO1.out.trans hq.oth)
                  obtain rfl := hq.ret
                  have e5 := (ndAt HK3.out).d5
                  rw [hfl] at e5
                  clear hq HP d0 d1 d2 d3 d4 d5 d6
                  have HP := Aside0.mk (put_l HW3.out [[32, 99, 104, 101, 99, 107, 101, 100, 61, 34, 34]] [32, 99, 104, 101, 99, 107, 101, 100, 61, 34, 34] rfl (by have := HTL.out; simp only [List.length_append, List.length_cons, List.length_nil]; omega) (by simp))
                  go_wp2_with fail
                  refine HP.out.mono ?_
                  rintro e w4 hq
                  have HW4 := Aside0.mk hq.wt
                  have HO4 := Aside0.mk (HO3.out.trans hq.oth)
                  obtain rfl := hq.ret
                  clear hq HP e5
                  have HP := Aside0.mk (put_l HW4.out [[32, 47, 62]] [32, 47, 62] rfl (by have := HTL.out; simp only [List.length_append, List.length_cons, List.length_nil]; omega) (by simp))
                  go_wp2_with fail
                  refine HP.out.mono ?_
                  rintro e w5 hq
                  have HQ := Aside0.mk hq
                  obtain rfl := hq.ret
                  clear hq HP
                  go_wp2
                  go_end0
                  rw [← HR.out]
                  exact ⟨rfl, by rw [HTV.out]; have := HQ.out.wt; simpa only [List.append_assoc] using this, HO4.out.trans HQ.out.oth⟩
                | false =>
                  have hTv : T = [60, 105, 110, 112, 117, 116, 32, 116, 121, 112, 101, 61, 34, 99, 104, 101, 99, 107, 98, 111, 120, 34, 32, 100, 105, 115, 97, 98, 108, 101, 100, 61, 34, 34] ++ ([32, 47, 62]) := by rw [← HTT.out, hfl]; rfl
                  have hTl : X.length + T.length ≤ 70368744177664 := HL.out
                  rw [hTv] at hTl
                  simp only [List.length_append, List.length_cons, List.length_nil] at hTl
                  have HTV := Aside0.mk hTv
                  have HTL := Aside0.mk hTl
                  rw [hfl] at d5
                  have HP := Aside0.mk (put_l HW1.out [[60, 105, 110, 112, 117, 116, 32, 116, 121, 112, 101, 61, 34, 99, 104, 101, 99, 107, 98, 111, 120, 34, 32, 100, 105, 115, 97, 98, 108, 101, 100, 61, 34, 34]] [60, 105, 110, 112, 117, 116, 32, 116, 121, 112, 101, 61, 34, 99, 104, 101, 99, 107, 98, 111, 120, 34, 32, 100, 105, 115, 97, 98, 108, 101, 100, 61, 34, 34] rfl (by have := HTL.out; simp only [List.length_cons, List.length_nil]; omega) (by simp))
                  clear hTv hTl hT hlen hx k14 k15 k16 k17 k22 k24 k25
                  go_enter Tryz.func36, Tryz.ntmps36
                  go_wp2_with fail
                  refine HP.out.mono ?_
                  rintro e w3 hq
                  have HK3 := Aside0.mk (nd_kept hq.oth HBK.out HW1.out)
                  have HW3 := Aside0.mk hq.wt
                  have HO3 := Aside0.mk (HO1.out.trans hq.oth)
                  obtain rfl := hq.ret
                  have e5 := (ndAt HK3.out).d5
                  rw [hfl] at e5
                  clear hq HP d0 d1 d2 d3 d4 d5 d6
                  have HP := Aside0.mk (put_l HW3.out [[32, 47, 62]] [32, 47, 62] rfl (by have := HTL.out; simp only [List.length_append, List.length_cons, List.length_nil]; omega) (by simp))
                  go_wp2_with fail
                  refine HP.out.mono ?_
                  rintro e w5 hq
                  have HQ := Aside0.mk hq
                  obtain rfl := hq.ret
                  clear hq HP
                  go_wp2
                  go_end0
                  rw [← HR.out]
                  exact ⟨rfl, by rw [HTV.out]; have := HQ.out.wt; simpa only [List.append_assoc] using this, HO3.out.trans HQ.out.oth⟩
              · have z25 : (x.f0 == 25) = false := beq_eq_false_iff_ne.2 k25
                rw [if_neg k14, if_neg k15, if_neg k16, if_neg k17, if_neg k22, if_neg k24, if_neg k25] at hT
                subst hT
                clear k14 k15 k16 k17 k22 k24 k25
                go_enter Tryz.func36, Tryz.ntmps36
                go_wp2
                go_end0
                rw [← HR.out]
                exact ⟨rfl, by rw [List.append_nil]; exact HW1.out, HO1.out⟩
end Go.Proofs.YtjcfjgcnkbbgmaaGreatDoor.PA

namespace Go.Proofs.YtjcfjgcnkbbgmaaGreatDoor.PA
open Go.RowKit Go.Sort Go.Proofs.YtjcfjgcnkbbgmaaGreatDoor.Pl Go.Proofs.YtjcfjgcnkbbgmaaGreatDoorW.PrintWords Go.Proofs.YtjcfjgcnkbbgmaaGreatDoorW.PrintLast Go.Proofs.YtjcfjgcnkbbgmaaGreatDoorW.PrintMore
set_option linter.unusedVariables false

set_option maxHeartbeats 2000000 in
set_option maxRecDepth 100000 in
theorem put_d {w0 : World} {b : Nat} {m : Int} {X : List UInt8} {w : World} (u : FrameMode) (h : Wt w0 b m X w) (g : Nat) (ss : List ByteArray) (hg : w.heap[g]? = some (.cells (ss.map Value.string).toArray 9 (0, 0))) (hl : X.length + (cat ss).length ≤ 70368744177664) (hs : ss.length ≤ 100) :
    CallsD Tryz.prog 34 #[.pointer (some ⟨b, 0, none⟩), .slice (some ⟨g, 0, none⟩) ss.length ss.length] u w (fun e u' w' => u' = u ∧ Wrote w0 b m X (cat ss) w e w') := by
  have HW := Aside0.mk h
  have HG := Aside0.mk hg
  have hgb : some g ≠ some b := fun e => by
    obtain ⟨p, v, _, hk, _⟩ := h.at'
    injection e with e
    rw [e, hk] at hg
    injection hg with hg
    injection hg with _ hg
    exact absurd hg (by decide)
  have HGB := Aside0.mk hgb
  obtain ⟨R, hR⟩ : ∃ R, Wrote w0 b m X (cat ss) w = R := ⟨_, rfl⟩
  have HR := Aside0.mk hR
  simp only [hR]
  clear h hg hgb hR
  go_enter_d Tryz.func34, Tryz.ntmps34
  go_wp2_with fail
  go_loopw [5, 8] (fun v5 v8 wr => ∃ i : Nat, v8 = .int .i64 (i : Int) ∧ i ≤ ss.length ∧ Aside0 (Wt w0 b m (X ++ cat (ss.take i)) wr) ∧ Aside0 (Lib.OthersKept 5 (some b) w wr)) (fun _ v8 _ => ss.length - (intOf v8).toNat)
  case atStart => exact ⟨0, rfl, by omega, ⟨by simpa [cat] using HW.out⟩, ⟨Lib.OthersKept.refl _ _ _⟩⟩
  case round =>
    obtain ⟨i, rfl, hi, HWr, HO⟩ := hrel
    by_cases hlt : i < ss.length
    · have q1 : decide ((i : Int) < (ss.length : Int)) = true := decide_eq_true (by omega)
      have p0 := eq_true (show 0 ≤ (i : Int) from by omega)
      have p1 := eq_true (show (i : Int) < (ss.length : Int) from by omega)
      have hgr : wr.heap[g]? = some (.cells (ss.map Value.string).toArray 9 (0, 0)) := HO.out g _ HG.out HGB.out (fun c fz e => by injection e with _ e; exact absurd e (by decide))
      have x0 : wr.cell? ⟨g, i, none⟩ = some (.string ss[i]) := by rw [Lib.cell_of_heap hgr]; simp [hlt]
      have hsp : cat (ss.take (i + 1)) = cat (ss.take i) ++ ss[i].data.toList := by unfold cat; rw [List.take_add_one, List.getElem?_eq_getElem hlt, Option.toList_some, List.flatMap_append, List.flatMap_singleton]
      have hll : (cat (ss.take (i + 1))).length ≤ (cat ss).length := by
        have e : cat ss = cat (ss.take (i + 1)) ++ cat (ss.drop (i + 1)) := by unfold cat; rw [← List.flatMap_append, List.take_append_drop]
        rw [e, List.length_append]
        omega
      have hbd : X.length + (cat (ss.take i)).length + (ss[i]).size ≤ 70368744177664 := by
        rw [hsp, List.length_append] at hll
        have : (ss[i]).data.toList.length = (ss[i]).size := by rw [Array.length_toList]; rfl
        omega
      have HC := Aside0.mk (wstr HWr.out ss[i] (by rw [List.length_append]; exact hbd))
      have HSP := Aside0.mk hsp
      clear hgr hsp hll hbd HWr
      go_wp2_with fail
      refine HC.out.mono ?_
      rintro e w2 ⟨rfl, hw2, ho2⟩
      have HW2 := Aside0.mk (show Wt w0 b m (X ++ cat (ss.take (i + 1))) w2 from by rw [HSP.out, ← List.append_assoc]; exact hw2)
      have HO2 := Aside0.mk (HO.out.trans ho2)
      clear hw2 ho2 HC x0
      go_wp2
      go_roundw
      case rel => exact ⟨i + 1, by simp, by omega, HW2, HO2⟩
      case measure => simp [intOf]; omega
    · have q1 : decide ((i : Int) < (ss.length : Int)) = false := decide_eq_false (by omega)
      have htk : ss.take i = ss := List.take_of_length_le (by omega)
      rw [htk] at HWr
      clear htk
      go_wp2
      go_end0
      rw [← HR.out]
      exact ⟨rfl, HWr.out, HO.out⟩
/-- .. at texts that are told as lists. -/
theorem put_dl {w0 : World} {b : Nat} {m : Int} {X : List UInt8} {w : World} (u : FrameMode) (h : Wt w0 b m X w) (g : Nat) (ls : List (List UInt8)) (T : List UInt8) (hT : ls.flatten = T) (hg : w.heap[g]? = some (.cells ((ls.map B).map Value.string).toArray 9 (0, 0))) (hl : X.length + T.length ≤ 70368744177664) (hs : (ls.map B).length ≤ 100) :
    CallsD Tryz.prog 34 #[.pointer (some ⟨b, 0, none⟩), .slice (some ⟨g, 0, none⟩) (ls.map B).length (ls.map B).length] u w (fun e u' w' => u' = u ∧ Wrote w0 b m X T w e w') := by
  have h2 := put_d u h g (ls.map B) hg (by rw [cat_B, hT]; exact hl) hs
  rw [cat_B, hT] at h2
  exact h2
theorem str_kept {w0 : World} {b : Nat} {m : Int} {X : List UInt8} {w w' : World} {g : Nat} {cs : Array Value} (ho : Lib.OthersKept 5 (some b) w w') (hk : w.heap[g]? = some (.cells cs 9 (0, 0))) (hw : Wt w0 b m X w) : w'.heap[g]? = some (.cells cs 9 (0, 0)) :=
  ho g _ hk (fun e => by
    obtain ⟨p, v, _, hb, _⟩ := hw.at'
    injection e with e
    rw [e, hb] at hk
    injection hk with hk
    injection hk with _ hk
    exact absurd hk (by decide)) (fun c fz e => by injection e with _ e; exact absurd e (by decide))
set_option maxHeartbeats 4000000 in
set_option maxRecDepth 100000 in
theorem in_calls {w0 : World} {b : Nat} {m : Int} {X : List UInt8} {w : World} (h : Wt w0 b m X w) (tag attrs : List UInt8) (l : List Nd) (A : Option Addr) (c : Nat)
    (hin : ∀ (X' : List UInt8) (W : World), Wt w0 b m X' W → X'.length + 300 * wt l ≤ 70368744177664 → Calls Tryz.prog 19 #[.pointer (some ⟨b, 0, none⟩), .slice A l.length c] W (Wrote w0 b m X' (inl m l) W))
    (ho : okl l) (hl : X.length + (5 + 2 * tag.length + attrs.length + 300 * wt l) ≤ 70368744177664) :
    Calls Tryz.prog 30 #[.pointer (some ⟨b, 0, none⟩), .string (B tag), .string (B attrs), .slice A l.length c] w (Wrote w0 b m X (tagd tag attrs (inl m l)) w) := by
  have hil := inl_len m l ho
  have HP := Aside0.mk (put_l h [[60], tag, attrs, [62]] ([60] ++ tag ++ attrs ++ [62]) (by simp) (by simp only [List.length_append, List.length_cons, List.length_nil]; omega) (by simp))
  have HIN := Aside0.mk hin
  have HL := Aside0.mk hl
  have HIL := Aside0.mk hil
  have HT := Aside0.mk (show tagd tag attrs (inl m l) = ([60] ++ tag ++ attrs ++ [62]) ++ (inl m l ++ ([60, 47] ++ tag ++ [62])) from rfl)
  obtain ⟨R, hR⟩ : ∃ R, Wrote w0 b m X (tagd tag attrs (inl m l)) w = R := ⟨_, rfl⟩
  have HR := Aside0.mk hR
  rw [hR]
  clear h hin ho hl hil hR
  go_enter_defers Tryz.func30, Tryz.ntmps30
  go_wp2_with fail
  refine HP.out.mono ?_
  rintro e w1 hq
  have HW1 := Aside0.mk hq.wt
  have HO1 := Aside0.mk hq.oth
  obtain rfl := hq.ret
  clear hq HP
  have hb2 : Below w1.heap.size w1 (w1.alloc (.cells (([[60, 47], tag, [62]].map B).map Value.string).toArray 9)) := below_alloc (Below.refl w1.heap.size w1) _
  have HB2 := Aside0.mk hb2
  have HG2 := Aside0.mk (heap_alloc_new w1 (.cells (([[60, 47], tag, [62]].map B).map Value.string).toArray 9))
  have HI := Aside0.mk (HIN.out _ _ (HW1.out.step hb2) (by have := HL.out; simp only [List.length_append, List.length_cons, List.length_nil]; omega))
  clear hb2
  go_wp2_with fail
  refine HI.out.mono ?_
  rintro e w3 hq
  have HW3 := Aside0.mk hq.wt
  have HO3 := Aside0.mk ((HO1.out.trans (oth_step HB2.out)).trans hq.oth)
  have HG3 := Aside0.mk (str_kept hq.oth HG2.out (HW1.out.step HB2.out))
  obtain rfl := hq.ret
  clear hq HI
  go_wp2
  refine leaves_cons (f := 34) (args := #[.pointer (some ⟨b, 0, none⟩), .slice (some ⟨w1.heap.size, 0, none⟩) 3 3]) (by simp) (by simp [go_sem]) ?_
  refine (put_dl .returning HW3.out w1.heap.size [[60, 47], tag, [62]] ([60, 47] ++ tag ++ [62]) (by simp) HG3.out (by have h1 := HL.out; have h2 := HIL.out; simp only [List.length_append, List.length_cons, List.length_nil]; omega) (by simp)).mono ?_
  rintro e u' w4 ⟨rfl, hq⟩
  have HQ := Aside0.mk hq
  obtain rfl := hq.ret
  clear hq
  have HF := Aside0.mk (show Wrote w0 b m X (tagd tag attrs (inl m l)) w (.returned (.tuple #[])) w4 from ⟨rfl, by rw [HT.out]; have := HQ.out.wt; simpa only [List.append_assoc] using this, HO3.out.trans HQ.out.oth⟩)
  simp [Leaves, settle, results, Tryz.results30]
  rw [← HR.out]
  exact HF.out
end Go.Proofs.YtjcfjgcnkbbgmaaGreatDoor.PA

namespace Go.Proofs.YtjcfjgcnkbbgmaaGreatDoor.PA
open Go.RowKit Go.Sort Go.Proofs.YtjcfjgcnkbbgmaaGreatDoor.Pl Go.Proofs.YtjcfjgcnkbbgmaaGreatDoorW.PrintWords Go.Proofs.YtjcfjgcnkbbgmaaGreatDoorW.PrintLast Go.Proofs.YtjcfjgcnkbbgmaaGreatDoorW.PrintMore
set_option linter.unusedVariables false

structure Rq (w0 : World) (A : Option Addr) (c : Nat) (l : List Nd) : Prop where
  row : Kd.C k26 w0 A l.length l
  cap : l.length ≤ c
  ok : okl l
  lim : wt l ≤ 268435456
theorem cell_go {w0 w : World} (hb : Below w0.heap.size w0 w) {a : Addr} {v : Value} (h : w0.cell? a = some v) : w.cell? a = some v := (hb.cell (World.block_lt_of_cell? w0 _ h)).trans h
/-- An element of such a row. -/
structure ElAt (w0 : World) (ad : Addr) (x : Nd) (A6 : Option Addr) (c6 : Nat) (w : World) : Prop where
  x0 : w.cell? ad = some (.int .i64 x.f0)
  x1 : w.cell? ⟨ad.block, ad.off + 1, none⟩ = some (.string x.f1)
  x2 : w.cell? ⟨ad.block, ad.off + 2, none⟩ = some (.string x.f2)
  x3 : w.cell? ⟨ad.block, ad.off + 3, none⟩ = some (.int .i64 x.f3)
  x4 : w.cell? ⟨ad.block, ad.off + 4, none⟩ = some (.int .i64 x.f4)
  x5 : w.cell? ⟨ad.block, ad.off + 5, none⟩ = some (.bool x.f5)
  x6 : w.cell? ⟨ad.block, ad.off + 6, none⟩ = some (.slice A6 x.f6.length c6)
theorem Rq.at' {w0 : World} {A : Option Addr} {c : Nat} {l : List Nd} (h : Rq w0 A c l) {i : Nat} (hi : i < l.length) :
    ∃ ad A6 c6, A = some ad ∧ Rq w0 A6 c6 l[i].f6 ∧ ∀ w, Below w0.heap.size w0 w → ElAt w0 (ad.add (i * 7)) l[i] A6 c6 w := by
  obtain ⟨ad, A6, c6, e, y0, y1, y2, y3, y4, y5, y6, l6, r6⟩ := at_T26 h.row (i : Int) (by omega) (by omega)
  have hg : rd_T26 l (i : Int) = l[i] := by unfold rd_T26; rw [Int.toNat_natCast, List.getD_eq_getElem?_getD, List.getElem?_eq_getElem hi]; rfl
  rw [hg] at y0 y1 y2 y3 y4 y5 y6 l6 r6
  rw [Int.toNat_natCast] at y0 y1 y2 y3 y4 y5 y6
  have hm := okl_mem h.ok (List.getElem_mem hi)
  have hw := wt_mem (List.getElem_mem hi)
  have he := wt1_eta l[i]
  have hl := h.lim
  exact ⟨ad, A6, c6, e, ⟨r6, l6, (ok1_eta hm).2, by omega⟩, fun w hb => ⟨cell_go hb y0, cell_go hb y1, cell_go hb y2, cell_go hb y3, cell_go hb y4, cell_go hb y5, cell_go hb y6⟩⟩
theorem Rq.wt_lt {w0 : World} {A : Option Addr} {c : Nat} {l : List Nd} (h : Rq w0 A c l) {i : Nat} (hi : i < l.length) : wt l[i].f6 + 1 ≤ wt l := by
  have hw := wt_mem (List.getElem_mem hi)
  have he := wt1_eta l[i]
  omega
theorem Rq.len {w0 : World} {A : Option Addr} {c : Nat} {l : List Nd} (h : Rq w0 A c l) : l.length ≤ 268435456 := by
  refine Nat.le_trans ?_ h.lim
  have : ∀ l : List Nd, l.length ≤ wt l := by
    intro l
    induction l with
    | nil => simp
    | cons x r ih => rw [List.length_cons, wt]; have := wt1_eta x; omega
  exact this l
theorem wt_take_at {l : List Nd} {i : Nat} (hi : i < l.length) : wt (l.take i) + wt1 l[i] ≤ wt l := by
  have h := wt_take l (i + 1)
  rw [take_succ hi, wt_append, wt, wt] at h
  omega
end Go.Proofs.YtjcfjgcnkbbgmaaGreatDoor.PA

namespace Go.Proofs.YtjcfjgcnkbbgmaaGreatDoor.PA
open Go.RowKit Go.Sort Go.Proofs.YtjcfjgcnkbbgmaaGreatDoor.Pl Go.Proofs.YtjcfjgcnkbbgmaaGreatDoorW.PrintWords Go.Proofs.YtjcfjgcnkbbgmaaGreatDoorW.PrintLast Go.Proofs.YtjcfjgcnkbbgmaaGreatDoorW.PrintMore
set_option linter.unusedVariables false

/-- A builder in block b, made behind w0: it holds X. -/
structure Bt (w0 : World) (b : Nat) (X : List UInt8) (w : World) : Prop where
  bel : Below w0.heap.size w0 w
  isb : Lib.IsBuilderF 43 5 w0.heap.size b (Lib.byteCells X) w
structure Plt (w0 : World) (b : Nat) (X T : List UInt8) (w : World) (e : Ending) (w' : World) : Prop where
  ret : e = .returned (.tuple #[])
  bt : Bt w0 b (X ++ T) w'
  oth : Lib.OthersKept 5 (some b) w w'
theorem Bt.alloc {w0 : World} {b : Nat} {X : List UInt8} {w : World} (h : Bt w0 b X w) (o : Obj) : Bt w0 b X (w.alloc o) := ⟨h.bel.alloc h.bel.size _, h.isb.alloc o⟩
theorem Bt.str {w0 : World} {b : Nat} {X : List UInt8} {w : World} (h : Bt w0 b X w) (s : ByteArray) (hl : X.length + s.size ≤ 70368744177664) :
    Calls Tryz.prog 41 #[.pointer (some ⟨b, 0, none⟩), .string s] w fun e w' => e = .returned (.tuple #[.int .i64 s.size, .nilIface]) ∧ Bt w0 b (X ++ s.data.toList) w' ∧ Lib.OthersKept 5 (some b) w w' := by
  refine (Tryz.Builder_WriteString_k w0.heap.size b (Lib.byteCells X) s w h.isb (by rw [Lib.byteCells_length]; omega) h.bel.size).mono ?_
  rintro e w' ⟨rfl, h1, h2, h3⟩
  refine ⟨rfl, ⟨h.bel.trans h2, ?_⟩, h3⟩
  rw [Lib.strCells_eq, ← Lib.byteCells_append] at h1
  exact .inr h1
theorem Bt.byte {w0 : World} {b : Nat} {X : List UInt8} {w : World} (h : Bt w0 b X w) (x : UInt8) (hl : X.length + 1 ≤ 70368744177664) :
    Calls Tryz.prog 17 #[.pointer (some ⟨b, 0, none⟩), .int .u8 (x.toNat : Int)] w fun e w' => e = .returned .nilIface ∧ Bt w0 b (X ++ [x]) w' ∧ Lib.OthersKept 5 (some b) w w' := by
  refine (Tryz.Builder_WriteByte_k w0.heap.size b (Lib.byteCells X) (x.toNat : Int) w h.isb (by rw [Lib.byteCells_length]; omega) h.bel.size).mono ?_
  rintro e w' ⟨rfl, h1, h2, h3⟩
  refine ⟨rfl, ⟨h.bel.trans h2, ?_⟩, h3⟩
  rw [Lib.byteCells_append]
  exact .inr h1
theorem bt_kept {b : Nat} {w w' : World} {o : Nat} {x : Nd} {A6 : Option Addr} {c6 : Nat} (ho : Lib.OthersKept 5 (some b) w w') (hk : w.heap[o]? = some (.cells (ncs x A6 c6) 26 (0, 0))) (hob : o ≠ b) : w'.heap[o]? = some (.cells (ncs x A6 c6) 26 (0, 0)) :=
  ho o _ hk (fun e => hob (Option.some.inj e)) (fun c fz e => by injection e with _ e; exact absurd e (by decide))
theorem Bt.lt {w0 : World} {b : Nat} {X : List UInt8} {w : World} (h : Bt w0 b X w) : b < w.heap.size := by
  rcases h.isb with ⟨_, v, hb, _⟩ | ⟨_, v, hb, _⟩
  · exact (Array.getElem?_eq_some_iff.1 hb).1
  · exact (Array.getElem?_eq_some_iff.1 hb).1
theorem rdX1_eta (x : Nd) : rdX1 x = (if x.f0 = 14 ∨ x.f0 = 17 then x.f1.data.toList else if x.f0 = 15 ∨ x.f0 = 16 then [32] else []) ++ rdX x.f6 := by cases x; rw [rdX1]
/-- What is written ahead of a part's own parts. -/
def rdH (x : Nd) : List UInt8 := if x.f0 = 14 ∨ x.f0 = 17 then x.f1.data.toList else if x.f0 = 15 ∨ x.f0 = 16 then [32] else []
def PlC (N : Nat) : Prop := ∀ (l : List Nd), wt l < N → ∀ (w0 : World) (b : Nat) (X : List UInt8) (w : World) (A : Option Addr) (c : Nat), Rq w0 A c l → Bt w0 b X w → X.length + wt l ≤ 70368744177664 →
  Calls Tryz.prog 47 #[.pointer (some ⟨b, 0, none⟩), .slice A l.length c] w (Plt w0 b X (rdX l) w)
set_option maxHeartbeats 4000000 in
set_option maxRecDepth 100000 in
theorem plain_step (N : Nat) (IH : PlC N) : PlC (N + 1) := by
  intro l hwl w0 b X w A c hq hbt hl
  have HQ := Aside0.mk hq
  have HBT := Aside0.mk hbt
  have HIH := Aside0.mk IH
  have hlen := hq.len
  obtain ⟨R, hR⟩ : ∃ R, Plt w0 b X (rdX l) w = R := ⟨_, rfl⟩
  have HR := Aside0.mk hR
  have HL := Aside0.mk hl
  have HWL := Aside0.mk hwl
  rw [hR]
  clear hq hbt IH hR hl hwl
  go_enter Tryz.func47, Tryz.ntmps47
  go_wp2_with fail
  go_loopw [5, 8] (fun v5 v8 wr => ∃ i : Nat, v8 = .int .i64 (i : Int) ∧ i ≤ l.length ∧ Aside0 (Bt w0 b (X ++ rdX (l.take i)) wr) ∧ Aside0 (Lib.OthersKept 5 (some b) w wr)) (fun _ v8 _ => l.length - (intOf v8).toNat)
  case atStart => exact ⟨0, rfl, by omega, ⟨by rw [List.take_zero, rdX, List.append_nil]; exact HBT.out⟩, ⟨Lib.OthersKept.refl _ _ _⟩⟩
  case round =>
    obtain ⟨i, rfl, hi, HB, HO⟩ := hrel
    by_cases hlt : i < l.length
    · have q1 : decide ((i : Int) < (l.length : Int)) = true := decide_eq_true (by omega)
      have p0 := eq_true (show 0 ≤ (i : Int) from by omega)
      have p1 := eq_true (show (i : Int) < (l.length : Int) from by omega)
      obtain ⟨ad, A6, c6, e1, hq6, hel⟩ := HQ.out.at' hlt
      cases e1
      have hwt := HQ.out.wt_lt hlt
      have hsum := wt_take_at hlt
      have hr1 := rdX_len (l.take i)
      have hst := rdX_take hlt
      obtain ⟨x, hx⟩ : ∃ x, l[i] = x := ⟨_, rfl⟩
      rw [hx] at hq6 hel hwt hst hsum
      have hwx := wt1_eta x
      obtain ⟨x0, x1, x2, x3, x4, x5, x6⟩ := hel wr HB.out.bel
      have hlb : X.length + (rdX (l.take i)).length + 1 + x.f1.size + x.f2.size + wt x.f6 ≤ 70368744177664 := by have := HL.out; omega
      have HLB := Aside0.mk hlb
      have HQ6 := Aside0.mk hq6
      have HWX := Aside0.mk (show wt x.f6 < N from by have := HWL.out; omega)
      have HST := Aside0.mk (show rdX (l.take (i + 1)) = rdX (l.take i) ++ rdH x ++ rdX x.f6 from by rw [hst, rdX1_eta, List.append_assoc]; rfl)
      have HHL := Aside0.mk (show (rdH x).length ≤ 1 + x.f1.size from by
        unfold rdH
        split
        · rw [Array.length_toList]; show x.f1.size ≤ _; omega
        · split <;> simp)
      clear hx hel hwt hsum hr1 hst hq6 hwx hlb
      obtain ⟨o, ho⟩ : ∃ o, wr.heap.size = o := ⟨_, rfl⟩
      have hbk := heap_alloc_new wr (.cells (ncs x A6 c6) 26)
      have HBT1 := Aside0.mk (HB.out.alloc (.cells (ncs x A6 c6) 26))
      have HO1 := Aside0.mk (HO.out.alloc (.cells (ncs x A6 c6) 26))
      have hob : o ≠ b := by have := HB.out.lt; omega
      have HOB := Aside0.mk hob
      obtain ⟨w1, hw1⟩ : ∃ w1, wr.alloc (.cells (ncs x A6 c6) 26) = w1 := ⟨_, rfl⟩
      rw [hw1] at hbk HBT1 HO1
      rw [ho] at hbk
      have HBK := Aside0.mk hbk
      obtain ⟨d0, d1, d2, d3, d4, d5, d6⟩ := ndAt hbk
      clear hbk hob
      -- the rest of a round, once the node's own text is written
      have HREST := Aside0.mk (fun (W : World) (hW : Bt w0 b (X ++ rdX (l.take i) ++ rdH x) W) => HIH.out x.f6 HWX.out w0 b _ W A6 c6 HQ6.out hW (by have h1 := HLB.out; have h2 := HHL.out; rw [List.length_append, List.length_append]; omega))
      clear HB HO
      by_cases k1 : x.f0 = 14 ∨ x.f0 = 17
      · have hH : rdH x = x.f1.data.toList := by unfold rdH; rw [if_pos k1]
        have HS := Aside0.mk (HBT1.out.str x.f1 (by have := HLB.out; rw [List.length_append]; omega))
        have HHE := Aside0.mk hH
        clear hH
        rcases k1 with k1 | k1
        · have z1 : (x.f0 == 14) = true := beq_iff_eq.2 k1
          clear k1
          go_upto_region 10 with fail
          refine HS.out.mono ?_
          rintro e w2 ⟨rfl, hb2, ho2⟩
          have HBT2 := Aside0.mk (show Bt w0 b (X ++ rdX (l.take i) ++ rdH x) w2 from by rw [HHE.out]; exact hb2)
          have HO2 := Aside0.mk (HO1.out.trans ho2)
          have HBK2 := Aside0.mk (bt_kept ho2 HBK.out HOB.out)
          have e6 := (ndAt HBK2.out).d6
          clear hb2 ho2 HS d0 d1 d2 d3 d4 d5 d6
          go_upto_region 10 with fail
          go_wp2_with fail
          refine (HREST.out _ HBT2.out).mono ?_
          rintro e w3 hq
          have HB3 := Aside0.mk (show Bt w0 b (X ++ rdX (l.take (i + 1))) w3 from by rw [HST.out]; have := hq.bt; simpa only [List.append_assoc] using this)
          have HO3 := Aside0.mk (HO2.out.trans hq.oth)
          obtain rfl := hq.ret
          clear hq
          go_wp2
          go_roundw
          case rel => exact ⟨i + 1, by simp, by omega, HB3, HO3⟩
          case measure => simp [intOf]; omega
        · have z1 : (x.f0 == 14) = false := beq_eq_false_iff_ne.2 (by omega)
          have z2 : (x.f0 == 17) = true := beq_iff_eq.2 k1
          clear k1
          go_upto_region 10 with fail
          refine HS.out.mono ?_
          rintro e w2 ⟨rfl, hb2, ho2⟩
          have HBT2 := Aside0.mk (show Bt w0 b (X ++ rdX (l.take i) ++ rdH x) w2 from by rw [HHE.out]; exact hb2)
          have HO2 := Aside0.mk (HO1.out.trans ho2)
          have HBK2 := Aside0.mk (bt_kept ho2 HBK.out HOB.out)
          have e6 := (ndAt HBK2.out).d6
          clear hb2 ho2 HS d0 d1 d2 d3 d4 d5 d6
          go_upto_region 10 with fail
          go_wp2_with fail
          refine (HREST.out _ HBT2.out).mono ?_
          rintro e w3 hq
          have HB3 := Aside0.mk (show Bt w0 b (X ++ rdX (l.take (i + 1))) w3 from by rw [HST.out]; have := hq.bt; simpa only [List.append_assoc] using this)
          have HO3 := Aside0.mk (HO2.out.trans hq.oth)
          obtain rfl := hq.ret
          clear hq
          go_wp2
          go_roundw
          case rel => exact ⟨i + 1, by simp, by omega, HB3, HO3⟩
          case measure => simp [intOf]; omega
      · have z1 : (x.f0 == 14) = false := beq_eq_false_iff_ne.2 (by omega)
        have z2 : (x.f0 == 17) = false := beq_eq_false_iff_ne.2 (by omega)
        by_cases k2 : x.f0 = 15 ∨ x.f0 = 16
        · have hH : rdH x = [32] := by unfold rdH; rw [if_neg k1, if_pos k2]
          have HS := Aside0.mk (HBT1.out.byte 32 (by have := HLB.out; rw [List.length_append]; omega))
          have HHE := Aside0.mk hH
          clear hH
          rcases k2 with k2 | k2
          · have z3 : (x.f0 == 15) = true := beq_iff_eq.2 k2
            clear k1 k2
            go_upto_region 10 with fail
            refine HS.out.mono ?_
            rintro e w2 ⟨rfl, hb2, ho2⟩
            have HBT2 := Aside0.mk (show Bt w0 b (X ++ rdX (l.take i) ++ rdH x) w2 from by rw [HHE.out]; exact hb2)
            have HO2 := Aside0.mk (HO1.out.trans ho2)
            have HBK2 := Aside0.mk (bt_kept ho2 HBK.out HOB.out)
            have e6 := (ndAt HBK2.out).d6
            clear hb2 ho2 HS d0 d1 d2 d3 d4 d5 d6
            go_upto_region 10 with fail
            go_wp2_with fail
            refine (HREST.out _ HBT2.out).mono ?_
            rintro e w3 hq
            have HB3 := Aside0.mk (show Bt w0 b (X ++ rdX (l.take (i + 1))) w3 from by rw [HST.out]; have := hq.bt; simpa only [List.append_assoc] using this)
            have HO3 := Aside0.mk (HO2.out.trans hq.oth)
            obtain rfl := hq.ret
            clear hq
            go_wp2
            go_roundw
            case rel => exact ⟨i + 1, by simp, by omega, HB3, HO3⟩
            case measure => simp [intOf]; omega
          · have z3 : (x.f0 == 15) = false := beq_eq_false_iff_ne.2 (by omega)
            have z4 : (x.f0 == 16) = true := beq_iff_eq.2 k2
            clear k1 k2
            go_upto_region 10 with fail
            refine HS.out.mono ?_
            rintro e w2 ⟨rfl, hb2, ho2⟩
            have HBT2 := Aside0.mk (show Bt w0 b (X ++ rdX (l.take i) ++ rdH x) w2 from by rw [HHE.out]; exact hb2)
            have HO2 := Aside0.mk (HO1.out.trans ho2)
            have HBK2 := Aside0.mk (bt_kept ho2 HBK.out HOB.out)
            have e6 := (ndAt HBK2.out).d6
            clear hb2 ho2 HS d0 d1 d2 d3 d4 d5 d6
            go_upto_region 10 with fail
            go_wp2_with fail
            refine (HREST.out _ HBT2.out).mono ?_
            rintro e w3 hq
            have HB3 := Aside0.mk (show Bt w0 b (X ++ rdX (l.take (i + 1))) w3 from by rw [HST.out]; have := hq.bt; simpa only [List.append_assoc] using this)
            have HO3 := Aside0.mk (HO2.out.trans hq.oth)
            obtain rfl := hq.ret
            clear hq
            go_wp2
            go_roundw
            case rel => exact ⟨i + 1, by simp, by omega, HB3, HO3⟩
            case measure => simp [intOf]; omega
        · have z3 : (x.f0 == 15) = false := beq_eq_false_iff_ne.2 (by omega)
          have z4 : (x.f0 == 16) = false := beq_eq_false_iff_ne.2 (by omega)
          have hH : rdH x = [] := by unfold rdH; rw [if_neg k1, if_neg k2]
          have HBT2 := Aside0.mk (show Bt w0 b (X ++ rdX (l.take i) ++ rdH x) w1 from by rw [hH, List.append_nil]; exact HBT1.out)
          have HO2 := HO1
          have HBK2 := HBK
          have e6 := d6
          clear hH k1 k2
          go_upto_region 10 with fail
          go_wp2_with fail
          refine (HREST.out _ HBT2.out).mono ?_
          rintro e w3 hq
          have HB3 := Aside0.mk (show Bt w0 b (X ++ rdX (l.take (i + 1))) w3 from by rw [HST.out]; have := hq.bt; simpa only [List.append_assoc] using this)
          have HO3 := Aside0.mk (HO2.out.trans hq.oth)
          obtain rfl := hq.ret
          clear hq
          go_wp2
          go_roundw
          case rel => exact ⟨i + 1, by simp, by omega, HB3, HO3⟩
          case measure => simp [intOf]; omega
    · have q1 : decide ((i : Int) < (l.length : Int)) = false := decide_eq_false (by omega)
      have htk : l.take i = l := List.take_of_length_le (by omega)
      rw [htk] at HB
      clear htk
      go_wp2
      go_end0
      rw [← HR.out]
      exact ⟨rfl, HB.out, HO.out⟩
theorem plain_all : ∀ N, PlC N := by
  intro N
  induction N with
  | zero => exact fun l h => absurd h (Nat.not_lt_zero _)
  | succ N ih => exact plain_step N ih
set_option maxHeartbeats 1000000 in
set_option maxRecDepth 100000 in
/-- inline.Plain. -/
theorem Plain_calls {w : World} {A : Option Addr} {c : Nat} {l : List Nd} (hq : Rq w A c l) :
    Calls Tryz.prog 35 #[.slice A l.length c] w fun e w' => e = .returned (.string (B (rdX l))) ∧ Below w.heap.size w w' := by
  have hbt : Bt w w.heap.size [] (w.alloc (.cells #[.pointer none, .slice none 0 0] 43)) := ⟨(Below.refl _ w).alloc (Nat.le_refl _) _, Lib.IsBuilderF.of (Lib.fresh_isBuilder _ _ w)⟩
  have HP := Aside0.mk (plain_all (wt l + 1) l (Nat.lt_succ_self _) w w.heap.size [] _ A c hq hbt (by have := hq.lim; simp; omega))
  clear hbt hq
  go_enter Tryz.func35, Tryz.ntmps35
  go_wp2_with fail
  refine HP.out.mono ?_
  rintro e w2 hq
  have hb := hq.bt
  rw [List.nil_append] at hb
  have HB := Aside0.mk hb
  have HO := Aside0.mk (Tryz.Builder_String_any_k w.heap.size w.heap.size (rdX l) w2 hb.isb hb.bel.size)
  obtain rfl := hq.ret
  clear hq hb HP
  go_wp2_with fail
  refine HO.out.mono ?_
  rintro e w3 ⟨rfl, _, hb3, _⟩
  have HB3 := Aside0.mk (HB.out.bel.trans hb3)
  clear hb3
  go_wp2
  go_ret
  exact ⟨rfl, HB3.out⟩
end Go.Proofs.YtjcfjgcnkbbgmaaGreatDoor.PA

namespace Go.Proofs.YtjcfjgcnkbbgmaaGreatDoor.PA
open Go.RowKit Go.Sort Go.Proofs.YtjcfjgcnkbbgmaaGreatDoor.Pl Go.Proofs.YtjcfjgcnkbbgmaaGreatDoorW.PrintWords Go.Proofs.YtjcfjgcnkbbgmaaGreatDoorW.PrintLast Go.Proofs.YtjcfjgcnkbbgmaaGreatDoorW.PrintMore
set_option linter.unusedVariables false

/-- The writer, a node in a block of its own, and what the caller has. -/
structure Cx (w0 w : World) (b : Nat) (m : Int) (X : List UInt8) (o : Nat) (x : Nd) (A6 : Option Addr) (c6 : Nat) (W : World) : Prop where
  wt : Wt w0 b m X W
  blk : W.heap[o]? = some (.cells (ncs x A6 c6) 26 (0, 0))
  oth : Lib.OthersKept 5 (some b) w W
section
variable {w0 w W W' : World} {b : Nat} {m : Int} {X T : List UInt8} {o : Nat} {x : Nd} {A6 : Option Addr} {c6 : Nat} {e : Ending}
theorem Cx.step (h : Cx w0 w b m X o x A6 c6 W) (hb : Below W.heap.size W W') : Cx w0 w b m X o x A6 c6 W' := ⟨h.wt.step hb, (hb.block o (Array.getElem?_eq_some_iff.1 h.blk).1).trans h.blk, h.oth.trans (oth_step hb)⟩
theorem Cx.drew (h : Cx w0 w b m X o x A6 c6 W) : Cx w0 w b m X o x A6 c6 W.drew := h.step ⟨rfl, rfl, rfl, Nat.le_refl _, fun _ _ => rfl⟩
theorem Cx.drewN (h : Cx w0 w b m X o x A6 c6 W) (n : Nat) : Cx w0 w b m X o x A6 c6 (W.drewN n) := h.step ⟨rfl, rfl, rfl, Nat.le_refl _, fun _ _ => rfl⟩
theorem Cx.alloc (h : Cx w0 w b m X o x A6 c6 W) (O : Obj) : Cx w0 w b m X o x A6 c6 (W.alloc O) := h.step (below_alloc (Below.refl _ _) _)
theorem Cx.wrote (h : Cx w0 w b m X o x A6 c6 W) (k : Wrote w0 b m X T W e W') : Cx w0 w b m (X ++ T) o x A6 c6 W' := ⟨k.wt, nd_kept k.oth h.blk h.wt, h.oth.trans k.oth⟩
theorem Cx.nd (h : Cx w0 w b m X o x A6 c6 W) : NdAt o x A6 c6 W := ndAt h.blk
theorem Cx.k126 (h : Cx w0 w b m X o x A6 c6 W) : W.cell? ⟨o, 1, none⟩ = some (.string x.f1) ∧ W.cell? ⟨o, 2, none⟩ = some (.string x.f2) ∧ W.cell? ⟨o, 6, none⟩ = some (.slice A6 x.f6.length c6) := ⟨h.nd.d1, h.nd.d2, h.nd.d6⟩
theorem Rq.go {A : Option Addr} {c : Nat} {l : List Nd} (h : Rq w0 A c l) (hb : Below w0.heap.size w0 W) : Rq W A c l := ⟨Kd.C_below h.row hb, h.cap, h.ok, h.lim⟩
end
theorem inl1_eta (m : Int) (x : Nd) : inl1 m x =
    if x.f0 = 18 then tagd [101, 109] [] (inl m x.f6)
    else if x.f0 = 19 then tagd [115, 116, 114, 111, 110, 103] [] (inl m x.f6)
    else if x.f0 = 23 then tagd [100, 101, 108] [] (inl m x.f6)
    else if x.f0 = 20 then tagd [97] ([32, 104, 114, 101, 102, 61, 34] ++ hrf x.f1.data.toList ++ [34] ++ atr [116, 105, 116, 108, 101] (htm x.f2.data.toList)) (inl m x.f6)
    else if x.f0 = 21 then [60, 105, 109, 103, 32, 115, 114, 99, 61, 34] ++ hrf x.f1.data.toList ++ [34, 32, 97, 108, 116, 61, 34] ++ htm (rdX x.f6) ++ [34] ++ atr [116, 105, 116, 108, 101] (htm x.f2.data.toList) ++ [32, 47, 62]
    else leafT m x.f0 x.f1.data.toList x.f3 x.f4 x.f5 := by cases x; rw [inl1]
def InlC (N : Nat) : Prop := ∀ (l : List Nd), wt l < N → ∀ (w0 : World) (b : Nat) (m : Int) (X : List UInt8) (w : World) (A : Option Addr) (c : Nat), LaidW w0 → Rq w0 A c l → Wt w0 b m X w → X.length + 300 * wt l ≤ 70368744177664 →
  Calls Tryz.prog 19 #[.pointer (some ⟨b, 0, none⟩), .slice A l.length c] w (Wrote w0 b m X (inl m l) w)
set_option maxHeartbeats 8000000 in
set_option maxRecDepth 100000 in
theorem inl_step (N : Nat) (IH : InlC N) : InlC (N + 1) := by
  intro l hwl w0 b m X w A c hLd hq hwt0 hl
  have HLD := Aside0.mk hLd
  have HQ := Aside0.mk hq
  have HW := Aside0.mk hwt0
  have HIH := Aside0.mk IH
  have hlen := hq.len
  obtain ⟨R, hR⟩ : ∃ R, Wrote w0 b m X (inl m l) w = R := ⟨_, rfl⟩
  have HR := Aside0.mk hR
  have HL := Aside0.mk hl
  have HWL := Aside0.mk hwl
  rw [hR]
  clear hq hwt0 IH hR hl hwl hLd
  go_enter Tryz.func19, Tryz.ntmps19
  go_wp2_with fail
  go_loopw [5, 8] (fun v5 v8 wr => ∃ i : Nat, v8 = .int .i64 (i : Int) ∧ i ≤ l.length ∧ Aside0 (Wt w0 b m (X ++ inl m (l.take i)) wr) ∧ Aside0 (Lib.OthersKept 5 (some b) w wr)) (fun _ v8 _ => l.length - (intOf v8).toNat)
  case atStart => exact ⟨0, rfl, by omega, ⟨by rw [List.take_zero, inl, List.append_nil]; exact HW.out⟩, ⟨Lib.OthersKept.refl _ _ _⟩⟩
  case round =>
    obtain ⟨i, rfl, hi, HB, HO⟩ := hrel
    by_cases hlt : i < l.length
    · have q1 : decide ((i : Int) < (l.length : Int)) = true := decide_eq_true (by omega)
      have p0 := eq_true (show 0 ≤ (i : Int) from by omega)
      have p1 := eq_true (show (i : Int) < (l.length : Int) from by omega)
      obtain ⟨ad, A6, c6, e1, hq6, hel⟩ := HQ.out.at' hlt
      cases e1
      have hwt := HQ.out.wt_lt hlt
      have hsum := wt_take_at hlt
      have hr1 := inl_len m (l.take i) (okl_take HQ.out.ok i)
      have hst := inl_take m hlt
      have hok := okl_mem HQ.out.ok (List.getElem_mem hlt)
      obtain ⟨x, hx⟩ : ∃ x, l[i] = x := ⟨_, rfl⟩
      rw [hx] at hq6 hel hwt hst hsum hok
      have hwx := wt1_eta x
      obtain ⟨⟨hn, hm, hs1, hs2⟩, hok6⟩ := ok1_eta hok
      obtain ⟨x0, x1, x2, x3, x4, x5, x6⟩ := hel wr HB.out.bel
      obtain ⟨X1, hX1⟩ : ∃ X1, X ++ inl m (l.take i) = X1 := ⟨_, rfl⟩
      have hlb : X1.length + 300 * (1 + x.f1.size + x.f2.size + wt x.f6) ≤ 70368744177664 := by
        have := HL.out
        rw [← hX1, List.length_append]
        omega
      rw [hX1] at HB
      have HLB := Aside0.mk hlb
      have HQ6 := Aside0.mk hq6
      have HINX := Aside0.mk (fun (X' : List UInt8) (W : World) (hW : Wt w0 b m X' W) (hl' : X'.length + 300 * wt x.f6 ≤ 70368744177664) => HIH.out x.f6 (by have := HWL.out; omega) w0 b m X' W A6 c6 HLD.out hq6 hW hl')
      have HST := Aside0.mk (show X ++ inl m (l.take (i + 1)) = X1 ++ inl1 m x from by rw [hst, ← hX1, List.append_assoc])
      have HN := Aside0.mk hn
      have HM := Aside0.mk hm
      have HS1 := Aside0.mk hs1
      have HS2 := Aside0.mk hs2
      clear hx hel hwt hsum hr1 hst hq6 hwx hlb hX1 hok hok6 hn hm hs1 hs2
      obtain ⟨o, ho⟩ : ∃ o, wr.heap.size = o := ⟨_, rfl⟩
      have hbk := heap_alloc_new wr (.cells (ncs x A6 c6) 26)
      have hcx : Cx w0 w b m X1 wr.heap.size x A6 c6 (wr.alloc (.cells (ncs x A6 c6) 26)) := ⟨HB.out.step (below_alloc (Below.refl _ _) _), hbk, HO.out.alloc _⟩
      obtain ⟨w1, hw1⟩ : ∃ w1, wr.alloc (.cells (ncs x A6 c6) 26) = w1 := ⟨_, rfl⟩
      rw [hw1, ho] at hcx
      have HC1 := Aside0.mk hcx
      obtain ⟨d0, d1, d2, d3, d4, d5, d6⟩ := hcx.nd
      clear hbk hcx HB HO
      have HE := Aside0.mk (inl1_eta m x)
      by_cases k18 : x.f0 = 18
      · have z18 : (x.f0 == 18) = true := beq_iff_eq.2 k18
        have HT := Aside0.mk (show inl1 m x = tagd [101, 109] [] (inl m x.f6) from by rw [HE.out, if_pos k18])
        have HIN := Aside0.mk (in_calls HC1.out.wt [101, 109] [] x.f6 A6 c6 HINX.out HQ6.out.ok (by have := HLB.out; simp only [List.length_cons, List.length_nil]; omega))
        clear k18
        go_wp2_with fail
        refine HIN.out.mono ?_
        rintro e w2 hq
        have HF := Aside0.mk (show Cx w0 w b m (X ++ inl m (l.take (i + 1))) o x A6 c6 w2 from by rw [HST.out, HT.out]; exact HC1.out.wrote hq)
        obtain rfl := hq.ret
        clear hq HIN HC1 d0 d1 d2 d3 d4 d5 d6
        go_wp2
        go_roundw
        case rel => exact ⟨i + 1, by simp, by omega, ⟨HF.out.wt⟩, ⟨HF.out.oth⟩⟩
        case measure => simp [intOf]; omega
      · have z18 : (x.f0 == 18) = false := beq_eq_false_iff_ne.2 k18
        by_cases k19 : x.f0 = 19
        · have z19 : (x.f0 == 19) = true := beq_iff_eq.2 k19
          have HT := Aside0.mk (show inl1 m x = tagd [115, 116, 114, 111, 110, 103] [] (inl m x.f6) from by rw [HE.out, if_neg k18, if_pos k19])
          have HIN := Aside0.mk (in_calls HC1.out.wt [115, 116, 114, 111, 110, 103] [] x.f6 A6 c6 HINX.out HQ6.out.ok (by have := HLB.out; simp only [List.length_cons, List.length_nil]; omega))
          clear k18 k19
          go_wp2_with fail
          refine HIN.out.mono ?_
          rintro e w2 hq
          have HF := Aside0.mk (show Cx w0 w b m (X ++ inl m (l.take (i + 1))) o x A6 c6 w2 from by rw [HST.out, HT.out]; exact HC1.out.wrote hq)
          obtain rfl := hq.ret
          clear hq HIN HC1 d0 d1 d2 d3 d4 d5 d6
          go_wp2
          go_roundw
          case rel => exact ⟨i + 1, by simp, by omega, ⟨HF.out.wt⟩, ⟨HF.out.oth⟩⟩
          case measure => simp [intOf]; omega
        · have z19 : (x.f0 == 19) = false := beq_eq_false_iff_ne.2 k19
          by_cases k23 : x.f0 = 23
          · have z23 : (x.f0 == 23) = true := beq_iff_eq.2 k23
            have HT := Aside0.mk (show inl1 m x = tagd [100, 101, 108] [] (inl m x.f6) from by rw [HE.out, if_neg k18, if_neg k19, if_pos k23])
            have HIN := Aside0.mk (in_calls HC1.out.wt [100, 101, 108] [] x.f6 A6 c6 HINX.out HQ6.out.ok (by have := HLB.out; simp only [List.length_cons, List.length_nil]; omega))
            clear k18 k19 k23
            go_wp2_with fail
            refine HIN.out.mono ?_
            rintro e w2 hq
            have HF := Aside0.mk (show Cx w0 w b m (X ++ inl m (l.take (i + 1))) o x A6 c6 w2 from by rw [HST.out, HT.out]; exact HC1.out.wrote hq)
            obtain rfl := hq.ret
            clear hq HIN HC1 d0 d1 d2 d3 d4 d5 d6
            go_wp2
            go_roundw
            case rel => exact ⟨i + 1, by simp, by omega, ⟨HF.out.wt⟩, ⟨HF.out.oth⟩⟩
            case measure => simp [intOf]; omega
          · have z23 : (x.f0 == 23) = false := beq_eq_false_iff_ne.2 k23
            by_cases k20 : x.f0 = 20
            · have z20 : (x.f0 == 20) = true := beq_iff_eq.2 k20
              have hHr := (hrf_len x.f1.data.toList).2
              have hHt := (htm_len x.f2.data.toList).2
              have hAt := atr_len [116, 105, 116, 108, 101] (htm x.f2.data.toList)
              have hx1 : x.f1.data.toList.length = x.f1.size := by rw [Array.length_toList]; rfl
              have hx2 : x.f2.data.toList.length = x.f2.size := by rw [Array.length_toList]; rfl
              have hT := HE.out
              rw [if_neg k18, if_neg k19, if_neg k23, if_pos k20] at hT
              have HHR := Aside0.mk (fun W => href_b x.f1 HS1.out W)
              have HHT := Aside0.mk (fun W => html_b x.f2 (Nat.le_trans HS2.out (by decide)) W)
              obtain ⟨hr, hhr⟩ : ∃ a, hrf x.f1.data.toList = a := ⟨_, rfl⟩
              obtain ⟨ht, hht⟩ : ∃ a, htm x.f2.data.toList = a := ⟨_, rfl⟩
              rw [hhr] at hHr hT
              rw [hht] at hHt hAt hT
              simp only [hhr] at HHR
              simp only [hht] at HHT
              have HAT := Aside0.mk (fun W => attr_calls [116, 105, 116, 108, 101] ht (by decide) (by have := HS2.out; omega) W)
              obtain ⟨at', hat⟩ : ∃ a, atr [116, 105, 116, 108, 101] ht = a := ⟨_, rfl⟩
              rw [hat] at hAt hT
              simp only [hat] at HAT
              simp only [List.length_cons, List.length_nil] at hAt
              have hcat : (⟨#[32, 104, 114, 101, 102, 61, 34]⟩ : ByteArray) ++ B hr ++ (⟨#[34]⟩ : ByteArray) ++ B at' = B ([32, 104, 114, 101, 102, 61, 34] ++ hr ++ [34] ++ at') := by
                show B [32, 104, 114, 101, 102, 61, 34] ++ B hr ++ B [34] ++ B at' = _
                simp only [B_ap]
              have HT := Aside0.mk hT
              have HIN := Aside0.mk (fun (W : World) (hW : Wt w0 b m X1 W) => (show Calls Tryz.prog 30 #[.pointer (some ⟨b, 0, none⟩), .string ⟨#[97]⟩, .string ((⟨#[32, 104, 114, 101, 102, 61, 34]⟩ : ByteArray) ++ B hr ++ (⟨#[34]⟩ : ByteArray) ++ B at'), .slice A6 x.f6.length c6] W (Wrote w0 b m X1 (tagd [97] ([32, 104, 114, 101, 102, 61, 34] ++ hr ++ [34] ++ at') (inl m x.f6)) W) from by
                rw [hcat]
                exact in_calls hW [97] _ x.f6 A6 c6 HINX.out HQ6.out.ok (by have := HLB.out; have := HS1.out; have := HS2.out; simp only [List.length_append, List.length_cons, List.length_nil]; omega)))
              have sr := B_size hr
              have sa := B_size at'
              have b1 := HS1.out
              have b2 := HS2.out
              have y1 : ¬ 9223372036854775807 < 7 + (B hr).size := by omega
              have y2 : ¬ 9223372036854775807 < 7 + (B hr).size + 1 := by omega
              have y3 : ¬ 9223372036854775807 < 7 + (B hr).size + 1 + (B at').size := by omega
              clear k18 k19 k23 k20 hHr hHt hAt hx1 hx2 hT hhr hht hat hcat sr sa b1 b2
              go_upto_region 12 with fail
              go_region_held3 (fun W => W.cell? ⟨o, 1, none⟩ = some (.string x.f1) ∧ W.cell? ⟨o, 2, none⟩ = some (.string x.f2) ∧ W.cell? ⟨o, 6, none⟩ = some (.slice A6 x.f6.length c6)) (first | exact HC5.out.k126 | exact HC4.out.k126 | exact HC3.out.k126 | exact HC2.out.k126 | exact HC1.out.k126 | exact HC1.out.drew.k126 | exact (HC1.out.drewN _).k126)
                (first
                | (go_at_call 31; refine (HHR.out _).mono ?_; rintro e v1 ⟨rfl, hb⟩; have HC2 := Aside0.mk (show Cx w0 w b m X1 o x A6 c6 v1 from by first | exact HC1.out.step hb | exact HC1.out.drew.step hb | exact (HC1.out.drewN _).step hb); clear hb)
                | (go_at_call 33; refine (HHT.out _).mono ?_; rintro e v2 ⟨rfl, hb⟩; have HC3 := Aside0.mk (HC2.out.step hb); clear hb)
                | (go_at_call 32; refine (HAT.out _).mono ?_; rintro e v3 ⟨rfl, rfl⟩; have HC4 := HC3)
                | (go_at_call 30; refine (HIN.out _ HC4.out.wt).mono ?_; rintro e v5 hq; have HC5 := Aside0.mk (HC4.out.wrote hq); obtain rfl := hq.ret; clear hq))
              all_goals
                have HF := Aside0.mk (show Cx w0 w b m (X ++ inl m (l.take (i + 1))) o x A6 c6 _ from by rw [HST.out, HT.out]; first | exact HC5.out | exact HC5.out.drew)
                clear HC1 HC2 HC3 HC4 HC5
                go_wp2
                go_roundw
                case rel => exact ⟨i + 1, by simp, by omega, ⟨HF.out.wt⟩, ⟨HF.out.oth⟩⟩
                case measure => simp [intOf]; omega
            · have z20 : (x.f0 == 20) = false := beq_eq_false_iff_ne.2 k20
              by_cases k21 : x.f0 = 21
              · have z21 : (x.f0 == 21) = true := beq_iff_eq.2 k21
                have hHr := (hrf_len x.f1.data.toList).2
                have hHt := (htm_len x.f2.data.toList).2
                have hHp := (htm_len (rdX x.f6)).2
                have hRd := rdX_len x.f6
                have hAt := atr_len [116, 105, 116, 108, 101] (htm x.f2.data.toList)
                have hx1 : x.f1.data.toList.length = x.f1.size := by rw [Array.length_toList]; rfl
                have hx2 : x.f2.data.toList.length = x.f2.size := by rw [Array.length_toList]; rfl
                have hT := HE.out
                rw [if_neg k18, if_neg k19, if_neg k23, if_neg k20, if_pos k21] at hT
                have HHR := Aside0.mk (fun W => href_b x.f1 HS1.out W)
                have HHT := Aside0.mk (fun W => html_b x.f2 (Nat.le_trans HS2.out (by decide)) W)
                have HPL := Aside0.mk (fun (W : World) (hW : Below w0.heap.size w0 W) => Plain_calls (HQ6.out.go hW))
                have HHP := Aside0.mk (fun W => html_walk (rdX x.f6) (Nat.le_trans hRd HQ6.out.lim) W)
                obtain ⟨hr, hhr⟩ : ∃ a, hrf x.f1.data.toList = a := ⟨_, rfl⟩
                obtain ⟨ht, hht⟩ : ∃ a, htm x.f2.data.toList = a := ⟨_, rfl⟩
                obtain ⟨rd, hrd⟩ : ∃ a, rdX x.f6 = a := ⟨_, rfl⟩
                rw [hrd] at hHp hT hRd
                simp only [hrd] at HPL HHP
                obtain ⟨hp, hhp⟩ : ∃ a, htm rd = a := ⟨_, rfl⟩
                rw [hhr] at hHr hT
                rw [hht] at hHt hAt hT
                rw [hhp] at hHp hT
                simp only [hhr] at HHR
                simp only [hht] at HHT
                simp only [hhp] at HHP
                have HAT := Aside0.mk (fun W => attr_calls [116, 105, 116, 108, 101] ht (by decide) (by have := HS2.out; omega) W)
                obtain ⟨at', hat⟩ : ∃ a, atr [116, 105, 116, 108, 101] ht = a := ⟨_, rfl⟩
                rw [hat] at hAt hT
                simp only [hat] at HAT
                simp only [List.length_cons, List.length_nil] at hAt
                obtain ⟨T, hTT⟩ : ∃ T, [60, 105, 109, 103, 32, 115, 114, 99, 61, 34] ++ hr ++ [34, 32, 97, 108, 116, 61, 34] ++ hp ++ [34] ++ at' ++ [32, 47, 62] = T := ⟨_, rfl⟩
                have hTl : T.length ≤ 300 * (1 + x.f1.size + x.f2.size + wt x.f6) := by
                  rw [← hTT]
                  simp only [List.length_append, List.length_cons, List.length_nil]
                  omega
                rw [hTT] at hT
                have HT := Aside0.mk hT
                have HIN := Aside0.mk (fun (W : World) (hW : Wt w0 b m X1 W) => put_l hW [[60, 105, 109, 103, 32, 115, 114, 99, 61, 34], hr, [34, 32, 97, 108, 116, 61, 34], hp, [34], at', [32, 47, 62]] T (by rw [← hTT]; simp) (by have := HLB.out; omega) (by simp))
                clear k18 k19 k23 k20 k21 hHr hHt hAt hx1 hx2 hT hhr hht hat hHp hRd hrd hhp hTT hTl
                go_upto_region 14 with fail
                go_region_held3 (fun W => W.cell? ⟨o, 1, none⟩ = some (.string x.f1) ∧ W.cell? ⟨o, 2, none⟩ = some (.string x.f2) ∧ W.cell? ⟨o, 6, none⟩ = some (.slice A6 x.f6.length c6)) (first | exact HC7.out.k126 | exact (HC6.out.alloc _).k126 | exact HC6.out.k126 | exact HC5.out.k126 | exact HC4.out.k126 | exact HC3.out.k126 | exact HC2.out.k126 | exact HC1.out.k126 | exact HC1.out.drew.k126 | exact (HC1.out.drewN _).k126)
                  (first
                  | (go_at_call 31; refine (HHR.out _).mono ?_; rintro e v1 ⟨rfl, hb⟩; have HC2 := Aside0.mk (show Cx w0 w b m X1 o x A6 c6 v1 from by first | exact HC1.out.step hb | exact HC1.out.drew.step hb | exact (HC1.out.drewN _).step hb); clear hb)
                  | (go_at_call 35; refine (HPL.out _ HC2.out.wt.bel).mono ?_; rintro e v2 ⟨rfl, hb⟩; have HC3 := Aside0.mk (HC2.out.step hb); clear hb)
                  | (go_at_call 33; refine (HHP.out _).mono ?_; rintro e v3 ⟨rfl, hb⟩; have HC4 := Aside0.mk (HC3.out.step hb); clear hb)
                  | (go_at_call 33; refine (HHT.out _).mono ?_; rintro e v4 ⟨rfl, hb⟩; have HC5 := Aside0.mk (HC4.out.step hb); clear hb)
                  | (go_at_call 32; refine (HAT.out _).mono ?_; rintro e v5 ⟨rfl, rfl⟩; have HC6 := HC5)
                  | (go_at_call 34; refine (HIN.out _ HC6.out.wt).mono ?_; rintro e v6 hq; have HC7 := Aside0.mk (HC6.out.wrote hq); obtain rfl := hq.ret; clear hq))
                all_goals
                  have HF := Aside0.mk (show Cx w0 w b m (X ++ inl m (l.take (i + 1))) o x A6 c6 _ from by rw [HST.out, HT.out]; first | exact HC7.out | exact HC7.out.drew)
                  clear HC1 HC2 HC3 HC4 HC5 HC6 HC7
                  go_wp2
                  go_roundw
                  case rel => exact ⟨i + 1, by simp, by omega, ⟨HF.out.wt⟩, ⟨HF.out.oth⟩⟩
                  case measure => simp [intOf]; omega
              · have z21 : (x.f0 == 21) = false := beq_eq_false_iff_ne.2 k21
                have HT := Aside0.mk (show inl1 m x = leafT m x.f0 x.f1.data.toList x.f3 x.f4 x.f5 from by rw [HE.out, if_neg k18, if_neg k19, if_neg k23, if_neg k20, if_neg k21])
                have HIN := Aside0.mk (leaf_calls HC1.out.wt HLD.out x A6 c6 HS1.out HN.out HM.out (by
                  have h1 := leafT_len m x.f0 x.f1.data.toList x.f5 HN.out HM.out
                  have hx1 : x.f1.data.toList.length = x.f1.size := by rw [Array.length_toList]; rfl
                  have := HLB.out
                  omega))
                clear k18 k19 k23 k20 k21
                go_wp2_with fail
                refine HIN.out.mono ?_
                rintro e w2 hq
                have HF := Aside0.mk (show Cx w0 w b m (X ++ inl m (l.take (i + 1))) o x A6 c6 w2 from by rw [HST.out, HT.out]; exact HC1.out.wrote hq)
                obtain rfl := hq.ret
                clear hq HIN HC1 d0 d1 d2 d3 d4 d5 d6
                go_wp2
                go_roundw
                case rel => exact ⟨i + 1, by simp, by omega, ⟨HF.out.wt⟩, ⟨HF.out.oth⟩⟩
                case measure => simp [intOf]; omega
    · have q1 : decide ((i : Int) < (l.length : Int)) = false := decide_eq_false (by omega)
      have htk : l.take i = l := List.take_of_length_le (by omega)
      rw [htk] at HB
      clear htk
      go_wp2
      go_end0
      rw [← HR.out]
      exact ⟨rfl, HB.out, HO.out⟩
theorem inl_all : ∀ N, InlC N := by
  intro N
  induction N with
  | zero => exact fun l h => absurd h (Nat.not_lt_zero _)
  | succ N ih => exact inl_step N ih
end Go.Proofs.YtjcfjgcnkbbgmaaGreatDoor.PA

namespace Go.Proofs.YtjcfjgcnkbbgmaaGreatDoor.PA
open Go.RowKit Go.Sort Go.Proofs.YtjcfjgcnkbbgmaaGreatDoor.Pl Go.Proofs.YtjcfjgcnkbbgmaaGreatDoorW.PrintWords Go.Proofs.YtjcfjgcnkbbgmaaGreatDoorW.PrintLast Go.Proofs.YtjcfjgcnkbbgmaaGreatDoorW.PrintMore
set_option linter.unusedVariables false

theorem inl_calls {w0 : World} {b : Nat} {m : Int} {X : List UInt8} {w : World} {A : Option Addr} {c : Nat} {l : List Nd} (hLd : LaidW w0) (hq : Rq w0 A c l) (h : Wt w0 b m X w) (hl : X.length + 300 * wt l ≤ 70368744177664) :
    Calls Tryz.prog 19 #[.pointer (some ⟨b, 0, none⟩), .slice A l.length c] w (Wrote w0 b m X (inl m l) w) := inl_all (wt l + 1) l (Nat.lt_succ_self _) w0 b m X w A c hLd hq h hl
theorem Rq.take {w0 : World} {A : Option Addr} {c n : Nat} {l : List Nd} (h : Rq w0 A c l) (hn : n ≤ l.length) : Rq w0 A c (l.take n) :=
  ⟨Kd.C_take h.row hn, Nat.le_trans (by rw [List.length_take]; omega) h.cap, okl_take h.ok n, Nat.le_trans (wt_take l n) h.lim⟩
theorem Rq.drop {w0 : World} {A : Option Addr} {c n : Nat} {l : List Nd} (h : Rq w0 A c l) (hn : n ≤ l.length) : Rq w0 (if c = n then A else A.map (·.add (n * 7))) (c - n) (l.drop n) :=
  ⟨Kd.C_drop h.row hn h.cap, by have := h.cap; rw [List.length_drop]; omega, okl_drop h.ok n, Nat.le_trans (wt_drop l n) h.lim⟩
theorem Rq.one {w0 : World} {ad : Addr} {c i : Nat} {l : List Nd} (h : Rq w0 (some ad) c l) (hi : i < l.length) : Rq w0 (some (ad.add (i * 7))) (c - i) [l[i]] := by
  have h1 := (h.drop (Nat.le_of_lt hi)).take (n := 1) (by rw [List.length_drop]; omega)
  have hc := h.cap
  rw [if_neg (by omega)] at h1
  have e : (l.drop i).take 1 = [l[i]] := by rw [List.drop_eq_getElem_cons hi]; rfl
  rw [e] at h1
  exact h1
end Go.Proofs.YtjcfjgcnkbbgmaaGreatDoor.PA

namespace Go.Proofs.YtjcfjgcnkbbgmaaGreatDoor.PA
open Go.RowKit Go.Sort Go.Proofs.YtjcfjgcnkbbgmaaGreatDoor.Pl Go.Proofs.YtjcfjgcnkbbgmaaGreatDoorW.PrintWords Go.Proofs.YtjcfjgcnkbbgmaaGreatDoorW.PrintLast Go.Proofs.YtjcfjgcnkbbgmaaGreatDoorW.PrintMore
set_option linter.unusedVariables false

theorem wt_new (m : Int) (w : World) : Wt w w.heap.size m [] (w.alloc (.cells #[.pointer none, .slice none 0 0, .int .i64 m] 53)) :=
  ⟨(Below.refl _ w).alloc (Nat.le_refl _) _, Nat.le_refl _, _, _, .inl rfl, heap_alloc_new w _, by
    refine ⟨rfl, .inl ⟨rfl, rfl⟩⟩⟩
set_option maxHeartbeats 1000000 in
set_option maxRecDepth 100000 in
theorem Inlines_calls {w : World} {A : Option Addr} {c : Nat} {l : List Nd} (m : Int) (hLd : LaidW w) (hq : Rq w A c l) :
    Calls Tryz.prog 8 #[.slice A l.length c, .int .i64 m] w fun e w' => e = .returned (.string (B (inl m l))) ∧ Below w.heap.size w w' := by
  have HP := Aside0.mk (inl_calls hLd hq (wt_new m w) (by have := hq.lim; simp; omega))
  clear hq hLd
  go_enter Tryz.func8, Tryz.ntmps8
  go_wp2_with fail
  refine HP.out.mono ?_
  rintro e w2 hq
  have hw := hq.wt
  rw [List.nil_append] at hw
  have HO := Aside0.mk (wout hw)
  obtain rfl := hq.ret
  clear hq hw HP
  go_wp2_with fail
  refine HO.out.mono ?_
  rintro e w3 ⟨rfl, hb3⟩
  have HB3 := Aside0.mk hb3
  clear hb3
  go_wp2
  go_ret
  exact ⟨rfl, HB3.out⟩
open Classical in
noncomputable def render_Inlines.f (l0 : List S26) (a1 : Int) : Option ByteArray := if okl l0 ∧ wt l0 ≤ 268435456 then some (B (inl a1 l0)) else none
theorem render_Inlines.calls (A0 : Option Addr) (c0 : Nat) (l0 : List S26) (a1 : Int) (r : ByteArray) (w : World) (hLd : LaidW w) (hr0 : Kd.C k26 w A0 l0.length l0) (hc0 : l0.length ≤ c0) (h : render_Inlines.f l0 a1 = some r) :
    Calls Tryz.prog 8 #[.slice A0 l0.length c0, .int .i64 a1] w fun e w' => e = .returned (.string r) ∧ Below w.heap.size w w' := by
  unfold render_Inlines.f at h
  split at h
  · rename_i hc
    obtain rfl := Option.some.inj h
    exact Inlines_calls a1 hLd ⟨hr0, hc0, hc.1, hc.2⟩
  · cases h
end Go.Proofs.YtjcfjgcnkbbgmaaGreatDoor.PA

namespace Go.Proofs.YtjcfjgcnkbbgmaaGreatDoor.PA
open Go.RowKit Go.Proofs.YtjcfjgcnkbbgmaaGreatDoorW.PrintWords Go.Proofs.YtjcfjgcnkbbgmaaGreatDoorW.PrintLast Go.Proofs.YtjcfjgcnkbbgmaaGreatDoorW.PrintMore
attribute [local go_sem] max2_int min2_int max_two min_two max_three min_three max_four min_four   -- for this text's walks alone
set_option linter.unusedVariables false
set_option linter.unusedSimpArgs false



end Go.Proofs.YtjcfjgcnkbbgmaaGreatDoor.PA

namespace Go.Proofs.YtjcfjgcnkbbgmaaGreatDoor.PA
open Go.RowKit Go.Proofs.YtjcfjgcnkbbgmaaGreatDoorW.PrintWords Go.Proofs.YtjcfjgcnkbbgmaaGreatDoorW.PrintLast Go.Proofs.YtjcfjgcnkbbgmaaGreatDoorW.PrintMore
attribute [local go_sem] max2_int min2_int max_two min_two max_three min_three max_four min_four   -- for this text's walks alone
set_option linter.unusedVariables false
set_option linter.unusedSimpArgs false

/-! ### incipitlaw21_awake: function 4 -/
def incipitlaw21_awake.f (k : Nat)  : Option (Bool) := (tags_Read.f k (⟨#[60, 104, 49, 32, 105, 100, 61, 34, 120, 34, 62, 97]⟩ : ByteArray)).bind fun bt159 => ((tags_Check.f k (⟨#[60, 112, 62, 97, 60, 98, 114, 32, 47, 62, 98, 60, 47, 112, 62]⟩ : ByteArray)).bind fun t167 => (if t167 = true then ((tags_Check.f k (⟨#[60, 112, 62]⟩ : ByteArray)).bind fun t168 => (if t168 = true then (none) else ((tags_Check.f k (⟨#[97, 60, 98]⟩ : ByteArray)).bind fun t169 => (if t169 = true then (none) else (if bt159.2.2.2.2 = 11 then (if bt159.1.toList = ([104, 49] : List UInt8) then (if (bt159.2.2.2.1.length : Int) = 1 then ((tags_Ids.f k (⟨#[60, 104, 49, 32, 105, 100, 61, 34, 120, 34, 62]⟩ : ByteArray)).bind fun t170 => (if (t170.length : Int) = 1 then ((tags_Text.f k (⟨#[60, 98, 62, 97, 60, 47, 98, 62]⟩ : ByteArray)).bind fun t173 => (some (t173.toList == ([97] : List UInt8)))) else (none))) else (none)) else (none)) else (none)))))) else (none)))
theorem incipitlaw21_awake.mono : ∀ k, LeO (incipitlaw21_awake.f k ) (incipitlaw21_awake.f (k + 1) ) := by
  intro  k
  unfold incipitlaw21_awake.f
  repeat' first
      | (with_reducible exact tags_Check.mono _ _)
      | (with_reducible exact tags_Ids.mono _ _)
      | (with_reducible exact tags_Read.mono _ _)
      | (with_reducible exact tags_Text.mono _ _)
      | (with_reducible exact LeO.refl _)
      | (with_reducible exact LeO.none _)
      | (with_reducible refine LeO.ite ?_ ?_)
      | (with_reducible refine LeO.bind ?_ (fun _ => ?_))
      | exact tags_Check.mono _ _
      | exact tags_Ids.mono _ _
      | exact tags_Read.mono _ _
      | exact tags_Text.mono _ _
      | exact LeO.none _
      | refine LeO.ite ?_ ?_
      | refine LeO.bind ?_ (fun _ => ?_)
set_option maxHeartbeats 8000000 in
set_option maxRecDepth 100000 in
theorem incipitlaw21_awake.calls (k : Nat)  (r : Bool) (w : World) (hLd : Laid w) (h : incipitlaw21_awake.f k  = some r) :
    Calls Tryz.prog 4 #[] w fun e w' => e = .returned (.bool r) ∧ Below w.heap.size w w' := by
  have hu33 := Tryz.underlying33
  have HB := Aside0.mk (Below.refl w.heap.size w)
  have H : ((tags_Read.f k (⟨#[60, 104, 49, 32, 105, 100, 61, 34, 120, 34, 62, 97]⟩ : ByteArray)).bind fun bt159 => ((tags_Check.f k (⟨#[60, 112, 62, 97, 60, 98, 114, 32, 47, 62, 98, 60, 47, 112, 62]⟩ : ByteArray)).bind fun t167 => (if t167 = true then ((tags_Check.f k (⟨#[60, 112, 62]⟩ : ByteArray)).bind fun t168 => (if t168 = true then (none) else ((tags_Check.f k (⟨#[97, 60, 98]⟩ : ByteArray)).bind fun t169 => (if t169 = true then (none) else (if bt159.2.2.2.2 = 11 then (if bt159.1.toList = ([104, 49] : List UInt8) then (if (bt159.2.2.2.1.length : Int) = 1 then ((tags_Ids.f k (⟨#[60, 104, 49, 32, 105, 100, 61, 34, 120, 34, 62]⟩ : ByteArray)).bind fun t170 => (if (t170.length : Int) = 1 then ((tags_Text.f k (⟨#[60, 98, 62, 97, 60, 47, 98, 62]⟩ : ByteArray)).bind fun t173 => (some (t173.toList == ([97] : List UInt8)))) else (none))) else (none)) else (none)) else (none)))))) else (none)))) = some r := h
  clear h
  replace H := Option.bind_eq_some_iff.mp H
  obtain ⟨⟨t159, t160, t161, t162, t165⟩, A10, H⟩ := H
  replace H : ((tags_Check.f k (⟨#[60, 112, 62, 97, 60, 98, 114, 32, 47, 62, 98, 60, 47, 112, 62]⟩ : ByteArray)).bind fun t167 => (if t167 = true then ((tags_Check.f k (⟨#[60, 112, 62]⟩ : ByteArray)).bind fun t168 => (if t168 = true then (none) else ((tags_Check.f k (⟨#[97, 60, 98]⟩ : ByteArray)).bind fun t169 => (if t169 = true then (none) else (if t165 = 11 then (if t159.toList = ([104, 49] : List UInt8) then (if (t162.length : Int) = 1 then ((tags_Ids.f k (⟨#[60, 104, 49, 32, 105, 100, 61, 34, 120, 34, 62]⟩ : ByteArray)).bind fun t170 => (if (t170.length : Int) = 1 then ((tags_Text.f k (⟨#[60, 98, 62, 97, 60, 47, 98, 62]⟩ : ByteArray)).bind fun t173 => (some (t173.toList == ([97] : List UInt8)))) else (none))) else (none)) else (none)) else (none)))))) else (none))) = some r := H
  have A1 := Aside0.mk A10
  clear A10
  replace H := Option.bind_eq_some_iff.mp H
  obtain ⟨t167, A20, H⟩ := H
  replace H : (if t167 = true then ((tags_Check.f k (⟨#[60, 112, 62]⟩ : ByteArray)).bind fun t168 => (if t168 = true then (none) else ((tags_Check.f k (⟨#[97, 60, 98]⟩ : ByteArray)).bind fun t169 => (if t169 = true then (none) else (if t165 = 11 then (if t159.toList = ([104, 49] : List UInt8) then (if (t162.length : Int) = 1 then ((tags_Ids.f k (⟨#[60, 104, 49, 32, 105, 100, 61, 34, 120, 34, 62]⟩ : ByteArray)).bind fun t170 => (if (t170.length : Int) = 1 then ((tags_Text.f k (⟨#[60, 98, 62, 97, 60, 47, 98, 62]⟩ : ByteArray)).bind fun t173 => (some (t173.toList == ([97] : List UInt8)))) else (none))) else (none)) else (none)) else (none)))))) else (none)) = some r := H
  have A2 := Aside0.mk A20
  clear A20
  by_cases c3 : t167 = true
  · subst c3
    have H1 : ((tags_Check.f k (⟨#[60, 112, 62]⟩ : ByteArray)).bind fun t168 => (if t168 = true then (none) else ((tags_Check.f k (⟨#[97, 60, 98]⟩ : ByteArray)).bind fun t169 => (if t169 = true then (none) else (if t165 = 11 then (if t159.toList = ([104, 49] : List UInt8) then (if (t162.length : Int) = 1 then ((tags_Ids.f k (⟨#[60, 104, 49, 32, 105, 100, 61, 34, 120, 34, 62]⟩ : ByteArray)).bind fun t170 => (if (t170.length : Int) = 1 then ((tags_Text.f k (⟨#[60, 98, 62, 97, 60, 47, 98, 62]⟩ : ByteArray)).bind fun t173 => (some (t173.toList == ([97] : List UInt8)))) else (none))) else (none)) else (none)) else (none)))))) = some r := by rw [if_pos rfl] at H; exact H
    clear H
    have H := H1
    clear H1
    replace H := Option.bind_eq_some_iff.mp H
    obtain ⟨t168, A40, H⟩ := H
    replace H : (if t168 = true then (none) else ((tags_Check.f k (⟨#[97, 60, 98]⟩ : ByteArray)).bind fun t169 => (if t169 = true then (none) else (if t165 = 11 then (if t159.toList = ([104, 49] : List UInt8) then (if (t162.length : Int) = 1 then ((tags_Ids.f k (⟨#[60, 104, 49, 32, 105, 100, 61, 34, 120, 34, 62]⟩ : ByteArray)).bind fun t170 => (if (t170.length : Int) = 1 then ((tags_Text.f k (⟨#[60, 98, 62, 97, 60, 47, 98, 62]⟩ : ByteArray)).bind fun t173 => (some (t173.toList == ([97] : List UInt8)))) else (none))) else (none)) else (none)) else (none))))) = some r := H
    have A4 := Aside0.mk A40
    clear A40
    by_cases c5 : t168 = true
    · subst c5
      have H1 : (none) = some r := by rw [if_pos rfl] at H; exact H
      cases H1
    · replace c5 := Bool.eq_false_iff.mpr c5
      subst c5
      have H1 : ((tags_Check.f k (⟨#[97, 60, 98]⟩ : ByteArray)).bind fun t169 => (if t169 = true then (none) else (if t165 = 11 then (if t159.toList = ([104, 49] : List UInt8) then (if (t162.length : Int) = 1 then ((tags_Ids.f k (⟨#[60, 104, 49, 32, 105, 100, 61, 34, 120, 34, 62]⟩ : ByteArray)).bind fun t170 => (if (t170.length : Int) = 1 then ((tags_Text.f k (⟨#[60, 98, 62, 97, 60, 47, 98, 62]⟩ : ByteArray)).bind fun t173 => (some (t173.toList == ([97] : List UInt8)))) else (none))) else (none)) else (none)) else (none)))) = some r := by rw [if_neg (show ¬ (false = true) by decide)] at H; exact H
      clear H
      have H := H1
      clear H1
      replace H := Option.bind_eq_some_iff.mp H
      obtain ⟨t169, A120, H⟩ := H
      replace H : (if t169 = true then (none) else (if t165 = 11 then (if t159.toList = ([104, 49] : List UInt8) then (if (t162.length : Int) = 1 then ((tags_Ids.f k (⟨#[60, 104, 49, 32, 105, 100, 61, 34, 120, 34, 62]⟩ : ByteArray)).bind fun t170 => (if (t170.length : Int) = 1 then ((tags_Text.f k (⟨#[60, 98, 62, 97, 60, 47, 98, 62]⟩ : ByteArray)).bind fun t173 => (some (t173.toList == ([97] : List UInt8)))) else (none))) else (none)) else (none)) else (none))) = some r := H
      have A12 := Aside0.mk A120
      clear A120
      by_cases c13 : t169 = true
      · subst c13
        have H1 : (none) = some r := by rw [if_pos rfl] at H; exact H
        cases H1
      · replace c13 := Bool.eq_false_iff.mpr c13
        subst c13
        have H1 : (if t165 = 11 then (if t159.toList = ([104, 49] : List UInt8) then (if (t162.length : Int) = 1 then ((tags_Ids.f k (⟨#[60, 104, 49, 32, 105, 100, 61, 34, 120, 34, 62]⟩ : ByteArray)).bind fun t170 => (if (t170.length : Int) = 1 then ((tags_Text.f k (⟨#[60, 98, 62, 97, 60, 47, 98, 62]⟩ : ByteArray)).bind fun t173 => (some (t173.toList == ([97] : List UInt8)))) else (none))) else (none)) else (none)) else (none)) = some r := by rw [if_neg (show ¬ (false = true) by decide)] at H; exact H
        clear H
        have H := H1
        clear H1
        by_cases c21 : t165 = 11
        · rw [if_pos c21] at H
          have c21b0 : (t165 == 11) = true := beq_iff_eq.mpr c21
          have c21b1 : (t165 != 11) = false := bne_eq_false_iff_eq.mpr c21
          clear c21
          by_cases c22 : t159.toList = ([104, 49] : List UInt8)
          · rw [if_pos c22] at H
            have c22b0 : (t159.toList == ([104, 49] : List UInt8)) = true := beq_iff_eq.mpr c22
            have c22b1 : (t159.toList != ([104, 49] : List UInt8)) = false := bne_eq_false_iff_eq.mpr c22
            clear c22
            by_cases c23 : (t162.length : Int) = 1
            · rw [if_pos c23] at H
              have c23b0 : ((t162.length : Int) == 1) = true := beq_iff_eq.mpr c23
              have c23b1 : ((t162.length : Int) != 1) = false := bne_eq_false_iff_eq.mpr c23
              clear c23
              replace H := Option.bind_eq_some_iff.mp H
              obtain ⟨t170, A240, H⟩ := H
              replace H : (if (t170.length : Int) = 1 then ((tags_Text.f k (⟨#[60, 98, 62, 97, 60, 47, 98, 62]⟩ : ByteArray)).bind fun t173 => (some (t173.toList == ([97] : List UInt8)))) else (none)) = some r := H
              have A24 := Aside0.mk A240
              clear A240
              by_cases c25 : (t170.length : Int) = 1
              · rw [if_pos c25] at H
                have c25b0 : ((t170.length : Int) == 1) = true := beq_iff_eq.mpr c25
                have c25b1 : ((t170.length : Int) != 1) = false := bne_eq_false_iff_eq.mpr c25
                clear c25
                replace H := Option.bind_eq_some_iff.mp H
                obtain ⟨t173, A260, H⟩ := H
                replace H : (some (t173.toList == ([97] : List UInt8))) = some r := H
                have A26 := Aside0.mk A260
                clear A260
                obtain rfl := Option.some.inj H
                go_enter Tryz.func4, Tryz.ntmps4
                go_wp2_with (first | ((with_reducible refine gate_callee (f := 10) rfl ?_); refine goesL_ (some 4) rfl rfl Tryz.func10 (by kernel_rfl) rfl #[.string (⟨#[60, 104, 49, 32, 105, 100, 61, 34, 120, 34, 62, 97]⟩ : ByteArray)] rfl (by (try simp only [List.map_toArray, List.map_cons, List.map_nil]); first | done | rfl | (simp only [List.length_drop, List.length_take]; rfl)) ?_; (with_reducible refine (tags_Read.calls k (⟨#[60, 104, 49, 32, 105, 100, 61, 34, 120, 34, 62, 97]⟩ : ByteArray) t159 t160 t161 t162 t165 _ ?side1 A1.out).mono ?_); (case side1 => exact Laid.go hLd (by repeat (first | (with_reducible first | exact HB.out | apply below_alloc | apply pw_below_drewN | apply below_drew1) | exact HB.out))); rintro e w27 ⟨v163, rfl, ho0, hb⟩; refine ⟨_, rfl, ?_⟩; have n0_ := Aside0.mk (Kd.R_lower ho0 (below_size (by repeat (first | (with_reducible first | exact HB.out | apply below_alloc | apply pw_below_drewN | apply below_drew1) | exact HB.out)))); have n1_ := Aside0.mk (below_step (by repeat (first | (with_reducible first | exact HB.out | apply below_alloc | apply pw_below_drewN | apply below_drew1) | exact HB.out)) hb); clear HB; have HO164 := n0_; have HB := n1_; clear n0_ n1_; (try clear hb); (try clear hb2); (try clear hk); (try clear hi); (try clear ho0)) | ((with_reducible refine gate_dst (N := 1) rfl ?_); (try (refine gate_guard (by rfl) ?_; dsimp only)); refine box_event ?hg (N := 1) ?hd (cs := #[.string (⟨#[]⟩ : ByteArray), .bool false, .bool false, .slice none 0 0]) (t := 33) ?hr ?_; (case hd => rfl); (case hg => rfl); (case hr => first | (go_simp; done) | (go_simp; rfl)); intro gb166 hg w28 hbox hb; have n0_ := Aside0.mk (Kd.R_below (by (with_reducible repeat (first | apply Kd.R_alloc | apply Kd.R_drewN | apply Kd.R_drew)); exact HO164.out) hb); have n1_ := Aside0.mk (below_step (by repeat (first | (with_reducible first | exact HB.out | apply below_alloc | apply pw_below_drewN | apply below_drew1) | exact HB.out)) hb); have n2_ := Aside0.mk (hbox); have n3_ := Aside0.mk ((by rw [hg]; exact (below_size (by repeat (first | (with_reducible first | exact HB.out | apply below_alloc | apply pw_below_drewN | apply below_drew1) | exact HB.out))) : w.heap.size ≤ gb166)); have n4_ := Aside0.mk ((by rw [hg]; exact (below_size (by repeat (first | (with_reducible first | exact HB.out | apply below_alloc | apply pw_below_drewN | apply below_drew1) | exact HB.out))) : w.heap.size ≤ gb166)); clear HO164; clear HB; have HO164 := n0_; have HB := n1_; have BK166 := n2_; have GW166 := n3_; have GE166 := n4_; clear n0_ n1_ n2_ n3_ n4_; clear hb hbox hg; have hcz29_0 : w28.cell? ⟨gb166, 0, none⟩ = some (.string (⟨#[]⟩ : ByteArray)) := (blk_cell BK166.out 0).trans rfl; have hcz29_1 : w28.cell? ⟨gb166, 1, none⟩ = some (.bool false) := (blk_cell BK166.out 1).trans rfl; have hcz29_2 : w28.cell? ⟨gb166, 2, none⟩ = some (.bool false) := (blk_cell BK166.out 2).trans rfl; have hcz29_3 : w28.cell? ⟨gb166, 3, none⟩ = some (.slice none 0 0) := (blk_cell BK166.out 3).trans rfl; have hfz29_0 := blk_frozen BK166.out 0; have hfz29_1 := blk_frozen BK166.out 1; have hfz29_2 := blk_frozen BK166.out 2; have hfz29_3 := blk_frozen BK166.out 3; obtain ⟨Ao30, co30, eo30⟩ := Kd.R_slice HO164.out; subst eo30) | ((with_reducible refine gate_callee (f := 11) rfl ?_); refine goesL_ (some 7) rfl rfl Tryz.func11 (by kernel_rfl) rfl #[.string (⟨#[60, 112, 62, 97, 60, 98, 114, 32, 47, 62, 98, 60, 47, 112, 62]⟩ : ByteArray)] rfl (by (try simp only [List.map_toArray, List.map_cons, List.map_nil]); first | done | rfl | (simp only [List.length_drop, List.length_take]; rfl)) ?_; (with_reducible refine (tags_Check.calls k (⟨#[60, 112, 62, 97, 60, 98, 114, 32, 47, 62, 98, 60, 47, 112, 62]⟩ : ByteArray) true _ ?side1 A2.out).mono ?_); (case side1 => exact Laid.go hLd (by repeat (first | (with_reducible first | exact HB.out | apply below_alloc | apply pw_below_drewN | apply below_drew1 | refine below_set ?_ GE166.out) | exact HB.out))); rintro e w31 ⟨rfl, hb⟩; refine ⟨_, rfl, ?_⟩; have n0_ := Aside0.mk (Kd.R_below (by (with_reducible repeat (first | apply Kd.R_alloc | apply Kd.R_drewN | apply Kd.R_drew)); exact (Kd.R_mono (Kd.R_far (p := ⟨gb166, 3, none⟩) (Kd.R_far (p := ⟨gb166, 2, none⟩) (Kd.R_far (p := ⟨gb166, 1, none⟩) (Kd.R_far (p := ⟨gb166, 0, none⟩) (Kd.R_types HO164.out BK166.out (by decide)) (fun _ hk => hk.2) (.string t159)) (fun _ hk => hk.2) (.bool t160)) (fun _ hk => hk.2) (.bool t161)) (fun _ hk => hk.2) (.slice Ao30 t162.length co30)) (fun _ h_ => h_.1))) hb); have n1_ := Aside0.mk (blk_below (g := gb166) (o := .cells #[.string t159, .bool t160, .bool t161, .slice Ao30 t162.length co30] 33 (0, 0)) (by (with_reducible repeat (first | refine blk_drewN ?_ _ | refine blk_drew ?_ | refine blk_alloc ?_ _)); refine blk_put (cs := #[.string t159, .bool t160, .bool t161, .slice none 0 0]) ?_ 3 _ rfl; (with_reducible repeat (first | refine blk_drewN ?_ _ | refine blk_drew ?_ | refine blk_alloc ?_ _)); refine blk_put (cs := #[.string t159, .bool t160, .bool false, .slice none 0 0]) ?_ 2 _ rfl; (with_reducible repeat (first | refine blk_drewN ?_ _ | refine blk_drew ?_ | refine blk_alloc ?_ _)); refine blk_put (cs := #[.string t159, .bool false, .bool false, .slice none 0 0]) ?_ 1 _ rfl; (with_reducible repeat (first | refine blk_drewN ?_ _ | refine blk_drew ?_ | refine blk_alloc ?_ _)); refine blk_put (cs := #[.string (⟨#[]⟩ : ByteArray), .bool false, .bool false, .slice none 0 0]) ?_ 0 _ rfl; (with_reducible repeat (first | refine blk_drewN ?_ _ | refine blk_drew ?_ | refine blk_alloc ?_ _)); exact BK166.out) hb); have n2_ := Aside0.mk (below_step (by repeat (first | (with_reducible first | exact HB.out | apply below_alloc | apply pw_below_drewN | apply below_drew1 | refine below_set ?_ GE166.out) | exact HB.out)) hb); clear HO164; clear BK166; clear HB; have HO164 := n0_; have BK166 := n1_; have HB := n2_; clear n0_ n1_ n2_; (try clear hb); (try clear hb2); (try clear hk); (try clear hi)) | (go_at_call 11; (with_reducible refine (tags_Check.calls k (⟨#[60, 112, 62]⟩ : ByteArray) false _ ?side1 A4.out).mono ?_); (case side1 => exact Laid.go hLd (by repeat (first | (with_reducible first | exact HB.out | apply below_alloc | apply pw_below_drewN | apply below_drew1 | refine below_set ?_ GE166.out) | exact HB.out))); rintro e w32 ⟨rfl, hb⟩; have n0_ := Aside0.mk (Kd.R_below (by (with_reducible repeat (first | apply Kd.R_alloc | apply Kd.R_drewN | apply Kd.R_drew)); exact HO164.out) hb); have n1_ := Aside0.mk (blk_below (g := gb166) (o := .cells #[.string t159, .bool t160, .bool t161, .slice Ao30 t162.length co30] 33 (0, 0)) (by (with_reducible repeat (first | refine blk_drewN ?_ _ | refine blk_drew ?_ | refine blk_alloc ?_ _)); exact BK166.out) hb); have n2_ := Aside0.mk (below_step (by repeat (first | (with_reducible first | exact HB.out | apply below_alloc | apply pw_below_drewN | apply below_drew1 | refine below_set ?_ GE166.out) | exact HB.out)) hb); clear HO164; clear BK166; clear HB; have HO164 := n0_; have BK166 := n1_; have HB := n2_; clear n0_ n1_ n2_; (try clear hb); (try clear hb2); (try clear hk); (try clear hi)) | (go_at_call 11; (with_reducible refine (tags_Check.calls k (⟨#[97, 60, 98]⟩ : ByteArray) false _ ?side1 A12.out).mono ?_); (case side1 => exact Laid.go hLd (by repeat (first | (with_reducible first | exact HB.out | apply below_alloc | apply pw_below_drewN | apply below_drew1 | refine below_set ?_ GE166.out) | exact HB.out))); rintro e w33 ⟨rfl, hb⟩; have n0_ := Aside0.mk (Kd.R_below (by (with_reducible repeat (first | apply Kd.R_alloc | apply Kd.R_drewN | apply Kd.R_drew)); exact HO164.out) hb); have n1_ := Aside0.mk (blk_below (g := gb166) (o := .cells #[.string t159, .bool t160, .bool t161, .slice Ao30 t162.length co30] 33 (0, 0)) (by (with_reducible repeat (first | refine blk_drewN ?_ _ | refine blk_drew ?_ | refine blk_alloc ?_ _)); exact BK166.out) hb); have n2_ := Aside0.mk (below_step (by repeat (first | (with_reducible first | exact HB.out | apply below_alloc | apply pw_below_drewN | apply below_drew1 | refine below_set ?_ GE166.out) | exact HB.out)) hb); clear HO164; clear BK166; clear HB; have HO164 := n0_; have BK166 := n1_; have HB := n2_; clear n0_ n1_ n2_; (try clear hb); (try clear hb2); (try clear hk); (try clear hi); have hcz34_0 : w33.cell? ⟨gb166, 0, none⟩ = some (.string t159) := (blk_cell BK166.out 0).trans rfl; have hcz34_1 : w33.cell? ⟨gb166, 1, none⟩ = some (.bool t160) := (blk_cell BK166.out 1).trans rfl; have hcz34_2 : w33.cell? ⟨gb166, 2, none⟩ = some (.bool t161) := (blk_cell BK166.out 2).trans rfl; have hcz34_3 : w33.cell? ⟨gb166, 3, none⟩ = some (.slice Ao30 t162.length co30) := (blk_cell BK166.out 3).trans rfl; have hfz34_0 := blk_frozen BK166.out 0; have hfz34_1 := blk_frozen BK166.out 1; have hfz34_2 := blk_frozen BK166.out 2; have hfz34_3 := blk_frozen BK166.out 3) | (go_at_call 12; (with_reducible refine (tags_Ids.calls k (⟨#[60, 104, 49, 32, 105, 100, 61, 34, 120, 34, 62]⟩ : ByteArray) t170 _ ?side1 A24.out).mono ?_); (case side1 => exact Laid.go hLd (by repeat (first | (with_reducible first | exact HB.out | apply below_alloc | apply pw_below_drewN | apply below_drew1 | refine below_set ?_ GE166.out) | exact HB.out))); rintro e w35 ⟨v171, rfl, ho0, hb⟩; have n0_ := Aside0.mk (Kd.R_below (by (with_reducible repeat (first | apply Kd.R_alloc | apply Kd.R_drewN | apply Kd.R_drew)); exact HO164.out) hb); have n1_ := Aside0.mk (Kd.R_lower ho0 (below_size (by repeat (first | (with_reducible first | exact HB.out | apply below_alloc | apply pw_below_drewN | apply below_drew1 | refine below_set ?_ GE166.out) | exact HB.out)))); have n2_ := Aside0.mk (blk_below (g := gb166) (o := .cells #[.string t159, .bool t160, .bool t161, .slice Ao30 t162.length co30] 33 (0, 0)) (by (with_reducible repeat (first | refine blk_drewN ?_ _ | refine blk_drew ?_ | refine blk_alloc ?_ _)); exact BK166.out) hb); have n3_ := Aside0.mk (below_step (by repeat (first | (with_reducible first | exact HB.out | apply below_alloc | apply pw_below_drewN | apply below_drew1 | refine below_set ?_ GE166.out) | exact HB.out)) hb); clear HO164; clear BK166; clear HB; have HO164 := n0_; have HO172 := n1_; have BK166 := n2_; have HB := n3_; clear n0_ n1_ n2_ n3_; (try clear hb); (try clear hb2); (try clear hk); (try clear hi); (try clear ho0); obtain ⟨Ao36, co36, eo36⟩ := Kd.R_slice HO172.out; subst eo36) | (go_at_call 7; (with_reducible refine (tags_Text.calls k (⟨#[60, 98, 62, 97, 60, 47, 98, 62]⟩ : ByteArray) t173 _ ?side1 A26.out).mono ?_); (case side1 => exact Laid.go hLd (by repeat (first | (with_reducible first | exact HB.out | apply below_alloc | apply pw_below_drewN | apply below_drew1 | refine below_set ?_ GE166.out) | exact HB.out))); rintro e w37 ⟨rfl, hb⟩; have n0_ := Aside0.mk (Kd.R_below (by (with_reducible repeat (first | apply Kd.R_alloc | apply Kd.R_drewN | apply Kd.R_drew)); exact HO164.out) hb); have n1_ := Aside0.mk (Kd.R_below (by (with_reducible repeat (first | apply Kd.R_alloc | apply Kd.R_drewN | apply Kd.R_drew)); exact HO172.out) hb); have n2_ := Aside0.mk (blk_below (g := gb166) (o := .cells #[.string t159, .bool t160, .bool t161, .slice Ao30 t162.length co30] 33 (0, 0)) (by (with_reducible repeat (first | refine blk_drewN ?_ _ | refine blk_drew ?_ | refine blk_alloc ?_ _)); exact BK166.out) hb); have n3_ := Aside0.mk (below_step (by repeat (first | (with_reducible first | exact HB.out | apply below_alloc | apply pw_below_drewN | apply below_drew1 | refine below_set ?_ GE166.out) | exact HB.out)) hb); clear HO164; clear HO172; clear BK166; clear HB; have HO164 := n0_; have HO172 := n1_; have BK166 := n2_; have HB := n3_; clear n0_ n1_ n2_ n3_; (try clear hb); (try clear hb2); (try clear hk); (try clear hi)))
                go_ret
                exact ⟨by first | rfl | (simp [errW_none, errW_some] <;> rfl) | (simp [*, errW_none, errW_some] <;> rfl), by repeat (first | (with_reducible first | exact HB.out | apply below_alloc | apply pw_below_drewN | apply below_drew1 | refine below_set ?_ GE166.out) | exact HB.out)⟩
              · rw [if_neg c25] at H
                cases H
            · rw [if_neg c23] at H
              cases H
          · rw [if_neg c22] at H
            cases H
        · rw [if_neg c21] at H
          cases H
  · replace c3 := Bool.eq_false_iff.mpr c3
    subst c3
    have H1 : (none) = some r := by rw [if_neg (show ¬ (false = true) by decide)] at H; exact H
    cases H1
/-! ### incipitref06_few: function 13 -/
mutual
def incipitref06_few.l0 : Nat → Int → Int → Int → ByteArray → ByteArray → Int → Int → Bool → List (S26) → Option (Int)
  | 0, _, _, _, _, _, _, _, _, _ => none
  | k + 1, x1, x5, x175000, x175001, x175002, x175003, x175004, x175005, x175006 => if x5 < (x175006.length : Int) then (if x1 ≥ 0 then (if 0 ≤ x5 then ((incipitref06_few.f k ((rd_T26 x175006 x5).f0) ((rd_T26 x175006 x5).f1) ((rd_T26 x175006 x5).f2) ((rd_T26 x175006 x5).f3) ((rd_T26 x175006 x5).f4) ((rd_T26 x175006 x5).f5) ((rd_T26 x175006 x5).f6) x1).bind fun t176 => (incipitref06_few.l0 k t176 (wrap64 (x5 + 1)) x175000 x175001 x175002 x175003 x175004 x175005 x175006)) else (none)) else (some x1)) else (some x1)
def incipitref06_few.f : Nat → Int → ByteArray → ByteArray → Int → Int → Bool → List (S26) → Int → Option (Int)
  | 0, _, _, _, _, _, _, _, _ => none
  | k + 1, a0_0, a0_1, a0_2, a0_3, a0_4, a0_5, l0_6, a1 => incipitref06_few.l0 k (wrap64 ((wrap64 ((wrap64 (a1 - 1)) - (a0_1.size : Int))) - (a0_2.size : Int))) 0 a0_0 a0_1 a0_2 a0_3 a0_4 a0_5 l0_6
end
theorem incipitref06_few.mono_l : ∀ k, (∀ y0 y1 y2 y3 y4 y5 y6 y7, LeO (incipitref06_few.f k y0 y1 y2 y3 y4 y5 y6 y7) (incipitref06_few.f (k + 1) y0 y1 y2 y3 y4 y5 y6 y7)) ∧ (∀ y0 y1 y2 y3 y4 y5 y6 y7 y8, LeO (incipitref06_few.l0 k y0 y1 y2 y3 y4 y5 y6 y7 y8) (incipitref06_few.l0 (k + 1) y0 y1 y2 y3 y4 y5 y6 y7 y8))
  | 0 => ⟨fun _ _ _ _ _ _ _ _ r h => by simp [incipitref06_few.f] at h, fun _ _ _ _ _ _ _ _ _ r h => by simp [incipitref06_few.l0] at h⟩
  | k + 1 => by
    obtain ⟨ih0, ih1⟩ := incipitref06_few.mono_l k
    refine ⟨?_, ?_⟩
    · intro y0 y1 y2 y3 y4 y5 y6 y7
      unfold incipitref06_few.f
      repeat' first
      | (with_reducible exact ih0 _ _ _ _ _ _ _ _)
      | (with_reducible exact ih1 _ _ _ _ _ _ _ _ _)
      | (with_reducible exact LeO.refl _)
      | (with_reducible exact LeO.none _)
      | (with_reducible refine LeO.ite ?_ ?_)
      | (with_reducible refine LeO.bind ?_ (fun _ => ?_))
      | exact ih0 _ _ _ _ _ _ _ _
      | exact ih1 _ _ _ _ _ _ _ _ _
      | exact LeO.none _
      | refine LeO.ite ?_ ?_
      | refine LeO.bind ?_ (fun _ => ?_)
    · intro y0 y1 y2 y3 y4 y5 y6 y7 y8
      unfold incipitref06_few.l0
      repeat' first
      | (with_reducible exact ih0 _ _ _ _ _ _ _ _)
      | (with_reducible exact ih1 _ _ _ _ _ _ _ _ _)
      | (with_reducible exact LeO.refl _)
      | (with_reducible exact LeO.none _)
      | (with_reducible refine LeO.ite ?_ ?_)
      | (with_reducible refine LeO.bind ?_ (fun _ => ?_))
      | exact ih0 _ _ _ _ _ _ _ _
      | exact ih1 _ _ _ _ _ _ _ _ _
      | exact LeO.none _
      | refine LeO.ite ?_ ?_
      | refine LeO.bind ?_ (fun _ => ?_)
theorem incipitref06_few.mono : ∀ a0 a1 a2 a3 a4 a5 a6 a7 k, LeO (incipitref06_few.f k a0 a1 a2 a3 a4 a5 a6 a7) (incipitref06_few.f (k + 1) a0 a1 a2 a3 a4 a5 a6 a7) := by
  intro a0 a1 a2 a3 a4 a5 a6 a7 k
  obtain ⟨ih0, ih1⟩ := incipitref06_few.mono_l k
  exact ih0 a0 a1 a2 a3 a4 a5 a6 a7
set_option maxHeartbeats 8000000 in
set_option maxRecDepth 100000 in
theorem incipitref06_few.calls (k : Nat) : ∀ (a0_0 : Int) (a0_1 : ByteArray) (a0_2 : ByteArray) (a0_3 : Int) (a0_4 : Int) (a0_5 : Bool) (A0_6 : Option Addr) (c0_6 : Nat) (l0_6 : List (S26)) (a1 : Int) (r : Int) (w : World) (hr0_6 : Kd.C k26 w A0_6 l0_6.length l0_6) (hc0_6 : l0_6.length ≤ c0_6) (h : incipitref06_few.f k a0_0 a0_1 a0_2 a0_3 a0_4 a0_5 l0_6 a1 = some r),
    Calls Tryz.prog 13 #[.agg #[.int .i64 a0_0, .string a0_1, .string a0_2, .int .i64 a0_3, .int .i64 a0_4, .bool a0_5, .slice A0_6 l0_6.length c0_6], .int .i64 a1] w fun e w' => e = .returned (.int .i64 r) ∧ Below w.heap.size w w' := by
  induction k using Nat.strongRecOn with
  | _ k ih =>
  intro a0_0 a0_1 a0_2 a0_3 a0_4 a0_5 A0_6 c0_6 l0_6 a1 r w hr0_6 hc0_6 h
  cases k with
  | zero => exact absurd h (by simp [incipitref06_few.f])
  | succ k =>
  simp only [incipitref06_few.f] at h
  have hu26 := Tryz.underlying26
  have HR0_6 := Aside0.mk hr0_6
  have HC0_6 := Aside0.mk hc0_6
  clear hr0_6 hc0_6
  have HB := Aside0.mk (Below.refl w.heap.size w)
  have H : (incipitref06_few.l0 k (wrap64 ((wrap64 ((wrap64 (a1 - 1)) - (a0_1.size : Int))) - (a0_2.size : Int))) 0 a0_0 a0_1 a0_2 a0_3 a0_4 a0_5 l0_6) = some r := h
  clear h
  have H' := Aside0.mk H
  clear H
  go_enter Tryz.func13, Tryz.ntmps13
  go_wp2_with (first | ((with_reducible refine gate_dst (N := 2) rfl ?_); refine box_event ?hg (N := 2) ?hd (cs := #[.int .i64 a0_0, .string a0_1, .string a0_2, .int .i64 a0_3, .int .i64 a0_4, .bool a0_5, .slice A0_6 l0_6.length c0_6]) (t := 26) ?hr ?_; (case hd => rfl); (case hg => rfl); (case hr => first | (go_simp; done) | (go_simp; rfl)); intro gb174 hg w3 hbox hb; have n0_ := Aside0.mk (below_step (by repeat (first | (with_reducible first | exact HB.out | apply below_alloc | apply pw_below_drewN | apply below_drew1) | exact HB.out)) hb); have n1_ := Aside0.mk (hbox); have n2_ := Aside0.mk ((by rw [hg]; exact (below_size (by repeat (first | (with_reducible first | exact HB.out | apply below_alloc | apply pw_below_drewN | apply below_drew1) | exact HB.out))) : w.heap.size ≤ gb174)); have n3_ := Aside0.mk ((by rw [hg]; exact (below_size (by repeat (first | (with_reducible first | exact HB.out | apply below_alloc | apply pw_below_drewN | apply below_drew1) | exact HB.out))) : w.heap.size ≤ gb174)); clear HB; have HB := n0_; have BK174 := n1_; have GW174 := n2_; have GE174 := n3_; clear n0_ n1_ n2_ n3_; clear hb hbox hg; have hcz4_0 : w3.cell? ⟨gb174, 0, none⟩ = some (.int .i64 a0_0) := (blk_cell BK174.out 0).trans rfl; have hcz4_1 : w3.cell? ⟨gb174, 1, none⟩ = some (.string a0_1) := (blk_cell BK174.out 1).trans rfl; have hcz4_2 : w3.cell? ⟨gb174, 2, none⟩ = some (.string a0_2) := (blk_cell BK174.out 2).trans rfl; have hcz4_3 : w3.cell? ⟨gb174, 3, none⟩ = some (.int .i64 a0_3) := (blk_cell BK174.out 3).trans rfl; have hcz4_4 : w3.cell? ⟨gb174, 4, none⟩ = some (.int .i64 a0_4) := (blk_cell BK174.out 4).trans rfl; have hcz4_5 : w3.cell? ⟨gb174, 5, none⟩ = some (.bool a0_5) := (blk_cell BK174.out 5).trans rfl; have hcz4_6 : w3.cell? ⟨gb174, 6, none⟩ = some (.slice A0_6 l0_6.length c0_6) := (blk_cell BK174.out 6).trans rfl; have hfz4_0 := blk_frozen BK174.out 0; have hfz4_1 := blk_frozen BK174.out 1; have hfz4_2 := blk_frozen BK174.out 2; have hfz4_3 := blk_frozen BK174.out 3; have hfz4_4 := blk_frozen BK174.out 4; have hfz4_5 := blk_frozen BK174.out 5; have hfz4_6 := blk_frozen BK174.out 6))
  go_loopg [1, 5] k (fun kq v1 v5 w' => ∃ (x1_1 : Int) (x5_1 : Int), v1 = .int .i64 x1_1 ∧ v5 = .int .i64 x5_1 ∧ Aside0 (incipitref06_few.l0 kq x1_1 x5_1 a0_0 a0_1 a0_2 a0_3 a0_4 a0_5 l0_6 = some r) ∧ Aside0 (kq ≤ k) ∧ Aside0 (w'.heap[gb174]? = some (.cells #[.int .i64 a0_0, .string a0_1, .string a0_2, .int .i64 a0_3, .int .i64 a0_4, .bool a0_5, (.slice A0_6 l0_6.length c0_6)] 26 (0, 0))) ∧ Aside0 (Below w.heap.size w w'))
  case atStart => exact ⟨(wrap64 ((wrap64 ((wrap64 (a1 - 1)) - (a0_1.size : Int))) - (a0_2.size : Int))), (0), (by first | rfl | (simp; done) | (simp [*]; done)), (by first | rfl | (simp; done) | (simp [*]; done)), H', ⟨Nat.le_refl _⟩, ⟨by (with_reducible repeat (first | refine blk_drewN ?_ _ | refine blk_drew ?_ | refine blk_alloc ?_ _)); exact BK174.out⟩, ⟨by repeat (first | (with_reducible first | exact HB.out | apply below_alloc | apply pw_below_drewN | apply below_drew1 | refine below_set ?_ GE174.out) | exact HB.out)⟩⟩
  case round =>
    clear H'
    try clear c1
    try clear p2
    try clear hcz4_0
    try clear hcz4_1
    try clear hcz4_2
    try clear hcz4_3
    try clear hcz4_4
    try clear hcz4_5
    try clear hcz4_6
    try clear hfz4_0
    try clear hfz4_1
    try clear hfz4_2
    try clear hfz4_3
    try clear hfz4_4
    try clear hfz4_5
    try clear hfz4_6
    obtain ⟨x1_1, x5_1, rfl, rfl, HA, HK1, BK174, HB⟩ := hrel
    cases gk with
    | zero => exact absurd HA.out (by simp [incipitref06_few.l0])
    | succ k1 =>
      have H := HA.out
      clear HA
      simp only [incipitref06_few.l0] at H
      by_cases c5 : x5_1 < (l0_6.length : Int)
      · rw [if_pos c5] at H
        have c5b0 : decide (x5_1 < (l0_6.length : Int)) = true := decide_eq_true c5
        clear c5
        by_cases c6 : x1_1 ≥ 0
        · rw [if_pos c6] at H
          have c6b0 : decide (0 ≤ x1_1) = true := decide_eq_true c6
          clear c6
          by_cases c7 : 0 ≤ x5_1
          · rw [if_pos c7] at H
            have c7b0 : decide (0 ≤ x5_1) = true := decide_eq_true c7
            clear c7
            replace H := Option.bind_eq_some_iff.mp H
            obtain ⟨t176, A80, H⟩ := H
            replace H : (incipitref06_few.l0 k1 t176 (wrap64 (x5_1 + 1)) a0_0 a0_1 a0_2 a0_3 a0_4 a0_5 l0_6) = some r := H
            have A8 := Aside0.mk A80
            clear A80
            have H' := Aside0.mk H
            clear H
            have hcz9_0 : wr.cell? ⟨gb174, 0, none⟩ = some (.int .i64 a0_0) := (blk_cell BK174.out 0).trans rfl
            have hcz9_1 : wr.cell? ⟨gb174, 1, none⟩ = some (.string a0_1) := (blk_cell BK174.out 1).trans rfl
            have hcz9_2 : wr.cell? ⟨gb174, 2, none⟩ = some (.string a0_2) := (blk_cell BK174.out 2).trans rfl
            have hcz9_3 : wr.cell? ⟨gb174, 3, none⟩ = some (.int .i64 a0_3) := (blk_cell BK174.out 3).trans rfl
            have hcz9_4 : wr.cell? ⟨gb174, 4, none⟩ = some (.int .i64 a0_4) := (blk_cell BK174.out 4).trans rfl
            have hcz9_5 : wr.cell? ⟨gb174, 5, none⟩ = some (.bool a0_5) := (blk_cell BK174.out 5).trans rfl
            have hcz9_6 : wr.cell? ⟨gb174, 6, none⟩ = some (.slice A0_6 l0_6.length c0_6) := (blk_cell BK174.out 6).trans rfl
            have hfz9_0 := blk_frozen BK174.out 0
            have hfz9_1 := blk_frozen BK174.out 1
            have hfz9_2 := blk_frozen BK174.out 2
            have hfz9_3 := blk_frozen BK174.out 3
            have hfz9_4 := blk_frozen BK174.out 4
            have hfz9_5 := blk_frozen BK174.out 5
            have hfz9_6 := blk_frozen BK174.out 6
            have p175 : 0 ≤ (x5_1 : Int) := of_decide_eq_true (by first | (with_reducible assumption) | assumption)
            have q175 : x5_1 < (l0_6.length : Int) := of_decide_eq_true (by first | (with_reducible assumption) | assumption)
            obtain ⟨ad175, A175_6, c175_6, e175, hx175_0, hx175_1, hx175_2, hx175_3, hx175_4, hx175_5, hx175_6, hl175_6, hi175_6⟩ := at_T26 HR0_6.out x5_1 p175 q175
            cases e175
            replace hx175_0 := (HB.out.cell (World.block_lt_of_cell? w _ hx175_0)).trans hx175_0
            replace hx175_1 := (HB.out.cell (World.block_lt_of_cell? w _ hx175_1)).trans hx175_1
            replace hx175_2 := (HB.out.cell (World.block_lt_of_cell? w _ hx175_2)).trans hx175_2
            replace hx175_3 := (HB.out.cell (World.block_lt_of_cell? w _ hx175_3)).trans hx175_3
            replace hx175_4 := (HB.out.cell (World.block_lt_of_cell? w _ hx175_4)).trans hx175_4
            replace hx175_5 := (HB.out.cell (World.block_lt_of_cell? w _ hx175_5)).trans hx175_5
            replace hx175_6 := (HB.out.cell (World.block_lt_of_cell? w _ hx175_6)).trans hx175_6
            have HR175_6 := Aside0.mk hi175_6
            have HC175_6 := Aside0.mk hl175_6
            clear hi175_6 hl175_6
            replace p175 := eq_true p175
            replace q175 := eq_true q175
            go_wp2_with (first | ((with_reducible refine gate_callee (f := 13) rfl ?_); refine goesL_ (some 33) rfl rfl Tryz.func13 (by kernel_rfl) rfl #[.agg #[.int .i64 ((rd_T26 l0_6 x5_1).f0), .string ((rd_T26 l0_6 x5_1).f1), .string ((rd_T26 l0_6 x5_1).f2), .int .i64 ((rd_T26 l0_6 x5_1).f3), .int .i64 ((rd_T26 l0_6 x5_1).f4), .bool ((rd_T26 l0_6 x5_1).f5), .slice A175_6 ((rd_T26 l0_6 x5_1).f6).length c175_6], .int .i64 x1_1] rfl (by (try simp only [List.map_toArray, List.map_cons, List.map_nil]); first | done | rfl | (simp only [List.length_drop, List.length_take]; rfl)) ?_; (with_reducible refine (ih k1 (by have := HK1.out; omega) ((rd_T26 l0_6 x5_1).f0) ((rd_T26 l0_6 x5_1).f1) ((rd_T26 l0_6 x5_1).f2) ((rd_T26 l0_6 x5_1).f3) ((rd_T26 l0_6 x5_1).f4) ((rd_T26 l0_6 x5_1).f5) _ _ ((rd_T26 l0_6 x5_1).f6) x1_1 t176 _ ?side1 ?side2 A8.out).mono ?_); (case side1 => repeat (first | exact (Kd.C_below HR175_6.out HB.out) | (with_reducible refine Kd.C_alloc ?_ _) | (with_reducible refine Kd.C_drewN ?_ _) | (with_reducible refine Kd.C_drew ?_))); (case side2 => exact HC175_6.out); rintro e w10 ⟨rfl, hb⟩; refine ⟨_, rfl, ?_⟩; have n0_ := Aside0.mk (blk_below (g := gb174) (o := .cells #[.int .i64 a0_0, .string a0_1, .string a0_2, .int .i64 a0_3, .int .i64 a0_4, .bool a0_5, .slice (some ad175) l0_6.length c0_6] 26 (0, 0)) (by (with_reducible repeat (first | refine blk_drewN ?_ _ | refine blk_drew ?_ | refine blk_alloc ?_ _)); exact BK174.out) hb); have n1_ := Aside0.mk (below_step (by repeat (first | (with_reducible first | exact HB.out | apply below_alloc | apply pw_below_drewN | apply below_drew1 | refine below_set ?_ GE174.out) | exact HB.out)) hb); clear BK174; clear HB; have BK174 := n0_; have HB := n1_; clear n0_ n1_; (try clear hb); (try clear hb2); (try clear hk); (try clear hi)))
            go_roundg k1
            case measure => have := HK1.out; omega
            case rel => exact ⟨(t176), (wrap64 (x5_1 + 1)), (by first | rfl | (simp; done) | (simp [*]; done)), (by first | rfl | (simp; done) | (simp [*]; done)), H', ⟨by have := HK1.out; omega⟩, ⟨by (with_reducible repeat (first | refine blk_drewN ?_ _ | refine blk_drew ?_ | refine blk_alloc ?_ _)); exact BK174.out⟩, ⟨by repeat (first | (with_reducible first | exact HB.out | apply below_alloc | apply pw_below_drewN | apply below_drew1 | refine below_set ?_ GE174.out) | exact HB.out)⟩⟩
          · rw [if_neg c7] at H
            exact absurd H (by simp)
        · rw [if_neg c6] at H
          have c6b0 : decide (0 ≤ x1_1) = false := decide_eq_false c6
          clear c6
          obtain rfl := Option.some.inj H
          have hcz11_0 : wr.cell? ⟨gb174, 0, none⟩ = some (.int .i64 a0_0) := (blk_cell BK174.out 0).trans rfl
          have hcz11_1 : wr.cell? ⟨gb174, 1, none⟩ = some (.string a0_1) := (blk_cell BK174.out 1).trans rfl
          have hcz11_2 : wr.cell? ⟨gb174, 2, none⟩ = some (.string a0_2) := (blk_cell BK174.out 2).trans rfl
          have hcz11_3 : wr.cell? ⟨gb174, 3, none⟩ = some (.int .i64 a0_3) := (blk_cell BK174.out 3).trans rfl
          have hcz11_4 : wr.cell? ⟨gb174, 4, none⟩ = some (.int .i64 a0_4) := (blk_cell BK174.out 4).trans rfl
          have hcz11_5 : wr.cell? ⟨gb174, 5, none⟩ = some (.bool a0_5) := (blk_cell BK174.out 5).trans rfl
          have hcz11_6 : wr.cell? ⟨gb174, 6, none⟩ = some (.slice A0_6 l0_6.length c0_6) := (blk_cell BK174.out 6).trans rfl
          have hfz11_0 := blk_frozen BK174.out 0
          have hfz11_1 := blk_frozen BK174.out 1
          have hfz11_2 := blk_frozen BK174.out 2
          have hfz11_3 := blk_frozen BK174.out 3
          have hfz11_4 := blk_frozen BK174.out 4
          have hfz11_5 := blk_frozen BK174.out 5
          have hfz11_6 := blk_frozen BK174.out 6
          go_wp2
          go_ret
          exact ⟨by first | rfl | (simp [errW_none, errW_some] <;> rfl) | (simp [*, errW_none, errW_some] <;> rfl), by repeat (first | (with_reducible first | exact HB.out | apply below_alloc | apply pw_below_drewN | apply below_drew1 | refine below_set ?_ GE174.out) | exact HB.out)⟩
      · rw [if_neg c5] at H
        have c5b0 : decide (x5_1 < (l0_6.length : Int)) = false := decide_eq_false c5
        clear c5
        obtain rfl := Option.some.inj H
        have hcz12_0 : wr.cell? ⟨gb174, 0, none⟩ = some (.int .i64 a0_0) := (blk_cell BK174.out 0).trans rfl
        have hcz12_1 : wr.cell? ⟨gb174, 1, none⟩ = some (.string a0_1) := (blk_cell BK174.out 1).trans rfl
        have hcz12_2 : wr.cell? ⟨gb174, 2, none⟩ = some (.string a0_2) := (blk_cell BK174.out 2).trans rfl
        have hcz12_3 : wr.cell? ⟨gb174, 3, none⟩ = some (.int .i64 a0_3) := (blk_cell BK174.out 3).trans rfl
        have hcz12_4 : wr.cell? ⟨gb174, 4, none⟩ = some (.int .i64 a0_4) := (blk_cell BK174.out 4).trans rfl
        have hcz12_5 : wr.cell? ⟨gb174, 5, none⟩ = some (.bool a0_5) := (blk_cell BK174.out 5).trans rfl
        have hcz12_6 : wr.cell? ⟨gb174, 6, none⟩ = some (.slice A0_6 l0_6.length c0_6) := (blk_cell BK174.out 6).trans rfl
        have hfz12_0 := blk_frozen BK174.out 0
        have hfz12_1 := blk_frozen BK174.out 1
        have hfz12_2 := blk_frozen BK174.out 2
        have hfz12_3 := blk_frozen BK174.out 3
        have hfz12_4 := blk_frozen BK174.out 4
        have hfz12_5 := blk_frozen BK174.out 5
        have hfz12_6 := blk_frozen BK174.out 6
        go_wp2
        go_ret
        exact ⟨by first | rfl | (simp [errW_none, errW_some] <;> rfl) | (simp [*, errW_none, errW_some] <;> rfl), by repeat (first | (with_reducible first | exact HB.out | apply below_alloc | apply pw_below_drewN | apply below_drew1 | refine below_set ?_ GE174.out) | exact HB.out)⟩

/-! ### incipitref06_Few: function 5 -/
def incipitref06_Few.f (k : Nat) (a0_0 : Int) (a0_1 : ByteArray) (a0_2 : ByteArray) (a0_3 : Int) (a0_4 : Int) (a0_5 : Bool) (l0_6 : List (S26)) (a1 : Int) : Option (Bool) := (incipitref06_few.f k a0_0 a0_1 a0_2 a0_3 a0_4 a0_5 l0_6 a1).bind fun t178 => (some (decide (t178 ≥ 0)))
theorem incipitref06_Few.mono : ∀ a0 a1 a2 a3 a4 a5 a6 a7 k, LeO (incipitref06_Few.f k a0 a1 a2 a3 a4 a5 a6 a7) (incipitref06_Few.f (k + 1) a0 a1 a2 a3 a4 a5 a6 a7) := by
  intro a0 a1 a2 a3 a4 a5 a6 a7 k
  unfold incipitref06_Few.f
  repeat' first
      | (with_reducible exact incipitref06_few.mono _ _ _ _ _ _ _ _ _)
      | (with_reducible exact LeO.refl _)
      | (with_reducible exact LeO.none _)
      | (with_reducible refine LeO.ite ?_ ?_)
      | (with_reducible refine LeO.bind ?_ (fun _ => ?_))
      | exact incipitref06_few.mono _ _ _ _ _ _ _ _ _
      | exact LeO.none _
      | refine LeO.ite ?_ ?_
      | refine LeO.bind ?_ (fun _ => ?_)
set_option maxHeartbeats 8000000 in
set_option maxRecDepth 100000 in
theorem incipitref06_Few.calls (k : Nat) (a0_0 : Int) (a0_1 : ByteArray) (a0_2 : ByteArray) (a0_3 : Int) (a0_4 : Int) (a0_5 : Bool) (A0_6 : Option Addr) (c0_6 : Nat) (l0_6 : List (S26)) (a1 : Int) (r : Bool) (w : World) (hr0_6 : Kd.C k26 w A0_6 l0_6.length l0_6) (hc0_6 : l0_6.length ≤ c0_6) (h : incipitref06_Few.f k a0_0 a0_1 a0_2 a0_3 a0_4 a0_5 l0_6 a1 = some r) :
    Calls Tryz.prog 5 #[.agg #[.int .i64 a0_0, .string a0_1, .string a0_2, .int .i64 a0_3, .int .i64 a0_4, .bool a0_5, .slice A0_6 l0_6.length c0_6], .int .i64 a1] w fun e w' => e = .returned (.bool r) ∧ Below w.heap.size w w' := by
  have hu26 := Tryz.underlying26
  have HR0_6 := Aside0.mk hr0_6
  have HC0_6 := Aside0.mk hc0_6
  clear hr0_6 hc0_6
  have HB := Aside0.mk (Below.refl w.heap.size w)
  have H : ((incipitref06_few.f k a0_0 a0_1 a0_2 a0_3 a0_4 a0_5 l0_6 a1).bind fun t178 => (some (decide (t178 ≥ 0)))) = some r := h
  clear h
  replace H := Option.bind_eq_some_iff.mp H
  obtain ⟨t178, A30, H⟩ := H
  replace H : (some (decide (t178 ≥ 0))) = some r := H
  have A3 := Aside0.mk A30
  clear A30
  obtain rfl := Option.some.inj H
  go_enter Tryz.func5, Tryz.ntmps5
  go_wp2_with (first | ((with_reducible refine gate_dst (N := 2) rfl ?_); refine box_event ?hg (N := 2) ?hd (cs := #[.int .i64 a0_0, .string a0_1, .string a0_2, .int .i64 a0_3, .int .i64 a0_4, .bool a0_5, .slice A0_6 l0_6.length c0_6]) (t := 26) ?hr ?_; (case hd => rfl); (case hg => rfl); (case hr => first | (go_simp; done) | (go_simp; rfl)); intro gb177 hg w4 hbox hb; have n0_ := Aside0.mk (below_step (by repeat (first | (with_reducible first | exact HB.out | apply below_alloc | apply pw_below_drewN | apply below_drew1) | exact HB.out)) hb); have n1_ := Aside0.mk (hbox); have n2_ := Aside0.mk ((by rw [hg]; exact (below_size (by repeat (first | (with_reducible first | exact HB.out | apply below_alloc | apply pw_below_drewN | apply below_drew1) | exact HB.out))) : w.heap.size ≤ gb177)); have n3_ := Aside0.mk ((by rw [hg]; exact (below_size (by repeat (first | (with_reducible first | exact HB.out | apply below_alloc | apply pw_below_drewN | apply below_drew1) | exact HB.out))) : w.heap.size ≤ gb177)); clear HB; have HB := n0_; have BK177 := n1_; have GW177 := n2_; have GE177 := n3_; clear n0_ n1_ n2_ n3_; clear hb hbox hg; have hcz5_0 : w4.cell? ⟨gb177, 0, none⟩ = some (.int .i64 a0_0) := (blk_cell BK177.out 0).trans rfl; have hcz5_1 : w4.cell? ⟨gb177, 1, none⟩ = some (.string a0_1) := (blk_cell BK177.out 1).trans rfl; have hcz5_2 : w4.cell? ⟨gb177, 2, none⟩ = some (.string a0_2) := (blk_cell BK177.out 2).trans rfl; have hcz5_3 : w4.cell? ⟨gb177, 3, none⟩ = some (.int .i64 a0_3) := (blk_cell BK177.out 3).trans rfl; have hcz5_4 : w4.cell? ⟨gb177, 4, none⟩ = some (.int .i64 a0_4) := (blk_cell BK177.out 4).trans rfl; have hcz5_5 : w4.cell? ⟨gb177, 5, none⟩ = some (.bool a0_5) := (blk_cell BK177.out 5).trans rfl; have hcz5_6 : w4.cell? ⟨gb177, 6, none⟩ = some (.slice A0_6 l0_6.length c0_6) := (blk_cell BK177.out 6).trans rfl; have hfz5_0 := blk_frozen BK177.out 0; have hfz5_1 := blk_frozen BK177.out 1; have hfz5_2 := blk_frozen BK177.out 2; have hfz5_3 := blk_frozen BK177.out 3; have hfz5_4 := blk_frozen BK177.out 4; have hfz5_5 := blk_frozen BK177.out 5; have hfz5_6 := blk_frozen BK177.out 6) | ((with_reducible refine gate_callee (f := 13) rfl ?_); refine goesL_ (some 7) rfl rfl Tryz.func13 (by kernel_rfl) rfl #[.agg #[.int .i64 a0_0, .string a0_1, .string a0_2, .int .i64 a0_3, .int .i64 a0_4, .bool a0_5, .slice A0_6 l0_6.length c0_6], .int .i64 a1] rfl (by (try simp only [List.map_toArray, List.map_cons, List.map_nil]); first | done | rfl | (simp only [List.length_drop, List.length_take]; rfl)) ?_; (with_reducible refine (incipitref06_few.calls k a0_0 a0_1 a0_2 a0_3 a0_4 a0_5 _ _ l0_6 a1 t178 _ ?side1 ?side2 A3.out).mono ?_); (case side1 => repeat (first | exact (Kd.C_below HR0_6.out HB.out) | (with_reducible refine Kd.C_alloc ?_ _) | (with_reducible refine Kd.C_drewN ?_ _) | (with_reducible refine Kd.C_drew ?_))); (case side2 => exact HC0_6.out); rintro e w6 ⟨rfl, hb⟩; refine ⟨_, rfl, ?_⟩; have n0_ := Aside0.mk (blk_below (g := gb177) (o := .cells #[.int .i64 a0_0, .string a0_1, .string a0_2, .int .i64 a0_3, .int .i64 a0_4, .bool a0_5, .slice A0_6 l0_6.length c0_6] 26 (0, 0)) (by (with_reducible repeat (first | refine blk_drewN ?_ _ | refine blk_drew ?_ | refine blk_alloc ?_ _)); exact BK177.out) hb); have n1_ := Aside0.mk (below_step (by repeat (first | (with_reducible first | exact HB.out | apply below_alloc | apply pw_below_drewN | apply below_drew1 | refine below_set ?_ GE177.out) | exact HB.out)) hb); clear BK177; clear HB; have BK177 := n0_; have HB := n1_; clear n0_ n1_; (try clear hb); (try clear hb2); (try clear hk); (try clear hi)))
  go_ret
  exact ⟨by first | rfl | (simp [errW_none, errW_some] <;> rfl) | (simp [*, errW_none, errW_some] <;> rfl), by repeat (first | (with_reducible first | exact HB.out | apply below_alloc | apply pw_below_drewN | apply below_drew1 | refine below_set ?_ GE177.out) | exact HB.out)⟩

end Go.Proofs.YtjcfjgcnkbbgmaaGreatDoor.PA

namespace Go.Proofs.YtjcfjgcnkbbgmaaGreatDoor.Pl
open Go.RowKit Go.Proofs.YtjcfjgcnkbbgmaaGreatDoor.PA Go.Proofs.YtjcfjgcnkbbgmaaGreatDoorW.PrintWords
set_option linter.unusedVariables false

mutual
/-- What any reading says of a part; of parts. -/
def dt1 : Nd → Prop
  | ⟨k, s, t, n, mm, fl, l⟩ => (i64 n ∧ i64 mm ∧ s.size ≤ 140737488351232 ∧ t.size ≤ 140737488351232) ∧ dtl l
def dtl : List Nd → Prop
  | [] => True
  | x :: r => dt1 x ∧ dtl r
end
theorem dtl_of : ∀ {l : List Nd}, (∀ x ∈ l, dt1 x) → dtl l
  | [], _ => by rw [dtl]; trivial
  | y :: r, h => by rw [dtl]; exact ⟨h y List.mem_cons_self, dtl_of fun x hx => h x (List.mem_cons_of_mem _ hx)⟩
theorem rd_at {l : List Nd} {i : Nat} (hi : i < l.length) : rd_T26 l (i : Int) = l[i] := by
  unfold rd_T26
  rw [Int.toNat_natCast, List.getD_eq_getElem?_getD, List.getElem?_eq_getElem hi]
  rfl
mutual
def fl1 : Nd → Int → Int
  | ⟨k, s, t, n, mm, fl, l⟩, left => flL l (left - 1 - (s.size : Int) - (t.size : Int))
def flL : List Nd → Int → Int
  | [], left => left
  | y :: r, left => if left ≥ 0 then flL r (fl1 y left) else left
end
mutual
theorem fl1_le : ∀ (x : Nd) (left : Int), dt1 x → 0 ≤ left → left ≤ 2147483648 → -1000000000000000 ≤ fl1 x left ∧ (0 ≤ fl1 x left → fl1 x left = left - (wt1 x : Int)) ∧ fl1 x left ≤ left - 1
  | ⟨k, s, t, n, mm, fl, l⟩, left, hd, h0, h1 => by
    rw [dt1] at hd
    have hs := hd.1.2.2.1
    have ht := hd.1.2.2.2
    have h := flL_le l (left - 1 - (s.size : Int) - (t.size : Int)) hd.2 (by omega) (by omega)
    rw [fl1, wt1]
    exact ⟨h.1, fun h2 => by have := h.2.1 h2; omega, by have := h.2.2; omega⟩
theorem flL_le : ∀ (l : List Nd) (left : Int), dtl l → -1000000000000000 ≤ left → left ≤ 2147483648 → -1000000000000000 ≤ flL l left ∧ (0 ≤ flL l left → flL l left = left - (wt l : Int)) ∧ flL l left ≤ left
  | [], left, _, h0, h1 => by
    rw [flL, wt]
    exact ⟨h0, fun _ => by omega, Int.le_refl _⟩
  | y :: r, left, hd, h0, h1 => by
    rw [dtl] at hd
    rw [flL, wt]
    by_cases hp : left ≥ 0
    · rw [if_pos hp]
      have h2 := fl1_le y left hd.1 hp h1
      have h3 := flL_le r (fl1 y left) hd.2 h2.1 (by omega)
      exact ⟨h3.1, fun h4 => by have h5 := h3.2.1 h4; have h6 := h2.2.1 (by have := h3.2.2; omega); omega, by have := h3.2.2; omega⟩
    · rw [if_neg hp]
      exact ⟨h0, fun h4 => absurd h4 hp, Int.le_refl _⟩
end
mutual
def fu1 : Nd → Nat
  | ⟨_, _, _, _, _, _, l⟩ => 1 + fuL l
def fuL : List Nd → Nat
  | [] => 1
  | y :: r => 1 + fu1 y + fuL r
end
mutual
theorem few6_1 : ∀ (x : Nd) (left : Int) (c : Nat), dt1 x → 0 ≤ left → left ≤ 2147483648 → incipitref06_few.f (fu1 x + c) x.f0 x.f1 x.f2 x.f3 x.f4 x.f5 x.f6 left = some (fl1 x left)
  | ⟨k, s, t, n, mm, fl, l⟩, left, c, hd, h0, h1 => by
    rw [dt1] at hd
    have hs := hd.1.2.2.1
    have ht := hd.1.2.2.2
    rw [fu1, show 1 + fuL l + c = (fuL l + c) + 1 by omega, incipitref06_few.f, w64 (x := left - 1) (by omega) (by omega), w64 (x := left - 1 - (s.size : Int)) (by omega) (by omega), w64 (x := left - 1 - (s.size : Int) - (t.size : Int)) (by omega) (by omega), fl1]
    exact few6_L l l 0 (left - 1 - (s.size : Int) - (t.size : Int)) c k n mm fl s t rfl hd.2 (by omega) (by omega)
theorem few6_L : ∀ (l L : List Nd) (i : Nat) (x1 : Int) (c : Nat) (k n mm : Int) (fl : Bool) (s t : ByteArray), L.drop i = l → dtl l → -1000000000000000 ≤ x1 → x1 + (i : Int) ≤ 2147483648 → incipitref06_few.l0 (fuL l + c) x1 (i : Int) k s t n mm fl L = some (flL l x1)
  | [], L, i, x1, c, k, n, mm, fl, s, t, hl, _, _, _ => by
    have := List.drop_eq_nil_iff.1 hl
    rw [fuL, show 1 + c = c + 1 by omega, incipitref06_few.l0, if_neg (by omega), flL]
  | y :: r, L, i, x1, c, k, n, mm, fl, s, t, hl, hd, h0, h1 => by
    rw [dtl] at hd
    have hil : i < L.length := by
      refine Nat.lt_of_not_le fun h => ?_
      rw [List.drop_eq_nil_iff.2 h] at hl
      cases hl
    rw [List.drop_eq_getElem_cons hil, List.cons.injEq] at hl
    rw [fuL, show 1 + fu1 y + fuL r + c = (fu1 y + (fuL r + c)) + 1 by omega, incipitref06_few.l0, if_pos (by omega), flL]
    by_cases hp : x1 ≥ 0
    · have h2 := fl1_le y x1 hd.1 hp (by omega)
      rw [if_pos hp, if_pos hp, if_pos (by omega), rd_at hil, hl.1, few6_1 y x1 (fuL r + c) hd.1 hp (by omega), Option.bind_some, w64 (by omega) (by omega), show (i : Int) + 1 = ((i + 1 : Nat) : Int) by omega, show fu1 y + (fuL r + c) = fuL r + (fu1 y + c) by omega]
      exact few6_L r L (i + 1) (fl1 y x1) (fu1 y + c) k n mm fl s t hl.2 hd.2 h2.1 (by omega)
    · rw [if_neg hp, if_neg hp]
end
theorem Few_f (most : Int) (h0 : 0 ≤ most) (h1 : most ≤ 2147483648) (x : Nd) (hd : dt1 x) (c : Nat) : incipitref06_Few.f (fu1 x + c) x.f0 x.f1 x.f2 x.f3 x.f4 x.f5 x.f6 most = some (decide (fl1 x most ≥ 0)) := by
  unfold incipitref06_Few.f
  rw [few6_1 x most c hd (by omega) (by omega), Option.bind_some]
theorem fl1_wt {most : Int} (h0 : 0 ≤ most) (h1 : most ≤ 2147483648) {x : Nd} (hd : dt1 x) (h : fl1 x most ≥ 0) : (wt1 x : Int) ≤ most := by
  have := (fl1_le x most hd (by omega) (by omega)).2.1 h
  omega
mutual
theorem ok1_of_wt : ∀ x : Nd, dt1 x → wt1 x ≤ 1048576 → ok1 x
  | ⟨k, s, t, n, mm, fl, l⟩, hd, hw => by
    rw [dt1] at hd
    rw [wt1] at hw
    rw [ok1]
    exact ⟨⟨hd.1.1, hd.1.2.1, by omega, by omega⟩, okl_of_wt l hd.2 (by omega)⟩
theorem okl_of_wt : ∀ l : List Nd, dtl l → wt l ≤ 1048576 → okl l
  | [], _, _ => by rw [okl]; trivial
  | y :: r, hd, hw => by
    rw [dtl] at hd
    rw [wt] at hw
    rw [okl]
    exact ⟨ok1_of_wt y hd.1 (by omega), okl_of_wt r hd.2 (by omega)⟩
end
theorem len_wt : ∀ l : List Nd, l.length ≤ wt l
  | [] => by simp
  | x :: r => by rw [List.length_cons, wt]; have := wt1_eta x; have := len_wt r; omega
end Go.Proofs.YtjcfjgcnkbbgmaaGreatDoor.Pl

namespace Go.Proofs.YtjcfjgcnkbbgmaaGreatDoor.RowU8
open Go.ChangeShapes Go.WideShapes Go.ChangeAt Go.RowKit Go.Lib Go.Proofs.YtjcfjgcnkbbgmaaGreatDoor.Pl
set_option linter.unusedVariables false
section
variable {H : Type} {enc : TypeId × Value → H} {W : World} {base : Nat} {spare : Nat → Bool} {held : Bool}
theorem weightsAll_mem {P : Program} {e : TypeId} : ∀ {ds : List (DataW H)} {j : Nat} {d : DataW H}, ds[j]? = some d → ∀ n ∈ d.weights P e, n ∈ DataW.weightsAll P e ds
  | d0 :: ds, 0, d, hd, n, hn => by
    simp only [List.getElem?_cons_zero, Option.some.injEq] at hd
    subst hd
    simp only [DataW.weightsAll, List.mem_append]
    exact Or.inl hn
  | d0 :: ds, j + 1, d, hd, n, hn => by
    simp only [List.getElem?_cons_succ] at hd
    simp only [DataW.weightsAll, List.mem_append]
    exact Or.inr (weightsAll_mem hd n hn)
  | [], _, _, hd, _, _ => by simp at hd
variable (enc W base spare held)
def SRow (fuel : Nat) : Prop := ∀ cs x, DataW.trod enc Tryz.prog W base spare held fuel 22 cs = some x → (∀ n ∈ x.1.weights Tryz.prog 22, n ≤ reachBytes) →
  ∃ A l c, cs = [.slice A (l : List PA.S26).length c] ∧ l.length ≤ c ∧ YtjcfjgcnkbbgmaaGreatDoorW.PrintWords.Kd.C PA.k26 W A l.length l ∧ dtl l
def NRow (fuel : Nat) : Prop := ∀ cs x, DataW.trod enc Tryz.prog W base spare held fuel 26 cs = some x → (∀ n ∈ x.1.weights Tryz.prog 26, n ≤ reachBytes) →
  ∃ (q : PA.S26) (A6 : Option Addr) (c6 : Nat), cs = [.int .i64 q.f0, .string q.f1, .string q.f2, .int .i64 q.f3, .int .i64 q.f4, .bool q.f5, .slice A6 q.f6.length c6] ∧ q.f6.length ≤ c6 ∧ YtjcfjgcnkbbgmaaGreatDoorW.PrintWords.Kd.C PA.k26 W A6 q.f6.length q.f6 ∧ dt1 q
variable {enc W base spare held}
theorem i64_wf {n : Int} (h : (Lit.int .i64 n).wf = true) : i64 n := by
  unfold i64
  simp [Lit.wf, IntKind.min, IntKind.max] at h
  first | omega | (simp [IntKind.signed, IntKind.bits] at h; omega)
theorem cs_int : Tryz.prog.cellsOf 3 = 1 := by kernel_rfl
theorem cs_str : Tryz.prog.cellsOf 9 = 1 := by kernel_rfl
theorem cs_bool : Tryz.prog.cellsOf 4 = 1 := by kernel_rfl
theorem cs_sl : Tryz.prog.cellsOf 22 = 1 := by kernel_rfl
theorem cs_nd : Tryz.prog.cellsOf 26 = 7 := by kernel_rfl
set_option maxRecDepth 100000 in
theorem node_val {fuel : Nat} (ih : ∀ m, m < fuel → SRow enc W base spare held m) : NRow enc W base spare held fuel := by
  intro cs x h hw
  obtain ⟨xs, n, rfl, rfl, hcl, hxl, hf⟩ := DataW.trod_struct Tryz.underlying26 h
  rw [cs_nd] at hcl
  match xs, hxl, cs, hcl with
  | [y0, y1, y2, y3, y4, y5, y6], _, [v0, v1, v2, v3, v4, v5, v6], _ =>
    have g0 := hf 0 _ rfl
    have g1 := hf 1 _ rfl
    have g2 := hf 2 _ rfl
    have g3 := hf 3 _ rfl
    have g4 := hf 4 _ rfl
    have g5 := hf 5 _ rfl
    have g6 := hf 6 _ rfl
    simp [cs_int, cs_str, cs_bool, cs_sl] at g0 g1 g2 g3 g4 g5 g6
    obtain ⟨s0, e0, _, _⟩ := DataW.trod_int Tryz.underlying3 g0
    obtain ⟨s1, e1, rfl, _⟩ := DataW.trod_string Tryz.underlying9 g1
    obtain ⟨s2, e2, rfl, _⟩ := DataW.trod_string Tryz.underlying9 g2
    obtain ⟨s3, e3, _, w3⟩ := DataW.trod_int Tryz.underlying3 g3
    obtain ⟨s4, e4, _, w4⟩ := DataW.trod_int Tryz.underlying3 g4
    obtain ⟨s5, e5, _⟩ := DataW.trod_bool Tryz.underlying4 g5
    have hwe : ∀ (j : Nat) (t : TypeId) (d : DataW H), ([3, 9, 9, 3, 3, 4, 22] : List TypeId)[j]? = some t → ([y0.1, .lit (.string s1.data.toList), .lit (.string s2.data.toList), y3.1, y4.1, y5.1, y6.1] : List (DataW H))[j]? = some d → ∀ n ∈ d.weights Tryz.prog t, n ≤ reachBytes := by
      intro j t d ht hd n hn
      refine hw n ?_
      simp only [DataW.weights, Tryz.underlying26]
      exact DataW.weights_mem_each (ts := [3, 9, 9, 3, 3, 4, 22]) ht hd n hn
    obtain ⟨A6, l6, c6, e6, hc6, hk6, hd6⟩ := ih n (by omega) _ _ g6 (hwe 6 22 _ rfl rfl)
    have z1 := hwe 1 9 _ rfl rfl s1.data.toList.length (by simp [DataW.weights])
    have z2 := hwe 2 9 _ rfl rfl s2.data.toList.length (by simp [DataW.weights])
    simp at e0 e1 e2 e3 e4 e5 e6
    subst e0 e1 e2 e3 e4 e5 e6
    refine ⟨⟨s0, s1, s2, s3, s4, s5, l6⟩, A6, c6, rfl, hc6, hk6, ?_⟩
    rw [dt1]
    exact ⟨⟨i64_wf w3, i64_wf w4, by rw [Array.length_toList] at z1; exact z1, by rw [Array.length_toList] at z2; exact z2⟩, hd6⟩
set_option maxRecDepth 100000 in
theorem nodes_row : ∀ fuel, SRow enc W base spare held fuel := by
  intro fuel
  induction fuel using Nat.strongRecOn with
  | _ fuel ih =>
  intro cs x h hw
  rcases DataW.trod_slice Tryz.underlying22 h with ⟨rfl, rfl⟩ | ⟨ad, len, cap, elems, rest, n, rfl, rfl, rfl, hb, hl, hm, hlen, hel, _, _⟩
  · exact ⟨none, [], 0, rfl, Nat.le_refl _, ⟨rfl, by simp, fun h => absurd h (by simp)⟩, by rw [dtl]; trivial⟩
  · have each : ∀ i, i < len → ∃ (q : PA.S26) (cs : List Value), PA.k26.K W q cs ∧ dt1 q ∧ ∀ j u, cs[j]? = some u → W.cell? (ad.add (i * 7 + j)) = some u := by
      intro i hi
      have h1 := hel i hi
      have hi2 : i < elems.length := by omega
      rw [List.getElem?_eq_getElem hi2, cs_nd] at h1
      obtain ⟨cs', hc, h2⟩ := Option.bind_eq_some_iff.1 h1
      have hwe : ∀ n ∈ elems[i].1.weights Tryz.prog 26, n ≤ reachBytes := by
        intro n hn
        refine hw n ?_
        simp only [DataW.weights, Tryz.underlying22]
        refine List.mem_cons_of_mem _ (List.mem_append.2 (.inl (weightsAll_mem (j := i) (d := elems[i].1) ?_ n hn)))
        rw [List.getElem?_map, List.getElem?_eq_getElem hi2]
        rfl
      obtain ⟨q, A6, c6, rfl, hc6, hk6, hd⟩ := node_val (fun m hm => ih m (by omega)) _ _ h2 hwe
      obtain ⟨_, hlen', hcell⟩ := World.cells?_some hc
      refine ⟨q, _, PA.k26_mk W q hc6 hk6, hd, fun j u hj => ?_⟩
      have hj7 : j < 7 := by
        have := (List.getElem?_eq_some_iff.1 hj).1
        simpa using this
      have := hcell j hj7
      rw [Go.Deep.add_add] at this
      rw [this]
      exact hj
    haveI : Inhabited PA.S26 := ⟨PA.z26⟩
    obtain ⟨q, hq⟩ := Go.Deep.choose_lt each
    refine ⟨some ad, (List.range len).map q, cap, by simp, by simpa using hl, ⟨rfl, by simp; unfold maxLen at hm; omega, fun _ => ⟨ad, rfl, fun j p hj => ?_⟩⟩, ?_⟩
    · obtain ⟨hjl, hp⟩ := List.getElem?_eq_some_iff.1 hj
      have hjl2 : j < len := by simpa using hjl
      have hp2 : q j = p := by simpa using hp
      subst hp2
      obtain ⟨cs', hK, _, hc⟩ := hq j hjl2
      refine ⟨cs', ?_, hK, fun i u hi => hc i u hi⟩
      obtain ⟨A6, c6, rfl, _, _⟩ := PA.k26_open hK
      rfl
    · refine dtl_of fun x hx => ?_
      obtain ⟨j, hj, rfl⟩ := List.mem_map.1 hx
      obtain ⟨_, _, hd, _⟩ := hq j (List.mem_range.1 hj)
      exact hd
end
end Go.Proofs.YtjcfjgcnkbbgmaaGreatDoor.RowU8

namespace Go.Proofs.YtjcfjgcnkbbgmaaGreatDoor.Pure
open Go.RowKit Go.Proofs.YtjcfjgcnkbbgmaaGreatDoorW.PrintWords Go.Proofs.YtjcfjgcnkbbgmaaGreatDoorW.PrintMore Go.Proofs.YtjcfjgcnkbbgmaaGreatDoor.Pl Go.Proofs.YtjcfjgcnkbbgmaaGreatDoor.PA

theorem Ev.const {α : Type} {g : Option α} {r : α} (h : g = some r) : Ev (fun _ => g) r := ⟨0, fun _ _ => h⟩
def sm (x : UInt8) : Bool := decide (97 ≤ x.toNat) && decide (x.toNat ≤ 122)
def dg (x : UInt8) : Bool := decide (48 ≤ x.toNat) && decide (x.toNat ≤ 57)
theorem small_f (x : UInt8) : tags_small.f (x.toNat : Int) = some (sm x) := by
  have h : ∀ n : Fin 256, tags_small.f ((n.val : Nat) : Int) = some (decide (97 ≤ n.val) && decide (n.val ≤ 122)) := by decide +kernel
  exact h ⟨x.toNat, x.toNat_lt⟩
theorem digit_f (x : UInt8) : class_Digit.f (x.toNat : Int) = some (dg x) := by
  have h : ∀ n : Fin 256, class_Digit.f ((n.val : Nat) : Int) = some (decide (48 ≤ n.val) && decide (n.val ≤ 57)) := by decide +kernel
  exact h ⟨x.toNat, x.toNat_lt⟩
/-- May a byte stand in a name, at a place? -/
def okN (d : Bool) (i : Nat) (x : UInt8) : Bool := if sm x = true then true else if 0 < i then (if dg x = true then true else if d = true then decide (x = 45) else false) else false
/-- How long a name is. -/
def nm (d : Bool) : Nat → List UInt8 → Nat
  | _, [] => 0
  | i, x :: t => if okN d i x = true then nm d (i + 1) t + 1 else 0
theorem nm_le (d : Bool) : ∀ (l : List UInt8) (i : Nat), nm d i l ≤ l.length
  | [], _ => Nat.le_refl _
  | x :: t, i => by
    have := nm_le d t (i + 1)
    unfold nm
    split
    · rw [List.length_cons]; omega
    · exact Nat.zero_le _
theorem named_body (d : Bool) (l : List UInt8) (hl : l.length ≤ 1099511627776) (k i : Nat) (x : UInt8) (t : List UInt8) (hd : l.drop i = x :: t) :
    tags_named.l0 (k + 1) (B l) d (i : Int) = if okN d i x = true then tags_named.l0 k (B l) d ((i + 1 : Nat) : Int) else some (B (l.take i), B (l.drop i)) := by
  have hi : i < l.length := by
    rcases Nat.lt_or_ge i l.length with h | h
    · exact h
    · rw [List.drop_of_length_le h] at hd; cases hd
  have hx : l[i] = x := by
    have := List.drop_eq_getElem_cons hi
    rw [hd] at this
    exact (List.cons.inj this).1.symm
  have hbt : bt (B l) (i : Int) = (x.toNat : Int) := by rw [B_bt l i hi, hx]
  have hw : wrap64 ((i : Int) + 1) = ((i + 1 : Nat) : Int) := by rw [w64 (by omega) (by omega)]; omega
  have he1 : (B l).extract 0 ((i : Int)).toNat = B (l.take i) := by rw [Int.toNat_natCast, B_to]
  have he2 : (B l).extract ((i : Int)).toNat (B l).size = B (l.drop i) := by rw [Int.toNat_natCast, B_from l i _ (B_size l)]
  have hsz := B_size l
  have hc : ((i : Int) ≤ ((B l).size : Int)) := by omega
  rw [tags_named.l0, if_pos (by omega), if_pos (by omega), hbt, small_f, hw, he1, he2, digit_f]
  simp only [if_pos hc, Option.bind_some]
  unfold okN
  by_cases hs : sm x = true
  · rw [if_pos hs, if_pos hs, if_pos rfl]
  · rw [if_neg hs, if_neg hs]
    by_cases h0 : 0 < i
    · rw [if_pos (by omega), if_pos h0]
      by_cases hg : dg x = true
      · rw [if_pos hg, if_pos hg, if_pos rfl]
      · rw [if_neg hg, if_neg hg]
        cases d with
        | false => simp
        | true =>
          rw [if_pos rfl, if_pos rfl]
          have e45 : ((x.toNat : Int) = 45) ↔ x = 45 := u8_eq x 45 (by decide)
          by_cases h45 : x = 45
          · rw [if_pos (e45.2 h45), if_pos (decide_eq_true h45)]
          · rw [if_neg (fun e => h45 (e45.1 e)), if_neg (by simpa using h45)]
    · rw [if_neg (by omega), if_neg h0, if_neg (by decide)]
theorem named_end (d : Bool) (l : List UInt8) (k : Nat) : tags_named.l0 (k + 1) (B l) d (l.length : Int) = some (B l, B []) := by
  have hsz := B_size l
  rw [tags_named.l0, if_neg (by omega), if_pos (by omega), if_pos (by omega), Int.toNat_natCast, B_to, B_from l _ _ hsz, List.take_length, List.drop_length]
theorem named_at (d : Bool) (l : List UInt8) (hl : l.length ≤ 1099511627776) : ∀ (m i : Nat), m = l.length - i → i ≤ l.length → Ev (fun k => tags_named.l0 k (B l) d (i : Int)) (B (l.take (i + nm d i (l.drop i))), B (l.drop (i + nm d i (l.drop i))))
  | 0, i, hm, hi => by
    obtain rfl : i = l.length := by omega
    rw [List.drop_length]
    refine Ev.step (fun k => named_end d l k) ?_
    rw [show nm d l.length [] = 0 from rfl, Nat.add_zero, List.take_length, List.drop_length]
    exact Ev.now _
  | m + 1, i, hm, hi => by
    have hlt : i < l.length := by omega
    have hd := List.drop_eq_getElem_cons hlt
    obtain ⟨x, hx⟩ : ∃ x, l[i] = x := ⟨_, rfl⟩
    rw [hx] at hd
    have ih := named_at d l hl m (i + 1) (by omega) (by omega)
    by_cases ho : okN d i x = true
    · refine Ev.step (f := fun k => tags_named.l0 k (B l) d ((i + 1 : Nat) : Int)) (fun k => by rw [named_body d l hl k i x _ hd, if_pos ho]) ?_
      rw [hd, nm, if_pos ho, show i + (nm d (i + 1) (List.drop (i + 1) l) + 1) = (i + 1) + nm d (i + 1) (List.drop (i + 1) l) by omega]
      exact ih
    · refine Ev.step (f := fun _ => some (B (l.take i), B (l.drop i))) (fun k => by rw [named_body d l hl k i x _ hd, if_neg ho]) ?_
      have e0 : nm d i (l.drop i) = 0 := by rw [hd, nm, if_neg ho]
      simp only [e0, Nat.add_zero]
      exact Ev.now _
theorem named_ev (l : List UInt8) (hl : l.length ≤ 1099511627776) (d : Bool) : Ev (fun k => tags_named.f k (B l) d) (B (l.take (nm d 0 l)), B (l.drop (nm d 0 l))) := by
  have := named_at d l hl l.length 0 rfl (Nat.zero_le _)
  rw [Nat.zero_add, List.drop_zero] at this
  exact this
theorem cutp (l p : List UInt8) : strings_CutPrefix.f (B l) (B p) = some (B (Lib.trimPrefix l p), p.isPrefixOf l) := by
  unfold strings_CutPrefix.f Lib.hasPrefix
  rw [B_data, B_data]
  rfl
/-- A text up to the first quote. -/
def up34 : List UInt8 → List UInt8
  | [] => []
  | x :: t => if x = 34 then [] else x :: up34 t
theorem up34_take : ∀ t : List UInt8, t.take (up34 t).length = up34 t
  | [] => rfl
  | x :: t => by
    unfold up34
    split
    · rfl
    · rw [List.length_cons, List.take_succ_cons, up34_take t]
theorem idx34 : ∀ t : List UInt8, Lib.index t [34] = if (34 : UInt8) ∈ t then ((up34 t).length : Int) else -1
  | [] => by rw [if_neg (by simp)]; rfl
  | x :: t => by
    rw [Lib.index, up34]
    by_cases hx : x = 34
    · subst hx
      rw [if_pos (by simp [List.isPrefixOf]), if_pos (by simp), if_pos rfl]
      rfl
    · have hm : (34 : UInt8) ∈ x :: t ↔ (34 : UInt8) ∈ t := by rw [List.mem_cons]; exact ⟨fun h => h.resolve_left (fun e => hx e.symm), .inr⟩
      rw [if_neg (by simp [List.isPrefixOf] <;> exact fun e => hx e.symm), idx34 t, if_neg hx]
      by_cases h : (34 : UInt8) ∈ t
      · rw [if_pos h, if_pos (hm.2 h), if_neg (by simp <;> omega)]
        simp
      · rw [if_neg h, if_neg (fun e => h (hm.1 e))]
        rfl
theorem cut34 (t : List UInt8) : Lib.cut t [34] = if (34 : UInt8) ∈ t then (up34 t, t.drop ((up34 t).length + 1), true) else (t, [], false) := by
  unfold Lib.cut
  rw [idx34]
  by_cases h : (34 : UInt8) ∈ t
  · rw [if_pos h, if_pos (by omega), if_pos h, Int.toNat_natCast, up34_take]
    rfl
  · rw [if_neg h, if_neg (by decide), if_neg h]
/-- A value, up to its quote. -/
def vl : List UInt8 → Option (List UInt8)
  | [] => none
  | x :: t => if x = 34 then some [] else if x = 60 ∨ x = 62 then none else (vl t).map (x :: ·)
def ang (x : UInt8) : Bool := decide (x = 60) || decide (x = 62)
theorem vl_eq : ∀ t : List UInt8, vl t = if (34 : UInt8) ∈ t then (if (up34 t).any ang = true then none else some (up34 t)) else none
  | [] => rfl
  | x :: t => by
    rw [vl, up34]
    by_cases hx : x = 34
    · rw [if_pos hx, if_pos hx, if_pos (by rw [hx]; exact List.mem_cons_self), if_neg (by simp)]
    · have hm : (34 : UInt8) ∈ x :: t ↔ (34 : UInt8) ∈ t := by rw [List.mem_cons]; exact ⟨fun h => h.resolve_left (fun e => hx e.symm), .inr⟩
      rw [if_neg hx, if_neg hx, vl_eq t]
      by_cases h : (34 : UInt8) ∈ t
      · rw [if_pos h, if_pos (hm.2 h), List.any_cons]
        by_cases ha : x = 60 ∨ x = 62
        · rw [if_pos ha, if_pos (by unfold ang; rcases ha with e | e <;> rw [e] <;> rfl)]
        · rw [if_neg ha, show ang x = false by unfold ang; rw [decide_eq_false (fun e => ha (.inl e)), decide_eq_false (fun e => ha (.inr e))]; rfl, Bool.false_or]
          by_cases hb : (up34 t).any ang = true
          · rw [if_pos hb, if_pos hb]; rfl
          · rw [if_neg hb, if_neg hb]; rfl
      · rw [if_neg h, if_neg (fun e => h (hm.1 e))]
        split <;> rfl
theorem vl_len : ∀ (t u : List UInt8), vl t = some u → u.length + 1 ≤ t.length
  | [], u, h => by cases h
  | x :: t, u, h => by
    rw [vl] at h
    split at h
    · cases h; simp
    · split at h
      · cases h
      · obtain ⟨v, hv, rfl⟩ := Option.map_eq_some_iff.1 h
        have := vl_len t v hv
        simp only [List.length_cons]
        omega
theorem ia_any : ∀ l : List UInt8, decide (Lib.indexAny l [60, 62] ≥ 0) = l.any ang
  | [] => rfl
  | x :: t => by
    have ih := ia_any t
    have hge := Lib.indexAny_ge [60, 62] t
    rw [Lib.indexAny, List.any_cons]
    have ha : ([60, 62] : List UInt8).contains x = ang x := by unfold ang; rw [Bool.eq_iff_iff]; simp
    rw [ha]
    by_cases hx : ang x = true
    · rw [if_pos hx, hx, Bool.true_or]; rfl
    · rw [if_neg hx, Bool.eq_false_iff.2 hx, Bool.false_or, ← ih]
      by_cases hm : Lib.indexAny t [60, 62] = -1
      · rw [if_pos (by rw [hm]; rfl), hm]
      · rw [if_neg (by rw [beq_iff_eq]; exact hm), decide_eq_true (by omega), decide_eq_true (by omega)]
/-- An attribute, and how long it is. -/
def att : List UInt8 → Option (S63 × Nat)
  | [] => none
  | x :: r => if x = 32 then (if nm true 0 r = 0 then none else if ([61, 34] : List UInt8).isPrefixOf (r.drop (nm true 0 r)) = true then (vl (r.drop (nm true 0 r + 2))).map (fun u => (⟨B (r.take (nm true 0 r)), B u⟩, nm true 0 r + u.length + 4)) else none) else none
theorem att_len (l : List UInt8) (a) (c : Nat) (h : att l = some (a, c)) : 0 < c ∧ c ≤ l.length := by
  cases l with
  | nil => cases h
  | cons x r =>
    rw [att] at h
    split at h
    · split at h
      · cases h
      · split at h
        · obtain ⟨u, hu, e⟩ := Option.map_eq_some_iff.1 h
          cases e
          have := vl_len _ _ hu
          rw [List.length_drop] at this
          rw [List.length_cons]
          omega
        · cases h
    · cases h
def attR (l : List UInt8) : ByteArray × ByteArray × ByteArray × Bool := match att l with
  | none => (⟨#[]⟩, ⟨#[]⟩, B l, false)
  | some (a, c) => (a.f0, a.f1, B (l.drop c), true)
theorem attr_ev (l : List UInt8) (hl : l.length ≤ 1073741824) : Ev (fun k => tags_attribute.f k (B l)) (attR l) := by
  obtain ⟨r, hr⟩ : ∃ r, Lib.trimPrefix l [32] = r := ⟨_, rfl⟩
  have hrl : r.length ≤ l.length := by rw [← hr]; unfold Lib.trimPrefix; split <;> simp
  have hn := nm_le true r 0
  have c1 : strings_CutPrefix.f (B l) (⟨#[32]⟩ : ByteArray) = some (B r, ([32] : List UInt8).isPrefixOf l) := by rw [← hr]; exact cutp l [32]
  simp only [tags_attribute.f, c1, Option.bind_some]
  refine Ev.bind (named_ev r (by omega) true) (Ev.const ?_)
  obtain ⟨q, hq⟩ : ∃ q, r.drop (nm true 0 r) = q := ⟨_, rfl⟩
  have c2 : strings_CutPrefix.f (B q) (⟨#[61, 34]⟩ : ByteArray) = some (B (Lib.trimPrefix q [61, 34]), ([61, 34] : List UInt8).isPrefixOf q) := cutp q [61, 34]
  have hql : q.length ≤ r.length := by rw [← hq, List.length_drop]; omega
  obtain ⟨v, hv⟩ : ∃ v, Lib.trimPrefix q [61, 34] = v := ⟨_, rfl⟩
  have hvl : v.length ≤ q.length := by rw [← hv]; unfold Lib.trimPrefix; split <;> simp
  have c3 : strings_Cut.f (B v) (⟨#[34]⟩ : ByteArray) = some (B (if (34 : UInt8) ∈ v then up34 v else v), B (if (34 : UInt8) ∈ v then v.drop ((up34 v).length + 1) else []), decide ((34 : UInt8) ∈ v)) := by
    unfold strings_Cut.f
    rw [if_pos (by rw [B_size]; omega), B_data, show (⟨#[34]⟩ : ByteArray).data.toList = [34] from rfl, cut34]
    by_cases h : (34 : UInt8) ∈ v
    · simp only [if_pos h, decide_eq_true h]; rfl
    · simp only [if_neg h, decide_eq_false h]; rfl
  dsimp only
  rw [hq, c2, hv]
  simp only [Option.bind_some]
  rw [c3]
  simp only [Option.bind_some]
  unfold attR
  cases l with
  | nil =>
    rw [if_neg (by decide)]
    rfl
  | cons x t =>
    by_cases hx : x = 32
    · subst hx
      obtain rfl : t = r := by rw [← hr]; simp [Lib.trimPrefix, Lib.hasPrefix, List.isPrefixOf]
      rw [if_pos (by simp [List.isPrefixOf]), att, if_pos rfl, B_toList]
      by_cases h0 : nm true 0 t = 0
      · rw [if_pos (by rw [h0]; rfl), if_pos h0]
      · rw [if_neg (fun e => h0 (by have h1 := congrArg List.length e; rw [List.length_take, List.length_nil] at h1; omega)), if_neg h0, hq]
        by_cases hp : ([61, 34] : List UInt8).isPrefixOf q = true
        · have hv2 : v = q.drop 2 := by rw [← hv]; unfold Lib.trimPrefix Lib.hasPrefix; rw [if_pos hp]; rfl
          have hvd : v = t.drop (nm true 0 t + 2) := by rw [hv2, ← hq, List.drop_drop]
          rw [if_pos hp, if_pos hp, ← hvd, vl_eq]
          by_cases h34 : (34 : UInt8) ∈ v
          · simp only [decide_eq_true h34, if_pos h34, if_true]
            have c4 : strings_ContainsAny.f (B (up34 v)) (⟨#[60, 62]⟩ : ByteArray) = some ((up34 v).any ang) := by
              have hul : (up34 v).length ≤ v.length := by have := congrArg List.length (up34_take v); rw [List.length_take] at this; omega
              unfold strings_ContainsAny.f strings_IndexAny.f
              rw [if_pos ⟨by decide, by decide, by rw [B_size]; omega, by decide⟩, B_data, Option.bind_some, show (⟨#[60, 62]⟩ : ByteArray).data.toList = [60, 62] from rfl, ia_any]
            rw [c4, Option.bind_some]
            by_cases ha : (up34 v).any ang = true
            · rw [if_pos ha, if_pos ha]
              rfl
            · rw [if_neg ha, if_neg ha]
              show some (B _, B _, B _, true) = some (B _, B _, B _, true)
              rw [hvd, List.drop_drop]
              congr 5
              rw [show nm true 0 t + (up34 (List.drop (nm true 0 t + 2) t)).length + 4 = (nm true 0 t + 2 + ((up34 (List.drop (nm true 0 t + 2) t)).length + 1)) + 1 by omega, List.drop_succ_cons]
          · simp only [decide_eq_false h34, if_neg h34]
            rw [if_neg (by decide)]
            rfl
        · rw [if_neg hp, if_neg hp]
    · rw [if_neg (by simp [List.isPrefixOf] <;> exact fun e => hx e.symm), att, if_neg hx]
end Go.Proofs.YtjcfjgcnkbbgmaaGreatDoor.Pure

namespace Go.Proofs.YtjcfjgcnkbbgmaaGreatDoor.Pure
open Go.RowKit Go.Proofs.YtjcfjgcnkbbgmaaGreatDoorW.PrintWords Go.Proofs.YtjcfjgcnkbbgmaaGreatDoorW.PrintMore Go.Proofs.YtjcfjgcnkbbgmaaGreatDoor.Pl Go.Proofs.YtjcfjgcnkbbgmaaGreatDoor.PA

/-- The attributes a text begins with, and what is left. -/
def ats : Nat → List UInt8 → List S63 × List UInt8
  | 0, l => ([], l)
  | f + 1, l => match att l with
    | none => ([], l)
    | some (a, c) => (a :: (ats f (l.drop c)).1, (ats f (l.drop c)).2)
theorem ats_none (f : Nat) (l : List UInt8) (h : att l = none) : ats f l = ([], l) := by
  cases f with
  | zero => rfl
  | succ f => rw [ats, h]
theorem ats_some (f : Nat) (l : List UInt8) (a) (c : Nat) (h : att l = some (a, c)) : ats (f + 1) l = (a :: (ats f (l.drop c)).1, (ats f (l.drop c)).2) := by rw [ats, h]
theorem ats_len : ∀ (f : Nat) (l : List UInt8), (ats f l).1.length + (ats f l).2.length ≤ l.length
  | 0, l => by simp [ats]
  | f + 1, l => by
    cases h : att l with
    | none => rw [ats_none _ _ h]; simp
    | some q =>
      obtain ⟨a, c⟩ := q
      rw [ats_some f l a c h]
      have h1 := att_len l a c h
      have h2 := ats_len f (l.drop c)
      rw [List.length_drop] at h2
      simp only [List.length_cons]
      omega
def endB (nz name : ByteArray) (e v : Bool) (aa : List S63) (r : List UInt8) : ByteArray × Bool × Bool × List S63 × ByteArray × Bool :=
  if ([32, 47, 62] : List UInt8).isPrefixOf r = true then (name, e, true, aa, B (r.drop 3), (nz.toList != ([] : List UInt8)))
  else if ([62] : List UInt8).isPrefixOf r = true then (name, e, v, aa, B (r.drop 1), (nz.toList != ([] : List UInt8))) else (name, e, v, aa, B r, false)
theorem trimp {l p : List UInt8} (h : p.isPrefixOf l = true) : Lib.trimPrefix l p = l.drop p.length := by unfold Lib.trimPrefix Lib.hasPrefix; rw [if_pos h]
theorem trimn {l p : List UInt8} (h : ¬ p.isPrefixOf l = true) : Lib.trimPrefix l p = l := by unfold Lib.trimPrefix Lib.hasPrefix; rw [if_neg h]
theorem begin_at (nz name : ByteArray) (e v : Bool) : ∀ (f : Nat) (l : List UInt8) (acc : List S63), l.length ≤ f → l.length + acc.length ≤ 1073741824 → Ev (fun k => tags_beginning.l0 k nz (B l) name e v acc) (endB nz name e v (acc ++ (ats f l).1) (ats f l).2) := by
  intro f
  induction f with
  | zero =>
    intro l acc h1 h2
    obtain rfl : l = [] := List.length_eq_zero_iff.1 (by omega)
    refine Ev.step (f := fun k => (tags_attribute.f k (B [])).bind fun bt120 => (if bt120.2.2.2 = true then (if acc.length < 4398046511104 then (tags_beginning.l0 k nz bt120.2.2.1 name e v (acc ++ [(⟨bt120.1, bt120.2.1⟩ : S63)])) else (none)) else ((strings_CutPrefix.f (B []) (⟨#[32, 47, 62]⟩ : ByteArray)).bind fun bt128 => (if bt128.2 = true then (some (name, e, true, acc, bt128.1, (nz.toList != ([] : List UInt8)))) else ((strings_CutPrefix.f (B []) (⟨#[62]⟩ : ByteArray)).bind fun bt130 => (if bt130.2 = true then (some (name, e, v, acc, bt130.1, (nz.toList != ([] : List UInt8)))) else (some (name, e, v, acc, bt130.1, false)))))))) (fun k => by rw [tags_beginning.l0]) ?_
    refine Ev.bind (attr_ev [] (by simp)) (Ev.const ?_)
    simp [attR, att, ats, endB, List.isPrefixOf]
    rfl
  | succ f ih =>
    intro l acc h1 h2
    refine Ev.step (f := fun k => (tags_attribute.f k (B l)).bind fun bt120 => (if bt120.2.2.2 = true then (if acc.length < 4398046511104 then (tags_beginning.l0 k nz bt120.2.2.1 name e v (acc ++ [(⟨bt120.1, bt120.2.1⟩ : S63)])) else (none)) else ((strings_CutPrefix.f (B l) (⟨#[32, 47, 62]⟩ : ByteArray)).bind fun bt128 => (if bt128.2 = true then (some (name, e, true, acc, bt128.1, (nz.toList != ([] : List UInt8)))) else ((strings_CutPrefix.f (B l) (⟨#[62]⟩ : ByteArray)).bind fun bt130 => (if bt130.2 = true then (some (name, e, v, acc, bt130.1, (nz.toList != ([] : List UInt8)))) else (some (name, e, v, acc, bt130.1, false)))))))) (fun k => by rw [tags_beginning.l0]) ?_
    refine Ev.bind (attr_ev l (by omega)) ?_
    cases h : att l with
    | none =>
      rw [show attR l = (⟨#[]⟩, ⟨#[]⟩, B l, false) by unfold attR; rw [h], ats_none _ _ h, List.append_nil]
      refine Ev.congr (f := fun _ => ((strings_CutPrefix.f (B l) (⟨#[32, 47, 62]⟩ : ByteArray)).bind fun bt128 => (if bt128.2 = true then (some (name, e, true, acc, bt128.1, (nz.toList != ([] : List UInt8)))) else ((strings_CutPrefix.f (B l) (⟨#[62]⟩ : ByteArray)).bind fun bt130 => (if bt130.2 = true then (some (name, e, v, acc, bt130.1, (nz.toList != ([] : List UInt8)))) else (some (name, e, v, acc, bt130.1, false))))))) (fun k => rfl) (Ev.const ?_)
      have c1 : strings_CutPrefix.f (B l) (⟨#[32, 47, 62]⟩ : ByteArray) = some (B (Lib.trimPrefix l [32, 47, 62]), ([32, 47, 62] : List UInt8).isPrefixOf l) := cutp l [32, 47, 62]
      have c2 : strings_CutPrefix.f (B l) (⟨#[62]⟩ : ByteArray) = some (B (Lib.trimPrefix l [62]), ([62] : List UInt8).isPrefixOf l) := cutp l [62]
      rw [c1, Option.bind_some]
      unfold endB
      by_cases p1 : ([32, 47, 62] : List UInt8).isPrefixOf l = true
      · rw [if_pos p1, if_pos p1, trimp p1]
        rfl
      · rw [if_neg p1, if_neg p1, c2, Option.bind_some]
        by_cases p2 : ([62] : List UInt8).isPrefixOf l = true
        · rw [if_pos p2, if_pos p2, trimp p2]
          rfl
        · rw [if_neg p2, if_neg p2, trimn p2]
    | some q =>
      obtain ⟨a, c⟩ := q
      have h3 := att_len l a c h
      rw [ats_some f l a c h]
      refine Ev.congr (f := fun k => tags_beginning.l0 k nz (B (l.drop c)) name e v (acc ++ [a])) (fun k => by rw [show attR l = (a.f0, a.f1, B (l.drop c), true) by unfold attR; rw [h], if_pos rfl, if_pos (by omega)]) ?_
      have := ih (l.drop c) (acc ++ [a]) (by rw [List.length_drop]; omega) (by rw [List.length_drop, List.length_append, List.length_singleton]; omega)
      rw [List.append_assoc, List.singleton_append] at this
      exact this
theorem begin_ev (t : List UInt8) (ht : t.length ≤ 1073741824) : Ev (fun k => tags_beginning.f k (B t)) (endB (B (t.take (nm false 0 t))) (B (t.take (nm false 0 t))) false false (ats t.length (t.drop (nm false 0 t))).1 (ats t.length (t.drop (nm false 0 t))).2) := by
  unfold tags_beginning.f
  refine Ev.bind (named_ev t (by omega) false) ?_
  have := begin_at (B (t.take (nm false 0 t))) (B (t.take (nm false 0 t))) false false t.length (t.drop (nm false 0 t)) [] (by rw [List.length_drop]; omega) (by rw [List.length_drop]; simp; omega)
  rw [List.nil_append] at this
  exact this
def zT : ByteArray × Bool × Bool × List S63 × Int := (⟨#[]⟩, false, false, [], 0)
/-- The tag a text begins with, and how long it is; 0: there is none. -/
def rdE (u : List UInt8) : ByteArray × Bool × Bool × List S63 × Int :=
  if nm false 0 u = 0 then zT else if ([62] : List UInt8).isPrefixOf (u.drop (nm false 0 u)) = true then (B (u.take (nm false 0 u)), true, false, [], ((nm false 0 u + 3 : Nat) : Int)) else zT
def rdB (t : List UInt8) : ByteArray × Bool × Bool × List S63 × Int :=
  if nm false 0 t = 0 then zT
  else if ([62] : List UInt8).isPrefixOf (ats t.length (t.drop (nm false 0 t))).2 = true then (B (t.take (nm false 0 t)), false, false, (ats t.length (t.drop (nm false 0 t))).1, ((t.length + 1 - (ats t.length (t.drop (nm false 0 t))).2.length + 1 : Nat) : Int))
  else if ([32, 47, 62] : List UInt8).isPrefixOf (ats t.length (t.drop (nm false 0 t))).2 = true then (B (t.take (nm false 0 t)), false, true, (ats t.length (t.drop (nm false 0 t))).1, ((t.length + 1 - (ats t.length (t.drop (nm false 0 t))).2.length + 3 : Nat) : Int)) else zT
def rdT : List UInt8 → ByteArray × Bool × Bool × List S63 × Int
  | [] => zT
  | x :: t => if x = 60 then (if ([47] : List UInt8).isPrefixOf t = true then rdE (t.drop 1) else rdB t) else zT
theorem not_both (r : List UInt8) (h : ([62] : List UInt8).isPrefixOf r = true) : ¬ ([32, 47, 62] : List UInt8).isPrefixOf r = true := by
  cases r with
  | nil => simp [List.isPrefixOf] at h
  | cons x r =>
    simp only [List.isPrefixOf, Bool.and_true, beq_iff_eq] at h
    subst h
    simp [List.isPrefixOf]
theorem read_ev (l : List UInt8) (hl : l.length ≤ 1073741824) : Ev (fun k => tags_Read.f k (B l)) (rdT l) := by
  cases l with
  | nil =>
    refine Ev.congr (f := fun _ => some zT) (fun k => ?_) (Ev.now _)
    unfold tags_Read.f
    rw [show strings_CutPrefix.f (B []) (⟨#[60]⟩ : ByteArray) = some (B [], false) from cutp [] [60], Option.bind_some, if_neg (by decide)]
    rfl
  | cons x t =>
    rw [List.length_cons] at hl
    have c1 : strings_CutPrefix.f (B (x :: t)) (⟨#[60]⟩ : ByteArray) = some (B (Lib.trimPrefix (x :: t) [60]), ([60] : List UInt8).isPrefixOf (x :: t)) := cutp (x :: t) [60]
    by_cases hx : x = 60
    · subst hx
      have p0 : ([60] : List UInt8).isPrefixOf (60 :: t) = true := by simp [List.isPrefixOf]
      rw [trimp p0, p0, show ((60 : UInt8) :: t).drop ([60] : List UInt8).length = t from rfl] at c1
      have c2 : strings_CutPrefix.f (B t) (⟨#[47]⟩ : ByteArray) = some (B (Lib.trimPrefix t [47]), ([47] : List UInt8).isPrefixOf t) := cutp t [47]
      have hsz : ((B (60 :: t)).size : Int) = (t.length : Int) + 1 := by rw [B_size, List.length_cons]; omega
      simp only [tags_Read.f, c1, Option.bind_some, if_true]
      refine Ev.bind (begin_ev t (by omega)) ?_
      simp only [c2, Option.bind_some]
      rw [rdT, if_pos rfl]
      by_cases p1 : ([47] : List UInt8).isPrefixOf t = true
      · simp only [p1, if_true]
        rw [trimp p1, show ([47] : List UInt8).length = 1 from rfl]
        have hu : (t.drop 1).length + 1 ≤ t.length := by
          have := (List.isPrefixOf_iff_prefix.1 p1).length_le
          rw [List.length_drop]
          simp at this
          omega
        obtain ⟨u, hu2⟩ : ∃ u, t.drop 1 = u := ⟨_, rfl⟩
        rw [hu2] at hu ⊢
        have hul : u.length + 1 = t.length := by
          have := (List.isPrefixOf_iff_prefix.1 p1).length_le
          rw [← hu2, List.length_drop]
          simp at this
          omega
        have hnu := nm_le false u 0
        have c3 : strings_CutPrefix.f (B (u.drop (nm false 0 u))) (⟨#[62]⟩ : ByteArray) = some (B (Lib.trimPrefix (u.drop (nm false 0 u)) [62]), ([62] : List UInt8).isPrefixOf (u.drop (nm false 0 u))) := cutp _ [62]
        have he : Ev (fun k => tags_ending.f k (B u)) (if ([62] : List UInt8).isPrefixOf (u.drop (nm false 0 u)) = true then (B (u.take (nm false 0 u)), true, false, [], B ((u.drop (nm false 0 u)).drop 1), ((B (u.take (nm false 0 u))).toList != ([] : List UInt8))) else (B (u.take (nm false 0 u)), true, false, [], B (u.drop (nm false 0 u)), false)) := by
          unfold tags_ending.f
          refine Ev.bind (named_ev u (by omega) false) (Ev.const ?_)
          dsimp only
          rw [c3, Option.bind_some]
          by_cases p2 : ([62] : List UInt8).isPrefixOf (u.drop (nm false 0 u)) = true
          · rw [if_pos p2, if_pos p2, trimp p2]
            rfl
          · rw [if_neg p2, if_neg p2, trimn p2]
        refine Ev.bind he (Ev.const ?_)
        unfold rdE
        by_cases p2 : ([62] : List UInt8).isPrefixOf (u.drop (nm false 0 u)) = true
        · have h2 := (List.isPrefixOf_iff_prefix.1 p2).length_le
          rw [List.length_drop] at h2
          simp only [List.length_singleton] at h2
          rw [if_pos p2, if_pos p2]
          show (if ((B (u.take (nm false 0 u))).toList != ([] : List UInt8)) = true then some (B (u.take (nm false 0 u)), true, false, ([] : List S63), wrap64 (((B (60 :: t)).size : Int) - ((B ((u.drop (nm false 0 u)).drop 1)).size : Int))) else some zT) = _
          rw [B_toList]
          by_cases h0 : nm false 0 u = 0
          · rw [if_pos h0, h0, List.take_zero, if_neg (by decide)]
          · rw [if_neg h0, if_pos (by rw [bne_iff_ne]; exact fun e => h0 (by have h1 := congrArg List.length e; rw [List.length_take, List.length_nil] at h1; omega))]
            rw [hsz, B_size, List.drop_drop, List.length_drop, w64 (by omega) (by omega), show (t.length : Int) + 1 - ((u.length - (nm false 0 u + 1) : Nat) : Int) = ((nm false 0 u + 3 : Nat) : Int) by omega]
        · rw [if_neg p2, if_neg p2]
          exact congrArg some (ite_self (c := nm false 0 u = 0) zT).symm
      · simp only [Bool.eq_false_iff.2 p1]
        refine Ev.const ?_
        have hn := nm_le false t 0
        obtain ⟨q, hq⟩ : ∃ q, ats t.length (t.drop (nm false 0 t)) = q := ⟨_, rfl⟩
        have hql := ats_len t.length (t.drop (nm false 0 t))
        rw [hq, List.length_drop] at hql
        have hb : (List.take (nm false 0 t) t != ([] : List UInt8)) = !decide (nm false 0 t = 0) := by
          rw [Bool.eq_iff_iff]
          simp only [bne_iff_ne, ne_eq, Bool.not_eq_true', decide_eq_false_iff_not]
          refine not_congr ⟨fun e => ?_, fun e => by rw [e]; rfl⟩
          have h1 := congrArg List.length e
          rw [List.length_take, List.length_nil] at h1
          omega
        have key : ∀ (v : Bool) (m : Nat), m ≤ q.2.length → (if ((B (t.take (nm false 0 t))).toList != ([] : List UInt8)) = true then some (B (t.take (nm false 0 t)), false, v, q.1, wrap64 (((B (60 :: t)).size : Int) - ((B (q.2.drop m)).size : Int))) else some zT) =
            some (if nm false 0 t = 0 then zT else (B (t.take (nm false 0 t)), false, v, q.1, ((t.length + 1 - q.2.length + m : Nat) : Int))) := by
          intro v m hm
          rw [B_toList, hb, hsz, B_size, List.length_drop, w64 (by omega) (by omega)]
          by_cases h0 : nm false 0 t = 0
          · rw [decide_eq_true h0, if_neg (by decide), if_pos h0]
          · rw [decide_eq_false h0, if_pos (by decide), if_neg h0, show (t.length : Int) + 1 - ((q.2.length - m : Nat) : Int) = ((t.length + 1 - q.2.length + m : Nat) : Int) by omega]
        unfold rdB
        rw [hq]
        by_cases p3 : ([32, 47, 62] : List UInt8).isPrefixOf q.2 = true
        · have p2 : ¬ ([62] : List UInt8).isPrefixOf q.2 = true := fun h => not_both _ h p3
          have h3 := (List.isPrefixOf_iff_prefix.1 p3).length_le
          rw [if_neg p2, if_pos p3]
          have e1 : endB (B (t.take (nm false 0 t))) (B (t.take (nm false 0 t))) false false q.1 q.2 = (B (t.take (nm false 0 t)), false, true, q.1, B (q.2.drop 3), ((B (t.take (nm false 0 t))).toList != ([] : List UInt8))) := by unfold endB; rw [if_pos p3]
          rw [e1]
          exact key true 3 h3
        · by_cases p2 : ([62] : List UInt8).isPrefixOf q.2 = true
          · have h3 := (List.isPrefixOf_iff_prefix.1 p2).length_le
            rw [if_pos p2]
            have e1 : endB (B (t.take (nm false 0 t))) (B (t.take (nm false 0 t))) false false q.1 q.2 = (B (t.take (nm false 0 t)), false, false, q.1, B (q.2.drop 1), ((B (t.take (nm false 0 t))).toList != ([] : List UInt8))) := by unfold endB; rw [if_neg p3, if_pos p2]
            rw [e1]
            exact key false 1 h3
          · have e1 : endB (B (t.take (nm false 0 t))) (B (t.take (nm false 0 t))) false false q.1 q.2 = (B (t.take (nm false 0 t)), false, false, q.1, B q.2, false) := by unfold endB; rw [if_neg p3, if_neg p2]
            rw [e1, if_neg p2, if_neg p3]
            exact congrArg some (ite_self (c := nm false 0 t = 0) zT).symm
    · have p0 : ¬ ([60] : List UInt8).isPrefixOf (x :: t) = true := by simp [List.isPrefixOf] <;> exact fun e => hx e.symm
      refine Ev.congr (f := fun _ => some zT) (fun k => ?_) ?_
      · unfold tags_Read.f
        rw [c1, Option.bind_some, if_neg p0]
        rfl
      · rw [rdT, if_neg hx]
        exact Ev.now _
end Go.Proofs.YtjcfjgcnkbbgmaaGreatDoor.Pure

namespace Go.Proofs.YtjcfjgcnkbbgmaaGreatDoor.Pure
open Go.RowKit Go.Proofs.YtjcfjgcnkbbgmaaGreatDoorW.PrintWords Go.Proofs.YtjcfjgcnkbbgmaaGreatDoorW.PrintMore Go.Proofs.YtjcfjgcnkbbgmaaGreatDoor.Pl Go.Proofs.YtjcfjgcnkbbgmaaGreatDoor.PA

end Go.Proofs.YtjcfjgcnkbbgmaaGreatDoor.Pure
