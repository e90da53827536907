/-
  Texts of the proof of RenderBase, part 3 of 4: contracts and plain laws. Conditions: see each statement.
-/
import Derived.Test.YtchdkiakdnanhaaGreatDoorProg
import Derived.Conc.MuLone
import Derived.KernelRfl
import Derived.Test.YtchdkiakdnanhaaGreatDoorSRenderBase2
import Derived.Defers
import Derived.RegionCalls
import Derived.Laws.LoneSync
import Derived.Test.YtchdkiakdnanhaaGreatDoorSRenderBase1
import Derived.Test.YtchdkiakdnanhaaGreatDoorWWords
import Derived.Laws.CopyRow
import Derived.Laws.MakeOwn
import Derived.Lib.Bytealg
import Derived.Lib.Strings
import Derived.Lib.Walk
import Derived.Lib.ConvBytes
import Derived.Lib.Hide
import Derived.Laws.Strings3
import Derived.Laws.Closers25
import Derived.Laws.Closers25b
import Derived.BigGuard
import Derived.WalkKit
import Derived.BigCall
import Derived.Deep.RegionHeld3
import Derived.Deep.DeepCutAuto
import Derived.IntWalk
set_option linter.unusedVariables false
set_option linter.unusedSimpArgs false
namespace Go.Proofs.YtchdkiakdnanhaaGreatDoor.PA
open Go.Conc.Locks

abbrev muLink : MuLink := { lock := 90, unlock := 91, ilock := 97, iunlock := 98, lockSlow := 107, unlockSlow := 110, disable := 103, enable := 105, acquire := 106, relMerge := 108, cas32 := 104, add32 := 109, tMutex := 93, tIMutex := 91, tPMutex := 131, tPIMutex := 147, tPI32 := 149, tUP := 64, tNoCopy := 85, tU32 := 87 }
set_option maxRecDepth 100000 in
theorem muLib : MuLib Tryz.prog muLink := ⟨Tryz.func90, Tryz.func91, Tryz.func97, Tryz.func98, Tryz.func103, Tryz.func105, Tryz.func106, Tryz.func108, Tryz.func104, Tryz.func109, Tryz.underlying91, Tryz.runUnderlying91, Tryz.sizeOf91, Tryz.isAgg91, Tryz.zeroValue91, Tryz.underlying93, Tryz.runUnderlying93, Tryz.sizeOf93, Tryz.isAgg93, Tryz.zeroValue93, Tryz.underlying131, Tryz.runUnderlying131, Tryz.sizeOf131, Tryz.isAgg131, Tryz.zeroValue131, Tryz.underlying147, Tryz.runUnderlying147, Tryz.sizeOf147, Tryz.isAgg147, Tryz.zeroValue147, Tryz.underlying149, Tryz.runUnderlying149, Tryz.sizeOf149, Tryz.isAgg149, Tryz.zeroValue149, Tryz.underlying64, Tryz.runUnderlying64, Tryz.sizeOf64, Tryz.isAgg64, Tryz.zeroValue64, Tryz.underlying85, Tryz.runUnderlying85, Tryz.sizeOf85, Tryz.isAgg85, Tryz.zeroValue85, Tryz.underlying21, Tryz.runUnderlying21, Tryz.sizeOf21, Tryz.isAgg21, Tryz.zeroValue21, (by kernel_rfl)⟩
end Go.Proofs.YtchdkiakdnanhaaGreatDoor.PA

namespace Go.Proofs.YtchdkiakdnanhaaGreatDoor.PA
open Go.RowKit Go.MuLone Go.Conc.Locks
set_option linter.unusedVariables false

theorem Bld.keep {B c t k : Nat} {w w' : World} (h : Bld B c t k w) (hs : w.heap.size ≤ w'.heap.size) (hk : ∀ j, B ≤ j → j < w.heap.size → w'.heap[j]? = w.heap[j]?) : Bld B c t k w' := by
  obtain ⟨lc, lt, ct, hc, ht, ⟨tc, r1, r2, r3⟩, ⟨cc, a1, a2, a3, a4, a5⟩⟩ := h
  refine ⟨lc, lt, ct, by omega, by omega, ⟨tc, (hk t lt ht).trans r1, r2, r3⟩, ⟨cc, (hk c lc hc).trans a1, a2, a3, fun j hj => ?_, a5⟩⟩
  obtain ⟨v, h1, gx, cp, e1, e2, e3, e4, e5, e6, e7⟩ := a4 j hj
  exact ⟨v, h1, gx, cp, e1, e2, e3, by omega, e5, e6, fun i hi => (World.cell?_of_block (hk gx e3 e4)).trans (e7 i hi)⟩
/-- What buildOnce leaves. -/
structure Onc (B b : Nat) (w w' : World) : Prop where
  bld : ∃ c t, Bld w.heap.size c t 4 w' ∧ w'.cell? ⟨b, 3, none⟩ = some (.iface 129 (.pointer (some ⟨c, 0, none⟩)))
  bel : Below B w w'
  size : w.heap.size ≤ w'.heap.size
  c0 : w'.cell? ⟨b, 0, none⟩ = w.cell? ⟨b, 0, none⟩
  c1 : w'.cell? ⟨b, 1, none⟩ = w.cell? ⟨b, 1, none⟩
  fz : ∀ j, w'.frozen? ⟨b, j, none⟩ = w.frozen? ⟨b, j, none⟩
set_option maxHeartbeats 2000000 in
set_option maxRecDepth 100000 in
theorem bonce (B b g gc : Nat) (w : World) (h3 : w.cell? ⟨b, 3, none⟩ = some .nilIface) (h4 : w.cell? ⟨b, 4, none⟩ = some (.slice (some ⟨g, 0, none⟩) 8 gc)) (hgc : 8 ≤ gc) (hg : PatsAt g w) (hbl : b < w.heap.size) (hB : B ≤ b) (hfz : ∀ j, w.frozen? ⟨b, j, none⟩ = false) :
    Calls Tryz.prog 73 #[.pointer (some ⟨b, 0, none⟩)] w fun e w' => e = .returned (.tuple #[]) ∧ Onc B b w w' := by
  have HW := hid0 (build_walk b g gc w h4 hgc hg hbl)
  have HZ := hid0 hfz
  clear hfz hg
  go_enter Tryz.func73, Tryz.ntmps73
  go_wp2_with fail
  refine HW.out.mono ?_
  rintro e wm ⟨c, t, rfl, hb, hbel⟩
  have k3 : wm.cell? ⟨b, 3, none⟩ = some .nilIface := by rw [hbel.cell (by exact hbl)]; exact h3
  have k4 : wm.cell? ⟨b, 4, none⟩ = some (.slice (some ⟨g, 0, none⟩) 8 gc) := by rw [hbel.cell (by exact hbl)]; exact h4
  have f3 : wm.frozen? ⟨b, 3, none⟩ = false := by rw [hbel.frozen (by exact hbl)]; exact HZ.out 3
  have f4 : wm.frozen? ⟨b, 4, none⟩ = false := by rw [hbel.frozen (by exact hbl)]; exact HZ.out 4
  have HB := hid0 hb
  have HL := hid0 hbel
  clear hb hbel h3 h4 HW
  go_wp2
  go_end0
  refine ⟨rfl, ?_⟩
  have hne : ∀ (j : Nat) (v v2 : Value), w.heap.size ≤ j → ((wm.setCell ⟨b, 3, none⟩ v).setCell ⟨b, 4, none⟩ v2).heap[j]? = wm.heap[j]? := fun j v v2 hj => by
    rw [Below.heap_setCell _ _ _ _ (by show j ≠ b; omega), Below.heap_setCell _ _ _ _ (by show j ≠ b; omega)]
  refine { bld := ⟨c, t, HB.out.keep (by simp) (fun j hj _ => hne j _ _ hj), ?_⟩, bel := ((HL.out.mono (by omega)).setCell hB _).setCell hB _, size := by have := HL.out.size; simp; exact this, c0 := ?_, c1 := ?_, fz := fun j => ?_ }
  · rw [World.cell?_setCell_other _ ⟨b, 4, none⟩ ⟨b, 3, none⟩ _ (by simp)]
    exact World.cell?_setCell_same _ _ _ k3
  · rw [World.cell?_setCell_other _ ⟨b, 4, none⟩ ⟨b, 0, none⟩ _ (by simp), World.cell?_setCell_other _ ⟨b, 3, none⟩ ⟨b, 0, none⟩ _ (by simp)]
    exact HL.out.cell hbl
  · rw [World.cell?_setCell_other _ ⟨b, 4, none⟩ ⟨b, 1, none⟩ _ (by simp), World.cell?_setCell_other _ ⟨b, 3, none⟩ ⟨b, 1, none⟩ _ (by simp)]
    exact HL.out.cell hbl
  · simp
    exact HL.out.frozen hbl
/-- '(*sync/atomic.Bool).Store(true)', entered as a deferred call. -/
theorem store_d (a : Addr) (x : Value) (u : FrameMode) (w : World) (hc : w.cell? a = some x) (hz : w.frozen? a = false) :
    CallsD Tryz.prog 92 #[.pointer (some a), .bool true] u w fun e u' w' => u' = u ∧ (e = .returned (.tuple #[]) ∧ w' = w.drew.setCell a (.int .u32 1)) := by
  have hc' : w.drew.cell? a = some x := by go_simp
  have hz' : w.drew.frozen? a = false := by go_simp
  have hst := run_call_store (P := Tryz.prog) Tryz.func99 (by kernel_rfl) (by kernel_rfl) (by kernel_rfl) (by kernel_rfl) (k := .u32) (y := 1) hc' hz'
  go_enter_d Tryz.func92, Tryz.ntmps92
  go_wp2
  go_region_calls
  all_goals (go_end0; exact ⟨rfl, rfl⟩)
/-- What Do leaves. -/
def Done (B b : Nat) (w w' : World) : Prop := ∃ c t, Bld w.heap.size c t 4 w' ∧ w'.cell? ⟨b, 3, none⟩ = some (.iface 129 (.pointer (some ⟨c, 0, none⟩))) ∧ Below B w w'
set_option maxRecDepth 100000 in
set_option maxHeartbeats 2000000 in
theorem slow_once (B b : Nat) (w : World) (hr : RepNew B b w) :
    Calls Tryz.prog 82 #[.pointer (some ⟨b, 0, none⟩), .func (.func 73) #[.pointer (some ⟨b, 0, none⟩)] #[]] w fun e w' => e = .returned (.tuple #[]) ∧ Done B b w w' := by
  obtain ⟨g, gc, h4, hgc, hg, hgb, hgB⟩ := hr.c4
  obtain ⟨w1, hw1⟩ : ∃ w1, w.setCell ⟨b, 1, none⟩ (.int .i32 1) = w1 := ⟨_, rfl⟩
  have o : ∀ j, j ≠ 1 → w1.cell? ⟨b, j, none⟩ = w.cell? ⟨b, j, none⟩ := fun j hj => by rw [← hw1]; exact World.cell?_setCell_other _ ⟨b, 1, none⟩ ⟨b, j, none⟩ _ (by intro e; apply hj; have h := congrArg Addr.off e; first | exact h | exact h.symm)
  have hs1 : w1.heap.size = w.heap.size := by rw [← hw1, World.size_setCell]
  have hg1 : PatsAt g w1 := ⟨by rw [hs1]; exact hg.1, fun j hj => by rw [← hw1, World.cell?_of_block (Below.heap_setCell _ _ _ _ (by exact hgb))]; exact hg.2 j hj⟩
  have f1 : ∀ j, w1.frozen? ⟨b, j, none⟩ = false := fun j => by rw [← hw1]; simp [hr.fz j]
  have HO := hid0 (bonce B b g gc w1 ((o 3 (by decide)).trans hr.c3) ((o 4 (by decide)).trans h4) hgc hg1 (by rw [hs1]; exact hr.lt) hr.lo f1)
  have hb1 : Below B w w1 := by rw [← hw1]; exact (Below.refl _ w).setCell hr.lo _
  have c01 := (o 0 (by decide)).trans hr.c0
  have c11 : w1.cell? ⟨b, 1, none⟩ = some (.int .i32 1) := by rw [← hw1]; exact World.cell?_setCell_same _ _ _ hr.c1
  have hl := run_call_load (P := Tryz.prog) Tryz.func89 (by kernel_rfl) (by kernel_rfl) (by kernel_rfl) .u32 (by kernel_rfl) (w := w1) (a := ⟨b, 0, none⟩) (x := 0) c01
  have hnot : ∀ (x : Bool) (w : World), (Op.unary .not (.bool x)).run Tryz.prog w = .ok (.bool (!x)) w := fun _ _ => rfl
  have hlock := hid0 (lock_free muLib ⟨b, 1, none⟩ w hr.c1 (hr.fz 1))
  have HR := hid0 hr
  clear hr h4 hg hg1
  go_enter_defers Tryz.func82, Tryz.ntmps82
  go_wp2_with (first | (go_at_call 90; refine hlock.out.mono ?_; rintro e w' ⟨rfl, rfl⟩; rw [hw1]) | (go_at_call 81; go_in))
  refine HO.out.mono ?_
  rintro e w2 ⟨rfl, ho⟩
  have d0 : w2.cell? ⟨b, 0, none⟩ = some (.int .u32 0) := ho.c0.trans c01
  have d1 : w2.cell? ⟨b, 1, none⟩ = some (.int .i32 1) := ho.c1.trans c11
  have fz : ∀ j, w2.frozen? ⟨b, j, none⟩ = false := fun j => (ho.fz j).trans (f1 j)
  have HN := hid0 ho
  have HF := hid0 fz
  clear ho fz HO hl c01 c11 f1 o hlock
  go_wp2
  refine leaves_cons (f := 92) (args := #[.pointer (some ⟨b, 0, none⟩), .bool true]) (by simp) (by simp [go_sem]) ?_
  refine (store_d ⟨b, 0, none⟩ (.int .u32 0) .returning _ d0 (HF.out 0)).mono ?_
  rintro e u' w3 ⟨rfl, rfl, rfl⟩
  refine leaves_cons (f := 91) (args := #[.pointer (some ⟨b, 1, none⟩)]) (by simp [settle]) (by simp [go_sem]) ?_
  refine (unlock_deferred muLib ⟨b, 1, none⟩ _ _ ?_ (by simp [HF.out 1])).mono ?_
  · refine (World.cell?_setCell_other _ ⟨b, 0, none⟩ ⟨b, 1, none⟩ _ (by simp)).trans ?_
    rw [World.cell?_drew]
    exact d1
  rintro e u' w4 ⟨rfl, rfl, rfl⟩
  obtain ⟨c, t, hb, h3⟩ := HN.out.bld
  have hlo := HR.out.lo
  have hlt := HR.out.lt
  have hfin : Done B b w ((w2.drew.setCell ⟨b, 0, none⟩ (.int .u32 1)).setCell ⟨b, 1, none⟩ (.int .i32 0)) := by
    refine ⟨c, t, hs1 ▸ (hb.keep (by simp) (fun j hj _ => ?_)), ?_, ((hb1.trans HN.out.bel).drew.setCell hlo _).setCell hlo _⟩
    · rw [Below.heap_setCell _ _ _ _ (by show j ≠ b; omega), Below.heap_setCell _ _ _ _ (by show j ≠ b; omega)]
      rfl
    · rw [World.cell?_setCell_other _ ⟨b, 1, none⟩ ⟨b, 3, none⟩ _ (by simp), World.cell?_setCell_other _ ⟨b, 0, none⟩ ⟨b, 3, none⟩ _ (by simp), World.cell?_drew]
      exact h3
  have HFin := hid0 hfin
  clear hfin
  simp [Leaves, settle, results, Tryz.results82]
  exact HFin.out
set_option maxRecDepth 100000 in
set_option maxHeartbeats 1600000 in
/-- Do, not yet done. -/
theorem do_once (B b : Nat) (w : World) (hr : RepNew B b w) :
    Calls Tryz.prog 72 #[.pointer (some ⟨b, 0, none⟩), .func (.func 73) #[.pointer (some ⟨b, 0, none⟩)] #[]] w fun e w' => e = .returned (.tuple #[]) ∧ Done B b w w' := by
  have hl := run_call_load (P := Tryz.prog) Tryz.func89 (by kernel_rfl) (by kernel_rfl) (by kernel_rfl) .u32 (by kernel_rfl) hr.c0
  have hnot : ∀ (x : Bool) (w : World), (Op.unary .not (.bool x)).run Tryz.prog w = .ok (.bool (!x)) w := fun _ _ => rfl
  have HS := hid0 (slow_once B b w hr)
  clear hr
  go_enter Tryz.func72, Tryz.ntmps72
  go_wp2_with (first | (go_at_call 82; refine HS.out.mono ?_; rintro e w' ⟨rfl, hd⟩) | (go_at_call 81; go_in))
  go_end0
  exact ⟨rfl, hd⟩
end Go.Proofs.YtchdkiakdnanhaaGreatDoor.PA

namespace Go.Proofs.YtchdkiakdnanhaaGreatDoor.PA
open Go.RowKit Go.Proofs.YtchdkiakdnanhaaGreatDoor.Pl Go.Proofs.YtchdkiakdnanhaaGreatDoorW.PrintWords
set_option linter.unusedVariables false

theorem neq_nil (a : Option Addr) (l c : Nat) (W : World) : (binOp .neq 36 (.slice a l c) (.slice none 0 0)).run Tryz.prog W = .ok (.bool (!a.isNone)) W := run_neq_slice_nil W 36 5 a l c Tryz.underlying36
/-- What the record holds at a byte. -/
theorem look {b0 c t : Nat} {w : World} (h : Bld b0 c t 4 w) (x : UInt8) :
    (isS x = false ∧ w.cell? ⟨c, x.toNat, none⟩ = some (.slice none 0 0)) ∨
    (isS x = true ∧ ∃ gx cap, w.cell? ⟨c, x.toNat, none⟩ = some (.slice (some ⟨gx, 0, none⟩) (esc x).length cap) ∧ (esc x).length ≤ cap ∧ gx < w.heap.size ∧ ∀ j, j < (esc x).length → w.cell? ⟨gx, j, none⟩ = some (.int .u8 ((esc x).getD j 0).toNat)) := by
  obtain ⟨cc, h1, h2, h3, h4, h5⟩ := h.ary
  have hc : ∀ j, w.cell? ⟨c, j, none⟩ = cc[j]? := fun j => cell_of_row w c j cc _ _ h1
  have hs : ∀ k, k < 4 → x = sgs.getD k 0 → esc x = rps.getD k [] ∧ isS x = true := by
    have h0 : ∀ k : Fin 4, esc (sgs.getD k.val 0) = rps.getD k.val [] ∧ isS (sgs.getD k.val 0) = true := by decide
    intro k hk e
    rw [e]
    exact h0 ⟨k, hk⟩
  by_cases hx : isS x = true
  · have : ∃ k, k < 4 ∧ x = sgs.getD k 0 := by
      unfold isS at hx
      simp only [Bool.or_eq_true, decide_eq_true_eq] at hx
      rcases hx with ((e | e) | e) | e
      · exact ⟨3, by decide, e⟩
      · exact ⟨2, by decide, e⟩
      · exact ⟨1, by decide, e⟩
      · exact ⟨0, by decide, e⟩
    obtain ⟨k, hk, e⟩ := this
    obtain ⟨v, hv, gx, cap, e1, e2, e3, e4, e5, e6, e7⟩ := h4 k hk
    rw [← e] at hv
    rw [← (hs k hk e).1] at e1 e2 e7
    exact .inr ⟨hx, gx, cap, by rw [hc, hv, e1], e2, e4, e7⟩
  · refine .inl ⟨by simpa using hx, ?_⟩
    rw [hc]
    refine h5 x.toNat x.toNat_lt (fun j hj e => hx ?_)
    have : x = sgs.getD j 0 := (UInt8.toNat_inj.1 e).symm
    exact (hs j hj this).2
theorem tos_cell {b0 c t : Nat} {w : World} (h : Bld b0 c t 4 w) (j : Nat) (hj : j < 4) : w.cell? ⟨t, j, none⟩ = some (.string ⟨#[sgs.getD j 0]⟩) := by
  obtain ⟨tc, h1, h2, h3⟩ := h.row
  rw [cell_of_row w t j tc _ _ h1]
  exact h3 j hj
theorem to_cell {b0 c t : Nat} {w : World} (h : Bld b0 c t 4 w) : w.cell? ⟨c, 256, none⟩ = some (.slice (some ⟨t, 0, none⟩) 4 4) := by
  obtain ⟨cc, h1, h2, h3, h4, h5⟩ := h.ary
  rw [cell_of_row w c 256 cc _ _ h1]
  exact h3
/-- How much longer the text gets by the first k signs; how many there are. -/
def sumK (s : List UInt8) (k : Nat) : Nat := [0, s.count 34 * 5, s.count 34 * 5 + s.count 62 * 3, s.count 34 * 5 + s.count 62 * 3 + s.count 60 * 3, s.count 34 * 5 + s.count 62 * 3 + s.count 60 * 3 + s.count 38 * 4].getD k 0
def cntK (s : List UInt8) (k : Nat) : Nat := [0, s.count 34, s.count 34 + s.count 62, s.count 34 + s.count 62 + s.count 60, s.count 34 + s.count 62 + s.count 60 + s.count 38].getD k 0
theorem cntK_le (s : List UInt8) : s.count 34 ≤ s.length ∧ s.count 62 ≤ s.length ∧ s.count 60 ≤ s.length ∧ s.count 38 ≤ s.length := ⟨List.count_le_length, List.count_le_length, List.count_le_length, List.count_le_length⟩
theorem sumK_le (s : List UInt8) (k : Nat) (hk : k ≤ 4) : sumK s k ≤ 20 * s.length := by
  obtain ⟨h1, h2, h3, h4⟩ := cntK_le s
  rcases (by omega : k = 0 ∨ k = 1 ∨ k = 2 ∨ k = 3 ∨ k = 4) with rfl | rfl | rfl | rfl | rfl
  · exact Nat.zero_le _
  · show s.count 34 * 5 ≤ _; omega
  · show s.count 34 * 5 + s.count 62 * 3 ≤ _; omega
  · show s.count 34 * 5 + s.count 62 * 3 + s.count 60 * 3 ≤ _; omega
  · show s.count 34 * 5 + s.count 62 * 3 + s.count 60 * 3 + s.count 38 * 4 ≤ _; omega
/-- The buffer, in which l stands. -/
def Buf (G N : Nat) (l : List UInt8) (W : World) : Prop := ∃ cur : Array Value, W.heap[G]? = some (.cells cur 5 (0, 0)) ∧ cur.size = N ∧ ∀ j, j < l.length → cur[j]? = some (.int .u8 (l.getD j 0).toNat)
theorem buf_one {G N : Nat} {l : List UInt8} {W : World} (h : Buf G N l W) (hl : l.length < N) (x : UInt8) : Buf G N (l ++ [x]) (W.setCell ⟨G, l.length, none⟩ (.int .u8 (x.toNat : Int))) := by
  obtain ⟨cur, h1, h2, h3⟩ := h
  refine ⟨cur.setIfInBounds l.length (.int .u8 (x.toNat : Int)), by rw [setCell_eq_setRow _ _ _ _ _ _ _ h1]; exact setRow_heap _ _ _ _ _ _ h1, by simp [h2], fun j hj => ?_⟩
  rw [List.length_append, List.length_singleton] at hj
  by_cases e : j = l.length
  · subst e
    rw [Array.getElem?_setIfInBounds_self_of_lt (by omega)]
    simp [List.getD_eq_getElem?_getD]
  · rw [Array.getElem?_setIfInBounds_ne (fun e2 => e e2.symm), h3 j (by omega)]
    simp [List.getD_eq_getElem?_getD, List.getElem?_append_left (show j < l.length by omega)]
theorem buf_many {G N : Nat} {l m : List UInt8} {W : World} {cur : Array Value} (h1 : W.heap[G]? = some (.cells cur 5 (0, 0))) (h2 : cur.size = N) (h3 : ∀ j, j < l.length → cur[j]? = some (.int .u8 (l.getD j 0).toNat)) (hl : l.length + m.length ≤ N) :
    Buf G N (l ++ m) (W.setRow G (cur.toList.take l.length ++ m.map (fun y => Value.int .u8 (y.toNat : Int)) ++ cur.toList.drop (l.length + m.length)).toArray) := by
  have hcl : cur.toList.length = N := by simpa using h2
  refine ⟨_, setRow_heap _ _ _ _ _ _ h1, by rw [List.size_toArray, List.length_append, List.length_append, List.length_take, List.length_drop, List.length_map, hcl]; omega, fun j hj => ?_⟩
  rw [List.length_append] at hj
  have hlt : (cur.toList.take l.length).length = l.length := by rw [List.length_take, hcl]; omega
  rw [List.getElem?_toArray, List.append_assoc]
  by_cases e : j < l.length
  · rw [List.getElem?_append_left (by omega), List.getElem?_take, if_pos e, Array.getElem?_toList, h3 j e]
    simp [List.getD_eq_getElem?_getD, List.getElem?_append_left e]
  · rw [List.getElem?_append_right (by omega), hlt, List.getElem?_append_left (by rw [List.length_map]; omega), List.getElem?_map]
    have hj2 : j - l.length < m.length := by omega
    simp [List.getD_eq_getElem?_getD, List.getElem?_append_right (show l.length ≤ j by omega), List.getElem?_eq_getElem hj2]
theorem Bld.drew {b0 c t k : Nat} {w : World} (h : Bld b0 c t k w) : Bld b0 c t k w.drew := by
  obtain ⟨lc, lt, ct, hc, ht, ⟨tc, r1, r2, r3⟩, ⟨cc, a1, a2, a3, a4, a5⟩⟩ := h
  exact ⟨lc, lt, ct, hc, ht, ⟨tc, r1, r2, r3⟩, ⟨cc, a1, a2, a3, a4, a5⟩⟩
set_option maxHeartbeats 8000000 in
set_option maxRecDepth 100000 in
theorem bsr_walk (b0 c t : Nat) (s : List UInt8) (hs : s.length ≤ 268435456) (w : World) (hb : Bld b0 c t 4 w) :
    Calls Tryz.prog 148 #[.pointer (some ⟨c, 0, none⟩), .string (B s)] w fun e w' => e = .returned (.string (B (htm s))) ∧ Below w.heap.size w w' := by
  have hsz : (B s).size = s.length := B_size s
  have h256 := to_cell hb
  have HB := hid0 hb
  clear hb
  by_cases h32 : 32 ≤ s.length
  · have q32 : decide ((32 : Int) ≤ (s.length : Int)) = true := decide_eq_true (by omega)
    go_enter Tryz.func148, Tryz.ntmps148
    go_wp2
    go_loopw [5, 6, 32] (fun v5 v6 v32 wr => ∃ k : Nat, k ≤ 4 ∧ v32 = .int .i64 (k : Int) ∧ v5 = .int .i64 ((s.length + sumK s k : Nat) : Int) ∧ v6 = .bool (decide (0 < cntK s k)) ∧ Hid (Bld b0 c t 4 wr) ∧ Hid (Below w.heap.size w wr)) (fun _ _ v32 _ => 4 - (intOf v32).toNat)
    case atStart => exact ⟨0, by decide, rfl, rfl, rfl, HB, hid0 (Below.refl _ _)⟩
    case round =>
      obtain ⟨k, hk, rfl, rfl, rfl, HD, HBl⟩ := hrel
      rcases (by omega : k = 0 ∨ k = 1 ∨ k = 2 ∨ k = 3 ∨ k = 4) with rfl | rfl | rfl | rfl | rfl
      · have hcnt := hid0 (Tryz.strings_Count_one (B s) 34)
        have hx : (({ data := #[34] } : ByteArray)[0]'(by decide)).toNat = 34 := rfl
        have tk : wr.cell? ⟨t, 0, none⟩ = some (.string ⟨#[34]⟩) := tos_cell HD.out 0 (by decide)
        obtain ⟨a, ha⟩ : ∃ a, s.count 34 = a := ⟨_, rfl⟩
        have hal : a ≤ s.length := by rw [← ha]; exact List.count_le_length
        have e0 : Lib.countByte (B s).data.toList 34 = a := by rw [B_data]; exact ha
        rw [e0] at hcnt
        obtain ⟨gx, cap, hL⟩ : ∃ gx cap, wr.cell? ⟨c, 34, none⟩ = some (.slice (some ⟨gx, 0, none⟩) 6 cap) := by
          rcases look HD.out 34 with ⟨h, _⟩ | ⟨_, gx, cap, h, _⟩
          · cases h
          · exact ⟨gx, cap, h⟩
        have hS : sumK s 1 = sumK s 0 + a * 5 := by rw [← ha]; first | rfl | exact (Nat.zero_add _).symm
        have hZ : cntK s 1 = cntK s 0 + a := by rw [← ha]; first | rfl | exact (Nat.zero_add _).symm
        have hSb := sumK_le s 0 (by decide)
        have HS := hid0 hS
        have HZ := hid0 hZ
        clear hS hZ ha e0
        generalize sumK s 0 = S0 at *
        generalize cntK s 0 = Z0 at *
        by_cases h0 : a = 0
        · have q : ((a : Int) != 0) = false := by rw [h0]; rfl
          go_wp2_with (go_at_call 150; refine (hcnt.out wr).mono ?_; rintro e w' ⟨rfl, rfl⟩)
          go_roundw
          case rel => exact ⟨1, by decide, rfl, by rw [HS.out, h0]; go_num, by rw [HZ.out, h0]; rfl, HD, HBl⟩
          case measure => decide
        · have q : ((a : Int) != 0) = true := bne_iff_ne.2 (by omega)
          have hw : wrap64 ((s.length : Int) + (S0 : Int) + (a : Int) * 5) = ((s.length + (S0 + a * 5) : Nat) : Int) := by rw [w64 (by omega) (by omega)]; omega
          go_wp2_with (go_at_call 150; refine (hcnt.out wr).mono ?_; rintro e w' ⟨rfl, rfl⟩)
          go_region
          go_wp2
          go_roundw
          case rel => exact ⟨1, by decide, rfl, congrArg (Value.int .i64) (by rw [HS.out]; omega), congrArg Value.bool (by rw [HZ.out]; exact (decide_eq_true (by omega)).symm), hid0 HD.out.drew, hid0 HBl.out.drew⟩
          case measure => decide
      · have hcnt := hid0 (Tryz.strings_Count_one (B s) 62)
        have hx : (({ data := #[62] } : ByteArray)[0]'(by decide)).toNat = 62 := rfl
        have tk : wr.cell? ⟨t, 1, none⟩ = some (.string ⟨#[62]⟩) := tos_cell HD.out 1 (by decide)
        obtain ⟨a, ha⟩ : ∃ a, s.count 62 = a := ⟨_, rfl⟩
        have hal : a ≤ s.length := by rw [← ha]; exact List.count_le_length
        have e0 : Lib.countByte (B s).data.toList 62 = a := by rw [B_data]; exact ha
        rw [e0] at hcnt
        obtain ⟨gx, cap, hL⟩ : ∃ gx cap, wr.cell? ⟨c, 62, none⟩ = some (.slice (some ⟨gx, 0, none⟩) 4 cap) := by
          rcases look HD.out 62 with ⟨h, _⟩ | ⟨_, gx, cap, h, _⟩
          · cases h
          · exact ⟨gx, cap, h⟩
        have hS : sumK s 2 = sumK s 1 + a * 3 := by rw [← ha]; first | rfl | exact (Nat.zero_add _).symm
        have hZ : cntK s 2 = cntK s 1 + a := by rw [← ha]; first | rfl | exact (Nat.zero_add _).symm
        have hSb := sumK_le s 1 (by decide)
        have HS := hid0 hS
        have HZ := hid0 hZ
        clear hS hZ ha e0
        generalize sumK s 1 = S0 at *
        generalize cntK s 1 = Z0 at *
        by_cases h0 : a = 0
        · have q : ((a : Int) != 0) = false := by rw [h0]; rfl
          go_wp2_with (go_at_call 150; refine (hcnt.out wr).mono ?_; rintro e w' ⟨rfl, rfl⟩)
          go_roundw
          case rel => exact ⟨2, by decide, rfl, by rw [HS.out, h0]; go_num, by rw [HZ.out, h0]; rfl, HD, HBl⟩
          case measure => decide
        · have q : ((a : Int) != 0) = true := bne_iff_ne.2 (by omega)
          have hw : wrap64 ((s.length : Int) + (S0 : Int) + (a : Int) * 3) = ((s.length + (S0 + a * 3) : Nat) : Int) := by rw [w64 (by omega) (by omega)]; omega
          go_wp2_with (go_at_call 150; refine (hcnt.out wr).mono ?_; rintro e w' ⟨rfl, rfl⟩)
          go_region
          go_wp2
          go_roundw
          case rel => exact ⟨2, by decide, rfl, congrArg (Value.int .i64) (by rw [HS.out]; omega), congrArg Value.bool (by rw [HZ.out]; exact (decide_eq_true (by omega)).symm), hid0 HD.out.drew, hid0 HBl.out.drew⟩
          case measure => decide
      · have hcnt := hid0 (Tryz.strings_Count_one (B s) 60)
        have hx : (({ data := #[60] } : ByteArray)[0]'(by decide)).toNat = 60 := rfl
        have tk : wr.cell? ⟨t, 2, none⟩ = some (.string ⟨#[60]⟩) := tos_cell HD.out 2 (by decide)
        obtain ⟨a, ha⟩ : ∃ a, s.count 60 = a := ⟨_, rfl⟩
        have hal : a ≤ s.length := by rw [← ha]; exact List.count_le_length
        have e0 : Lib.countByte (B s).data.toList 60 = a := by rw [B_data]; exact ha
        rw [e0] at hcnt
        obtain ⟨gx, cap, hL⟩ : ∃ gx cap, wr.cell? ⟨c, 60, none⟩ = some (.slice (some ⟨gx, 0, none⟩) 4 cap) := by
          rcases look HD.out 60 with ⟨h, _⟩ | ⟨_, gx, cap, h, _⟩
          · cases h
          · exact ⟨gx, cap, h⟩
        have hS : sumK s 3 = sumK s 2 + a * 3 := by rw [← ha]; first | rfl | exact (Nat.zero_add _).symm
        have hZ : cntK s 3 = cntK s 2 + a := by rw [← ha]; first | rfl | exact (Nat.zero_add _).symm
        have hSb := sumK_le s 2 (by decide)
        have HS := hid0 hS
        have HZ := hid0 hZ
        clear hS hZ ha e0
        generalize sumK s 2 = S0 at *
        generalize cntK s 2 = Z0 at *
        by_cases h0 : a = 0
        · have q : ((a : Int) != 0) = false := by rw [h0]; rfl
          go_wp2_with (go_at_call 150; refine (hcnt.out wr).mono ?_; rintro e w' ⟨rfl, rfl⟩)
          go_roundw
          case rel => exact ⟨3, by decide, rfl, by rw [HS.out, h0]; go_num, by rw [HZ.out, h0]; rfl, HD, HBl⟩
          case measure => decide
        · have q : ((a : Int) != 0) = true := bne_iff_ne.2 (by omega)
          have hw : wrap64 ((s.length : Int) + (S0 : Int) + (a : Int) * 3) = ((s.length + (S0 + a * 3) : Nat) : Int) := by rw [w64 (by omega) (by omega)]; omega
          go_wp2_with (go_at_call 150; refine (hcnt.out wr).mono ?_; rintro e w' ⟨rfl, rfl⟩)
          go_region
          go_wp2
          go_roundw
          case rel => exact ⟨3, by decide, rfl, congrArg (Value.int .i64) (by rw [HS.out]; omega), congrArg Value.bool (by rw [HZ.out]; exact (decide_eq_true (by omega)).symm), hid0 HD.out.drew, hid0 HBl.out.drew⟩
          case measure => decide
      · have hcnt := hid0 (Tryz.strings_Count_one (B s) 38)
        have hx : (({ data := #[38] } : ByteArray)[0]'(by decide)).toNat = 38 := rfl
        have tk : wr.cell? ⟨t, 3, none⟩ = some (.string ⟨#[38]⟩) := tos_cell HD.out 3 (by decide)
        obtain ⟨a, ha⟩ : ∃ a, s.count 38 = a := ⟨_, rfl⟩
        have hal : a ≤ s.length := by rw [← ha]; exact List.count_le_length
        have e0 : Lib.countByte (B s).data.toList 38 = a := by rw [B_data]; exact ha
        rw [e0] at hcnt
        obtain ⟨gx, cap, hL⟩ : ∃ gx cap, wr.cell? ⟨c, 38, none⟩ = some (.slice (some ⟨gx, 0, none⟩) 5 cap) := by
          rcases look HD.out 38 with ⟨h, _⟩ | ⟨_, gx, cap, h, _⟩
          · cases h
          · exact ⟨gx, cap, h⟩
        have hS : sumK s 4 = sumK s 3 + a * 4 := by rw [← ha]; first | rfl | exact (Nat.zero_add _).symm
        have hZ : cntK s 4 = cntK s 3 + a := by rw [← ha]; first | rfl | exact (Nat.zero_add _).symm
        have hSb := sumK_le s 3 (by decide)
        have HS := hid0 hS
        have HZ := hid0 hZ
        clear hS hZ ha e0
        generalize sumK s 3 = S0 at *
        generalize cntK s 3 = Z0 at *
        by_cases h0 : a = 0
        · have q : ((a : Int) != 0) = false := by rw [h0]; rfl
          go_wp2_with (go_at_call 150; refine (hcnt.out wr).mono ?_; rintro e w' ⟨rfl, rfl⟩)
          go_roundw
          case rel => exact ⟨4, by decide, rfl, by rw [HS.out, h0]; go_num, by rw [HZ.out, h0]; rfl, HD, HBl⟩
          case measure => decide
        · have q : ((a : Int) != 0) = true := bne_iff_ne.2 (by omega)
          have hw : wrap64 ((s.length : Int) + (S0 : Int) + (a : Int) * 4) = ((s.length + (S0 + a * 4) : Nat) : Int) := by rw [w64 (by omega) (by omega)]; omega
          go_wp2_with (go_at_call 150; refine (hcnt.out wr).mono ?_; rintro e w' ⟨rfl, rfl⟩)
          go_region
          go_wp2
          go_roundw
          case rel => exact ⟨4, by decide, rfl, congrArg (Value.int .i64) (by rw [HS.out]; omega), congrArg Value.bool (by rw [HZ.out]; exact (decide_eq_true (by omega)).symm), hid0 HD.out.drew, hid0 HBl.out.drew⟩
          case measure => decide
      · have e5 : s.length + sumK s 4 = (htm s).length := by rw [htm_count]; show _ + (s.count 34 * 5 + s.count 62 * 3 + s.count 60 * 3 + s.count 38 * 4) = _; omega
        have e6 : decide (0 < cntK s 4) = s.any isS := (any_count s).symm
        rw [e5, e6]
        clear e5 e6 hk
        obtain ⟨wo, hwo⟩ : ∃ wo, wo = wr := ⟨wr, rfl⟩
        subst hwo
        cases hA : s.any isS with
        | false =>
          have hfin := htm_no s hA
          clear hA
          go_wp2
          go_ret
          exact ⟨congrArg (fun z => Ending.returned (.string (B z))) hfin.symm, HBl.out⟩
        | true =>
          obtain ⟨N, hN⟩ : ∃ N, (htm s).length = N := ⟨_, rfl⟩
          have hNb := htm_len s
          rw [hN] at hNb ⊢
          have hm : (Instr.makeSlice 36 (.int .i64 (N : Int)) (.int .i64 (N : Int))).run Tryz.prog wo = .ok (.slice (some ⟨wo.heap.size, 0, none⟩) N N) (wo.alloc (.cells (madeCells #[.int .u8 0] N) 5)) := by
            obtain ⟨i0, hi, hz0, hz1, hz2⟩ := info_parts (show (Tryz.prog.info? 5).map (fun i => (i.zero, i.size, i.bytes)) = some (some (.int .u8 0), 1, 1) by kernel_rfl)
            have h := run_make (P := Tryz.prog) wo 36 5 i0 (.int .u8 0) Tryz.underlying36 hi hz0 .i64 .i64 (N : Int) (N : Int) (by omega) (Int.le_refl _) (by rw [hz2]; omega) (by omega)
            rw [hz1, Int.toNat_natCast, Nat.mul_one] at h
            exact h
          have hbuf0 : Buf wo.heap.size N (htm (s.take 0)) (wo.alloc (.cells (madeCells #[.int .u8 0] N) 5)) := ⟨_, heap_alloc_new _ _, size_madeCells _ _, fun j hj => by simp [htm] at hj⟩
          have HB0 := hid0 hbuf0
          have hwr := HBl.out.size
          clear hbuf0
          go_wp2
          go_loopw [13, 14] (fun v13 v14 wr => ∃ k : Nat, k ≤ s.length ∧ v14 = .int .i64 (k : Int) ∧ v13 = .int .i64 ((htm (s.take k)).length : Int) ∧ Hid (Buf wo.heap.size N (htm (s.take k)) wr) ∧ Hid (Below wo.heap.size wo wr)) (fun _ v14 _ => s.length - (intOf v14).toNat)
          case atStart => exact ⟨0, Nat.zero_le _, rfl, rfl, HB0, hid0 ((Below.refl _ wo).alloc (Nat.le_refl _) _)⟩
          case round =>
            obtain ⟨k, hk, rfl, rfl, HU, HW⟩ := hrel
            clear HB0 hm
            by_cases hkn : k < s.length
            · have hks : k < (B s).size := by omega
              have hi : (B s)[k]'hks = s[k] := List.getElem_toArray hkn
              have hlt := htm_take_lt s k
              rw [hN] at hlt
              obtain ⟨x, hx⟩ : ∃ x, s[k] = x := ⟨_, rfl⟩
              rw [hx] at hi
              have htk : htm (s.take (k + 1)) = htm (s.take k) ++ esc x := by rw [← hx]; exact htm_take s k hkn
              have hel := esc_len x
              obtain ⟨l, hl⟩ : ∃ l, htm (s.take k) = l := ⟨_, rfl⟩
              have hlt2 := htm_take_lt s (k + 1)
              rw [hN, htk, List.length_append] at hlt2
              rw [hl] at htk hlt hlt2 HU ⊢
              obtain ⟨cur, hu1, hu2, hu3⟩ := HU.out
              have hdc := HD.out.hc
              have hxl := x.toNat_lt
              have fG : ∀ j, wr.frozen? ⟨wo.heap.size, j, none⟩ = false := fun j => by simp [World.frozen?, hu1]
              have fGl := fG l.length
              rcases look HD.out x with ⟨hxn, hcell⟩ | ⟨hxs, gx, cap, hcell, hcap, hgx, hby⟩
              · have hc1 : wr.cell? ⟨c, x.toNat, none⟩ = some (.slice none 0 0) := by rw [HW.out.cell (by exact hdc)]; exact hcell
                have hq := neq_nil none 0 0
                have hG : ∃ v, wr.cell? ⟨wo.heap.size, l.length, none⟩ = some v := ⟨cur[l.length]'(by omega), by rw [cell_of_row wr _ _ cur _ _ hu1]; exact Array.getElem?_eq_getElem (by omega)⟩
                obtain ⟨v, hG⟩ := hG
                have hstep := hid0 (buf_one HU.out (show l.length < N by omega) x)
                rw [esc_no x hxn] at htk hel
                rw [← htk] at hstep
                have hlen : (htm (s.take (k + 1))).length = l.length + 1 := by rw [htk, List.length_append]; rfl
                have HLn := hid0 hlen
                have HBel := hid0 (HW.out.setCell (p := ⟨wo.heap.size, l.length, none⟩) (Nat.le_refl _) (.int .u8 (x.toNat : Int)))
                have hll : l.length < N := by omega
                clear hu1 hu3 htk hlen hcell hlt hlt2 hx hA
                go_wp2
                go_roundw
                case rel => exact ⟨k + 1, hkn, by go_num, by rw [HLn.out]; go_num, hstep, HBel⟩
                case measure => simp [intOf]; omega
              · have hc1 : wr.cell? ⟨c, x.toNat, none⟩ = some (.slice (some ⟨gx, 0, none⟩) (esc x).length cap) := by rw [HW.out.cell (by exact hdc)]; exact hcell
                have hq := neq_nil (some ⟨gx, 0, none⟩) (esc x).length cap
                have hll : l.length < N := by omega
                obtain ⟨i0, hi0, hz0, hz1, hz2⟩ := info_parts (show (Tryz.prog.info? 5).map (fun i => (i.zero, i.size, i.bytes)) = some (some (.int .u8 0), 1, 1) by kernel_rfl)
                have hcut := cut_from (P := Tryz.prog) 36 5 .i64 Tryz.underlying36 hi0 1 hz1 (some ⟨wo.heap.size, 0, none⟩) N N (l.length : Int) (by omega) (by omega)
                have hadd : ∀ g j : Nat, (⟨g, 0, none⟩ : Addr).add j = ⟨g, j, none⟩ := by
                  intro g j
                  unfold Addr.add
                  split
                  · rename_i e; subst e; rfl
                  · simp
                rw [Int.toNat_natCast, if_neg (by omega), Nat.mul_one, Option.map_some, hadd] at hcut
                have hml : ((esc x).map (fun y => Value.int .u8 (y.toNat : Int))).length = (esc x).length := List.length_map _
                have hcp := fun ty => run_copy_row (P := Tryz.prog) wr.drew 36 36 ty 5 wo.heap.size l.length (N - l.length) (N - l.length) ⟨gx, 0, none⟩ (esc x).length cap cur 5 ((esc x).map (fun y => Value.int .u8 (y.toNat : Int))) Tryz.underlying36 (by rw [hi0]; simp [hz1]) hu1 (by rw [hml]; exact (Nat.min_eq_left (by omega)).symm) (by
                  intro j v hj
                  have hj2 : j < (esc x).length := by
                    have := (List.getElem?_eq_some_iff.1 hj).1
                    rwa [hml] at this
                  rw [hadd, World.cell?_drew, HW.out.cell (by exact hgx), hby j hj2, ← hj, List.getElem?_map, List.getD_eq_getElem?_getD, List.getElem?_eq_getElem hj2]
                  rfl) (by rw [hml]; omega) (by
                  intro v hv
                  obtain ⟨y, _, rfl⟩ := List.mem_map.1 hv
                  rfl)
                rw [hml] at hcp
                have hstep := hid0 (buf_many (W := wr.drew) hu1 hu2 hu3 (show l.length + (esc x).length ≤ N by omega))
                rw [← htk] at hstep
                have HLn := hid0 (show (htm (s.take (k + 1))).length = l.length + (esc x).length by rw [htk, List.length_append])
                have HBel := hid0 (below_setRow (HW.out.drew) (Nat.le_refl _) (cur.toList.take l.length ++ (esc x).map (fun y => Value.int .u8 (y.toNat : Int)) ++ cur.toList.drop (l.length + (esc x).length)).toArray)
                clear hu1 hu3 htk hcell hlt hx hA hby hadd hi0 hz0 hz1 hz2 hml fG fGl
                generalize (cur.toList.take l.length ++ (esc x).map (fun y => Value.int .u8 (y.toNat : Int)) ++ cur.toList.drop (l.length + (esc x).length)).toArray = nc at hcp hstep HBel
                generalize (esc x).length = M at *
                go_wp2
                go_region
                go_wp2
                go_roundw
                case rel => exact ⟨k + 1, hkn, by go_num, by rw [HLn.out]; go_num, hstep, HBel⟩
                case measure => simp [intOf]; omega
            · obtain rfl : k = s.length := by omega
              obtain ⟨cur, hu1, hu2, hu3⟩ := HU.out
              rw [List.take_length] at hu3
              have kc : (convert 36 9 (.slice (some ⟨wo.heap.size, 0, none⟩) N N)).run Tryz.prog wr = .ok (.string ⟨(htm s).toArray⟩) wr := by
                rw [← hN]
                refine run_convert_bytes_back (P := Tryz.prog) wr 36 9 5 ⟨wo.heap.size, 0, none⟩ _ (htm s) Tryz.underlying36 Tryz.underlying5 Tryz.underlying9 (fun j hj => ?_)
                have hadd : (⟨wo.heap.size, 0, none⟩ : Addr).add j = ⟨wo.heap.size, j, none⟩ := by
                  unfold Addr.add
                  split
                  · rename_i e; subst e; rfl
                  · simp
                rw [hadd, cell_of_row wr _ _ cur _ _ hu1, hu3 j hj, List.getD_eq_getElem?_getD, List.getElem?_eq_getElem hj]
                rfl
              clear hu1 hu3 hA
              go_wp2
              go_ret
              exact ⟨rfl, HBl.out.trans (HW.out.mono hwr)⟩
  · have q32 : decide ((32 : Int) ≤ (s.length : Int)) = false := decide_eq_false (by omega)
    go_enter Tryz.func148, Tryz.ntmps148
    go_wp2
    go_loopw [5, 6, 10] (fun v5 v6 v10 wr => ∃ k : Nat, k ≤ s.length ∧ v10 = .int .i64 (k : Int) ∧ v5 = .int .i64 (((htm (s.take k)).length + (s.length - k) : Nat) : Int) ∧ v6 = .bool ((s.take k).any isS) ∧ Hid (Bld b0 c t 4 wr) ∧ Hid (Below w.heap.size w wr)) (fun _ _ v10 _ => s.length - (intOf v10).toNat)
    case atStart => exact ⟨0, Nat.zero_le _, rfl, congrArg (Value.int .i64) (by simp [htm]), rfl, HB, hid0 (Below.refl _ _)⟩
    case round =>
      obtain ⟨k, hk, rfl, rfl, rfl, HD, HBl⟩ := hrel
      by_cases hkn : k < s.length
      · have hks : k < (B s).size := by omega
        have hi : (B s)[k]'hks = s[k] := List.getElem_toArray hkn
        obtain ⟨x, hx⟩ : ∃ x, s[k] = x := ⟨_, rfl⟩
        have htk : htm (s.take (k + 1)) = htm (s.take k) ++ esc x := by rw [← hx]; exact htm_take s k hkn
        have hany : (s.take (k + 1)).any isS = ((s.take k).any isS || isS x) := by rw [List.take_succ_eq_append_getElem hkn, List.any_append, ← hx]; simp; rfl
        rw [hx] at hi
        have hlen : (htm (s.take (k + 1))).length + (s.length - (k + 1)) = (htm (s.take k)).length + (s.length - k) + ((esc x).length - 1) := by
          have := esc_len x
          rw [htk, List.length_append]
          omega
        have hbd := (htm_len (s.take k)).2
        rw [List.length_take] at hbd
        have hxl := x.toNat_lt
        have HLn := hid0 hlen
        have HAn := hid0 hany
        have hel := esc_len x
        obtain ⟨N1, hN1⟩ : ∃ N1, (htm (s.take k)).length + (s.length - k) = N1 := ⟨_, rfl⟩
        have hNb : N1 ≤ 7 * s.length := by omega
        rw [hN1] at HLn ⊢
        clear htk hany hlen hx hN1
        rcases look HD.out x with ⟨hxn, hcell⟩ | ⟨hxs, gx, cap, hcell, hcap, hgx, hby⟩
        · have hq := neq_nil none 0 0
          have e1 : (esc x).length = 1 := by rw [esc_no x hxn]; rfl
          go_wp2
          go_roundw
          case rel => exact ⟨k + 1, hkn, by go_num, by rw [HLn.out, e1]; rfl, by rw [HAn.out, hxn, Bool.or_false], HD, HBl⟩
          case measure => simp [intOf]; omega
        · have hq := neq_nil (some ⟨gx, 0, none⟩) (esc x).length cap
          obtain ⟨M, hM⟩ : ∃ M, (esc x).length = M := ⟨_, rfl⟩
          rw [hM] at hq hcell hel HLn
          clear hM hby hcap
          go_wp2
          go_roundw
          case rel => exact ⟨k + 1, hkn, by go_num, by rw [HLn.out]; first | go_num | exact congrArg (Value.int .i64) (by omega), by rw [HAn.out, hxs, Bool.or_true], HD, HBl⟩
          case measure => simp [intOf]; omega
      · obtain rfl : k = s.length := by omega
        have e5 : (htm (s.take s.length)).length + (s.length - s.length) = (htm s).length := by rw [List.take_length]; omega
        rw [e5, List.take_length]
        clear e5 hk hkn
        obtain ⟨wo, hwo⟩ : ∃ wo, wo = wr := ⟨wr, rfl⟩
        subst hwo
        cases hA : s.any isS with
        | false =>
          have hfin := htm_no s hA
          clear hA
          go_wp2
          go_ret
          exact ⟨congrArg (fun z => Ending.returned (.string (B z))) hfin.symm, HBl.out⟩
        | true =>
          obtain ⟨N, hN⟩ : ∃ N, (htm s).length = N := ⟨_, rfl⟩
          have hNb := htm_len s
          rw [hN] at hNb ⊢
          have hm : (Instr.makeSlice 36 (.int .i64 (N : Int)) (.int .i64 (N : Int))).run Tryz.prog wo = .ok (.slice (some ⟨wo.heap.size, 0, none⟩) N N) (wo.alloc (.cells (madeCells #[.int .u8 0] N) 5)) := by
            obtain ⟨i0, hi, hz0, hz1, hz2⟩ := info_parts (show (Tryz.prog.info? 5).map (fun i => (i.zero, i.size, i.bytes)) = some (some (.int .u8 0), 1, 1) by kernel_rfl)
            have h := run_make (P := Tryz.prog) wo 36 5 i0 (.int .u8 0) Tryz.underlying36 hi hz0 .i64 .i64 (N : Int) (N : Int) (by omega) (Int.le_refl _) (by rw [hz2]; omega) (by omega)
            rw [hz1, Int.toNat_natCast, Nat.mul_one] at h
            exact h
          have hbuf0 : Buf wo.heap.size N (htm (s.take 0)) (wo.alloc (.cells (madeCells #[.int .u8 0] N) 5)) := ⟨_, heap_alloc_new _ _, size_madeCells _ _, fun j hj => by simp [htm] at hj⟩
          have HB0 := hid0 hbuf0
          have hwr := HBl.out.size
          clear hbuf0
          go_wp2
          go_loopw [13, 14] (fun v13 v14 wr => ∃ k : Nat, k ≤ s.length ∧ v14 = .int .i64 (k : Int) ∧ v13 = .int .i64 ((htm (s.take k)).length : Int) ∧ Hid (Buf wo.heap.size N (htm (s.take k)) wr) ∧ Hid (Below wo.heap.size wo wr)) (fun _ v14 _ => s.length - (intOf v14).toNat)
          case atStart => exact ⟨0, Nat.zero_le _, rfl, rfl, HB0, hid0 ((Below.refl _ wo).alloc (Nat.le_refl _) _)⟩
          case round =>
            obtain ⟨k, hk, rfl, rfl, HU, HW⟩ := hrel
            clear HB0 hm
            by_cases hkn : k < s.length
            · have hks : k < (B s).size := by omega
              have hi : (B s)[k]'hks = s[k] := List.getElem_toArray hkn
              have hlt := htm_take_lt s k
              rw [hN] at hlt
              obtain ⟨x, hx⟩ : ∃ x, s[k] = x := ⟨_, rfl⟩
              rw [hx] at hi
              have htk : htm (s.take (k + 1)) = htm (s.take k) ++ esc x := by rw [← hx]; exact htm_take s k hkn
              have hel := esc_len x
              obtain ⟨l, hl⟩ : ∃ l, htm (s.take k) = l := ⟨_, rfl⟩
              have hlt2 := htm_take_lt s (k + 1)
              rw [hN, htk, List.length_append] at hlt2
              rw [hl] at htk hlt hlt2 HU ⊢
              obtain ⟨cur, hu1, hu2, hu3⟩ := HU.out
              have hdc := HD.out.hc
              have hxl := x.toNat_lt
              have fG : ∀ j, wr.frozen? ⟨wo.heap.size, j, none⟩ = false := fun j => by simp [World.frozen?, hu1]
              have fGl := fG l.length
              rcases look HD.out x with ⟨hxn, hcell⟩ | ⟨hxs, gx, cap, hcell, hcap, hgx, hby⟩
              · have hc1 : wr.cell? ⟨c, x.toNat, none⟩ = some (.slice none 0 0) := by rw [HW.out.cell (by exact hdc)]; exact hcell
                have hq := neq_nil none 0 0
                have hG : ∃ v, wr.cell? ⟨wo.heap.size, l.length, none⟩ = some v := ⟨cur[l.length]'(by omega), by rw [cell_of_row wr _ _ cur _ _ hu1]; exact Array.getElem?_eq_getElem (by omega)⟩
                obtain ⟨v, hG⟩ := hG
                have hstep := hid0 (buf_one HU.out (show l.length < N by omega) x)
                rw [esc_no x hxn] at htk hel
                rw [← htk] at hstep
                have hlen : (htm (s.take (k + 1))).length = l.length + 1 := by rw [htk, List.length_append]; rfl
                have HLn := hid0 hlen
                have HBel := hid0 (HW.out.setCell (p := ⟨wo.heap.size, l.length, none⟩) (Nat.le_refl _) (.int .u8 (x.toNat : Int)))
                have hll : l.length < N := by omega
                clear hu1 hu3 htk hlen hcell hlt hlt2 hx hA
                go_wp2
                go_roundw
                case rel => exact ⟨k + 1, hkn, by go_num, by rw [HLn.out]; go_num, hstep, HBel⟩
                case measure => simp [intOf]; omega
              · have hc1 : wr.cell? ⟨c, x.toNat, none⟩ = some (.slice (some ⟨gx, 0, none⟩) (esc x).length cap) := by rw [HW.out.cell (by exact hdc)]; exact hcell
                have hq := neq_nil (some ⟨gx, 0, none⟩) (esc x).length cap
                have hll : l.length < N := by omega
                obtain ⟨i0, hi0, hz0, hz1, hz2⟩ := info_parts (show (Tryz.prog.info? 5).map (fun i => (i.zero, i.size, i.bytes)) = some (some (.int .u8 0), 1, 1) by kernel_rfl)
                have hcut := cut_from (P := Tryz.prog) 36 5 .i64 Tryz.underlying36 hi0 1 hz1 (some ⟨wo.heap.size, 0, none⟩) N N (l.length : Int) (by omega) (by omega)
                have hadd : ∀ g j : Nat, (⟨g, 0, none⟩ : Addr).add j = ⟨g, j, none⟩ := by
                  intro g j
                  unfold Addr.add
                  split
                  · rename_i e; subst e; rfl
                  · simp
                rw [Int.toNat_natCast, if_neg (by omega), Nat.mul_one, Option.map_some, hadd] at hcut
                have hml : ((esc x).map (fun y => Value.int .u8 (y.toNat : Int))).length = (esc x).length := List.length_map _
                have hcp := fun ty => run_copy_row (P := Tryz.prog) wr.drew 36 36 ty 5 wo.heap.size l.length (N - l.length) (N - l.length) ⟨gx, 0, none⟩ (esc x).length cap cur 5 ((esc x).map (fun y => Value.int .u8 (y.toNat : Int))) Tryz.underlying36 (by rw [hi0]; simp [hz1]) hu1 (by rw [hml]; exact (Nat.min_eq_left (by omega)).symm) (by
                  intro j v hj
                  have hj2 : j < (esc x).length := by
                    have := (List.getElem?_eq_some_iff.1 hj).1
                    rwa [hml] at this
                  rw [hadd, World.cell?_drew, HW.out.cell (by exact hgx), hby j hj2, ← hj, List.getElem?_map, List.getD_eq_getElem?_getD, List.getElem?_eq_getElem hj2]
                  rfl) (by rw [hml]; omega) (by
                  intro v hv
                  obtain ⟨y, _, rfl⟩ := List.mem_map.1 hv
                  rfl)
                rw [hml] at hcp
                have hstep := hid0 (buf_many (W := wr.drew) hu1 hu2 hu3 (show l.length + (esc x).length ≤ N by omega))
                rw [← htk] at hstep
                have HLn := hid0 (show (htm (s.take (k + 1))).length = l.length + (esc x).length by rw [htk, List.length_append])
                have HBel := hid0 (below_setRow (HW.out.drew) (Nat.le_refl _) (cur.toList.take l.length ++ (esc x).map (fun y => Value.int .u8 (y.toNat : Int)) ++ cur.toList.drop (l.length + (esc x).length)).toArray)
                clear hu1 hu3 htk hcell hlt hx hA hby hadd hi0 hz0 hz1 hz2 hml fG fGl
                generalize (cur.toList.take l.length ++ (esc x).map (fun y => Value.int .u8 (y.toNat : Int)) ++ cur.toList.drop (l.length + (esc x).length)).toArray = nc at hcp hstep HBel
                generalize (esc x).length = M at *
                go_wp2
                go_region
                go_wp2
                go_roundw
                case rel => exact ⟨k + 1, hkn, by go_num, by rw [HLn.out]; go_num, hstep, HBel⟩
                case measure => simp [intOf]; omega
            · obtain rfl : k = s.length := by omega
              obtain ⟨cur, hu1, hu2, hu3⟩ := HU.out
              rw [List.take_length] at hu3
              have kc : (convert 36 9 (.slice (some ⟨wo.heap.size, 0, none⟩) N N)).run Tryz.prog wr = .ok (.string ⟨(htm s).toArray⟩) wr := by
                rw [← hN]
                refine run_convert_bytes_back (P := Tryz.prog) wr 36 9 5 ⟨wo.heap.size, 0, none⟩ _ (htm s) Tryz.underlying36 Tryz.underlying5 Tryz.underlying9 (fun j hj => ?_)
                have hadd : (⟨wo.heap.size, 0, none⟩ : Addr).add j = ⟨wo.heap.size, j, none⟩ := by
                  unfold Addr.add
                  split
                  · rename_i e; subst e; rfl
                  · simp
                rw [hadd, cell_of_row wr _ _ cur _ _ hu1, hu3 j hj, List.getD_eq_getElem?_getD, List.getElem?_eq_getElem hj]
                rfl
              clear hu1 hu3 hA
              go_wp2
              go_ret
              exact ⟨rfl, HBl.out.trans (HW.out.mono hwr)⟩
end Go.Proofs.YtchdkiakdnanhaaGreatDoor.PA

namespace Go.Proofs.YtchdkiakdnanhaaGreatDoor.PA
open Go.RowKit Go.Proofs.YtchdkiakdnanhaaGreatDoor.Pl Go.Proofs.YtchdkiakdnanhaaGreatDoorW.PrintWords
set_option linter.unusedVariables false

set_option maxHeartbeats 2000000 in
set_option maxRecDepth 100000 in
theorem replace_walk (b0 b : Nat) (s : List UInt8) (hs : s.length ≤ 268435456) (w : World) (hr : RepNew b0 b w) (hb0 : b0 ≤ w.heap.size) :
    Calls Tryz.prog 57 #[.pointer (some ⟨b, 0, none⟩), .string (B s)] w fun e w' => e = .returned (.string (B (htm s))) ∧ Below b0 w w' := by
  have hmf : ∀ (fn : Fn) (first cap : Array Value) (w : World), (Instr.makeFunc fn first cap).run Tryz.prog w = .ok (.func fn first cap) w := fun _ _ _ _ => rfl
  have hmeth : ∀ (v : Value) (W : World), (method 289 129 v "Replace").run Tryz.prog W = .ok (148, v) W := fun _ _ => by kernel_rfl
  have HO := hid0 (do_once b0 b w hr)
  clear hr
  go_enter Tryz.func57, Tryz.ntmps57
  go_wp2_with (first | (go_at_call 72; refine HO.out.mono ?_; rintro e w1 ⟨rfl, c, t, hb, h3, hbel⟩; have HB := hid0 (bsr_walk w.heap.size c t s hs w1 hb); have HL := hid0 hbel; clear hb hbel) | (go_at_call 148; refine HB.out.mono ?_; rintro e w2 ⟨rfl, hb2⟩; have HM := hid0 (HL.out.trans (hb2.mono (by have := HL.out.size; omega))); clear hb2))
  go_ret
  exact ⟨rfl, HM.out⟩
set_option maxHeartbeats 2000000 in
set_option maxRecDepth 100000 in
theorem html_walk (s : List UInt8) (hs : s.length ≤ 268435456) (w : World) :
    Calls Tryz.prog 39 #[.string (B s)] w fun e w' => e = .returned (.string (B (htm s))) ∧ Below w.heap.size w w' := by
  have hpat : PatsAt w.heap.size (w.alloc (.cells (pats.map Value.string).toArray 9)) := by
    refine ⟨by simp, fun j hj => ?_⟩
    have h1 : (w.alloc (.cells (pats.map Value.string).toArray 9)).cell? ⟨w.heap.size, j, none⟩ = (pats.map Value.string).toArray[j]? := by simp
    rw [h1, List.getElem?_toArray, List.getElem?_map, List.getD_eq_getElem?_getD, List.getElem?_eq_getElem (show j < pats.length from hj)]
    rfl
  have HN := hid0 (newRep w.heap.size _ hpat)
  clear hpat
  go_enter Tryz.func39, Tryz.ntmps39
  go_wp2_with fail
  refine HN.out.mono ?_
  rintro e w1 ⟨b, rfl, hr, hb⟩
  rw [World.size_alloc] at hr hb
  have hb1 : Below w.heap.size w w1 := ((Below.refl _ w).alloc (Nat.le_refl _) _).trans (hb.mono (Nat.le_succ _))
  have hbs := hb.size
  rw [World.size_alloc] at hbs
  have HR := hid0 (replace_walk (w.heap.size + 1) b s hs w1 hr hbs)
  have HB := hid0 hb1
  clear hb hr HN hb1
  go_wp2_with (go_at_call 57; refine HR.out.mono ?_; rintro e w2 ⟨rfl, hb2⟩; have HM := hid0 (HB.out.trans (hb2.mono (Nat.le_succ _))); clear hb2)
  go_ret
  exact ⟨rfl, HM.out⟩
def escape_Html.f (a0 : ByteArray) : Option ByteArray := if a0.size ≤ 268435456 then some (B (htm a0.data.toList)) else none
theorem escape_Html.calls (a0 : ByteArray) (r : ByteArray) (w : World) (h : escape_Html.f a0 = some r) :
    Calls Tryz.prog 39 #[.string a0] w fun e w' => e = .returned (.string r) ∧ Below w.heap.size w w' := by
  unfold escape_Html.f at h
  split at h
  · rename_i hc
    obtain rfl := Option.some.inj h
    exact html_walk a0.data.toList (by rw [Array.length_toList]; exact hc) w
  · cases h
end Go.Proofs.YtchdkiakdnanhaaGreatDoor.PA

namespace Go.Proofs.YtchdkiakdnanhaaGreatDoor.PA
open Go.RowKit Go.Proofs.YtchdkiakdnanhaaGreatDoor.Pl Go.Proofs.YtchdkiakdnanhaaGreatDoorW.PrintWords
set_option linter.unusedVariables false
theorem or32 (x : UInt8) : bits .or .u8 (x.toNat : Int) 32 = ((x.toNat ||| 32 : Nat) : Int) := by
  have h : ∀ y : Fin 256, bits .or .u8 (y.val : Int) 32 = ((y.val ||| 32 : Nat) : Int) := by decide +kernel
  exact h ⟨x.toNat, x.toNat_lt⟩

def ltr (x : UInt8) : Bool := decide (97 ≤ (x.toNat ||| 32)) && decide ((x.toNat ||| 32) ≤ 122)
def dgt (x : UInt8) : Bool := decide (48 ≤ x.toNat) && decide (x.toNat ≤ 57)
def plL : List UInt8 := [33, 35, 36, 37, 40, 41, 42, 43, 44, 45, 46, 47, 58, 59, 61, 63, 64, 95, 126]
theorem pln_eq (x : UInt8) : pln x = (ltr x || dgt x || decide (0 ≤ Lib.indexByte plL x)) := by
  have h : ∀ y : Fin 256, pln (UInt8.ofNat y.val) = (ltr (UInt8.ofNat y.val) || dgt (UInt8.ofNat y.val) || decide (0 ≤ Lib.indexByte plL (UInt8.ofNat y.val))) := by decide +kernel
  have := h ⟨x.toNat, x.toNat_lt⟩
  simpa using this
theorem ltr_any (x : UInt8) (w : World) : Calls Tryz.prog 60 #[.int .u8 (x.toNat : Int)] w fun e w' => e = .returned (.bool (ltr x)) ∧ w' = w := by
  have h32 := or32 x
  by_cases h1 : 97 ≤ (x.toNat ||| 32)
  · have hl : ltr x = decide ((x.toNat ||| 32) ≤ 122) := by unfold ltr; rw [decide_eq_true h1, Bool.true_and]
    have q : decide ((97 : Int) ≤ ((x.toNat ||| 32 : Nat) : Int)) = true := decide_eq_true (by omega)
    have q2 : decide (((x.toNat ||| 32 : Nat) : Int) ≤ 122) = ltr x := by rw [hl]; exact decide_eq_decide.2 (by omega)
    have Q := Lib.hid q2
    clear hl q2
    go_enter Tryz.func60, Tryz.ntmps60
    go_wp2
    go_ret
    exact ⟨congrArg (fun z => Ending.returned (.bool z)) Q.out, rfl⟩
  · have hl : ltr x = false := by unfold ltr; rw [decide_eq_false h1, Bool.false_and]
    have q : decide ((97 : Int) ≤ ((x.toNat ||| 32 : Nat) : Int)) = false := decide_eq_false (by omega)
    rw [hl]
    clear hl h1
    go_enter Tryz.func60, Tryz.ntmps60
    go_wp2
    go_ret
    exact ⟨rfl, rfl⟩
theorem dgt_any (x : UInt8) (w : World) : Calls Tryz.prog 61 #[.int .u8 (x.toNat : Int)] w fun e w' => e = .returned (.bool (dgt x)) ∧ w' = w := by
  by_cases h1 : 48 ≤ x.toNat
  · have hl : dgt x = decide (x.toNat ≤ 57) := by unfold dgt; rw [decide_eq_true h1, Bool.true_and]
    have q : decide ((48 : Int) ≤ (x.toNat : Int)) = true := decide_eq_true (by omega)
    have q2 : decide ((x.toNat : Int) ≤ 57) = dgt x := by rw [hl]; exact decide_eq_decide.2 (by omega)
    have Q := Lib.hid q2
    clear hl q2
    go_enter Tryz.func61, Tryz.ntmps61
    go_wp2
    go_ret
    exact ⟨congrArg (fun z => Ending.returned (.bool z)) Q.out, rfl⟩
  · have hl : dgt x = false := by unfold dgt; rw [decide_eq_false h1, Bool.false_and]
    have q : decide ((48 : Int) ≤ (x.toNat : Int)) = false := decide_eq_false (by omega)
    rw [hl]
    clear hl h1
    go_enter Tryz.func61, Tryz.ntmps61
    go_wp2
    go_ret
    exact ⟨rfl, rfl⟩
def hexT : ByteArray := ⟨#[48, 49, 50, 51, 52, 53, 54, 55, 56, 57, 65, 66, 67, 68, 69, 70]⟩
theorem hexT_at : ∀ j : Fin 16, (hexT[j.val]'(by have := j.isLt; exact this)) = hxd16 j.val := by decide
theorem and15 (x : UInt8) : bits .and .u8 (x.toNat : Int) 15 = ((x.toNat % 16 : Nat) : Int) := by
  have h : ∀ y : Fin 256, bits .and .u8 (y.val : Int) 15 = ((y.val % 16 : Nat) : Int) := by decide +kernel
  exact h ⟨x.toNat, x.toNat_lt⟩
set_option maxHeartbeats 4000000 in
set_option maxRecDepth 100000 in
theorem href_walk (s : List UInt8) (hs : s.length ≤ 1048576) (w : World) :
    Calls Tryz.prog 44 #[.string (B s)] w fun e w' => e = .returned (.string (B (hrf s))) ∧ Below w.heap.size w w' := by
  have hsz : (B s).size = s.length := B_size s
  go_enter Tryz.func44, Tryz.ntmps44
  go_wp2
  go_loopw [8] (fun v8 wr => ∃ k : Nat, k ≤ s.length ∧ v8 = .int .i64 (k : Int) ∧ Hid (Lib.IsBuilder 38 5 w.heap.size w.heap.size (Lib.byteCells (hrf (s.take k))) wr) ∧ Hid (Below w.heap.size w wr)) (fun v8 _ => s.length - (intOf v8).toNat)
  case atStart => exact ⟨0, Nat.zero_le _, rfl, Lib.hid (Lib.fresh_isBuilder _ _ w), Lib.hid ((Below.refl _ w).alloc (Nat.le_refl _) _)⟩
  case round =>
    obtain ⟨k, hk, rfl, HI, HB⟩ := hrel
    by_cases hkn : k < s.length
    · have hks : k < (B s).size := by omega
      have hi : (B s)[k]'hks = s[k] := List.getElem_toArray hkn
      obtain ⟨x, hx⟩ : ∃ x, s[k] = x := ⟨_, rfl⟩
      have htk : hrf (s.take (k + 1)) = hrf (s.take k) ++ adr x := by
        rw [List.take_succ_eq_append_getElem hkn, hrf_append, ← hx]
        simp [hrf]
        try rfl
      rw [hx] at hi
      have hbd := (hrf_len (s.take k)).2
      rw [List.length_take] at hbd
      have HX := Lib.hid (show (hrf (s.take k)).length ≤ 6291456 by omega)
      have HT := Lib.hid htk
      have hbs := HB.out.size
      have hxl := x.toNat_lt
      clear htk hbd hx
      generalize hrf (s.take k) = acc at *
      have e38 := u8_eq x 38 (by decide)
      have e39 := u8_eq x 39 (by decide)
      by_cases h38 : x = 38
      · have q : ((x.toNat : Int) == 38) = true := beq_iff_eq.2 (e38.2 h38)
        have HA := Lib.hid (show adr x = [38, 97, 109, 112, 59] by unfold adr; rw [if_pos h38])
        clear e38 e39 h38
        go_wp2_with (go_at_call 19; refine (Tryz.Builder_WriteString w.heap.size w.heap.size _ ⟨#[38, 97, 109, 112, 59]⟩ _ HI.out (by have := HX.out; rw [Lib.byteCells_length]; show _ + 5 ≤ _; omega) hbs).mono ?_; rintro e w1 ⟨rfl, h1, b1⟩)
        have HI1 := Lib.hid h1
        have HB1 := Lib.hid (HB.out.trans b1)
        clear h1 b1
        go_wp2
        go_roundw
        case rel =>
          refine ⟨k + 1, hkn, by go_num, ?_, HB1⟩
          rw [HT.out, HA.out, Lib.byteCells_append]
          exact Lib.hid (.inr HI1.out)
        case measure => simp [intOf]; omega
      · have q : ((x.toNat : Int) == 38) = false := beq_eq_false_iff_ne.2 (fun e => h38 (e38.1 e))
        by_cases h39 : x = 39
        · have q2 : ((x.toNat : Int) == 39) = true := beq_iff_eq.2 (e39.2 h39)
          have HA := Lib.hid (show adr x = [38, 35, 51, 57, 59] by unfold adr; rw [if_neg h38, if_pos h39])
          clear e38 e39 h38 h39
          go_wp2_with (go_at_call 19; refine (Tryz.Builder_WriteString w.heap.size w.heap.size _ ⟨#[38, 35, 51, 57, 59]⟩ _ HI.out (by have := HX.out; rw [Lib.byteCells_length]; show _ + 5 ≤ _; omega) hbs).mono ?_; rintro e w1 ⟨rfl, h1, b1⟩)
          have HI1 := Lib.hid h1
          have HB1 := Lib.hid (HB.out.trans b1)
          clear h1 b1
          go_wp2
          go_roundw
          case rel =>
            refine ⟨k + 1, hkn, by go_num, ?_, HB1⟩
            rw [HT.out, HA.out, Lib.byteCells_append]
            exact Lib.hid (.inr HI1.out)
          case measure => simp [intOf]; omega
        · have q2 : ((x.toNat : Int) == 39) = false := beq_eq_false_iff_ne.2 (fun e => h39 (e39.1 e))
          have hadr : adr x = if pln x = true then [x] else [37, hxd16 (x.toNat / 16), hxd16 (x.toNat % 16)] := by unfold adr; rw [if_neg h38, if_neg h39]
          have hpl := pln_eq x
          have HL := Lib.hid (ltr_any x)
          have HDg := Lib.hid (dgt_any x)
          have HIx := Lib.hid (Tryz.strings_IndexByte ⟨#[33, 35, 36, 37, 40, 41, 42, 43, 44, 45, 46, 47, 58, 59, 61, 63, 64, 95, 126]⟩ (x.toNat : Int))
          have ex : (x.toNat : Int).toNat.toUInt8 = x := by rw [Int.toNat_natCast]; simp [Nat.toUInt8]
          rw [ex] at HIx
          obtain ⟨R, hR⟩ : ∃ R, Lib.indexByte plL x = R := ⟨_, rfl⟩
          rw [hR] at hpl
          change Hid (∀ W, Calls _ _ _ W fun e w' => e = .returned (.int .i64 (Lib.indexByte plL x)) ∧ w' = W) at HIx
          rw [hR] at HIx
          clear e38 e39 h38 h39 ex hR
          cases hL : ltr x with
          | true =>
            rw [hL] at hpl HL
            have HA := Lib.hid (show adr x = [x] by rw [hadr, hpl]; rfl)
            clear hL hpl hadr
            go_wp2_with (first | (go_at_call 60; refine (HL.out _).mono ?_; rintro e w1 ⟨rfl, rfl⟩) | (go_at_call 22; refine (Tryz.Builder_WriteByte w.heap.size w.heap.size _ (x.toNat : Int) _ HI.out (by have := HX.out; simp only [List.length_append, Lib.byteCells_length, List.length_cons, List.length_nil]; omega) hbs).mono ?_; rintro e w1 ⟨rfl, h1, b1⟩))
            have HI1 := Lib.hid h1
            have HB1 := Lib.hid (HB.out.trans b1)
            clear h1 b1
            go_wp2
            go_roundw
            case rel =>
              refine ⟨k + 1, hkn, by go_num, ?_, HB1⟩
              rw [HT.out, HA.out, Lib.byteCells_append]
              exact Lib.hid (.inr HI1.out)
            case measure => simp [intOf]; omega
          | false =>
            rw [hL] at hpl HL
            cases hD : dgt x with
            | true =>
              rw [hD] at hpl HDg
              have HA := Lib.hid (show adr x = [x] by rw [hadr, hpl]; rfl)
              clear hL hD hpl hadr
              go_wp2_with (first | (go_at_call 60; refine (HL.out _).mono ?_; rintro e w1 ⟨rfl, rfl⟩) | (go_at_call 61; refine (HDg.out _).mono ?_; rintro e w1 ⟨rfl, rfl⟩) | (go_at_call 22; refine (Tryz.Builder_WriteByte w.heap.size w.heap.size _ (x.toNat : Int) _ HI.out (by have := HX.out; simp only [List.length_append, Lib.byteCells_length, List.length_cons, List.length_nil]; omega) hbs).mono ?_; rintro e w1 ⟨rfl, h1, b1⟩))
              have HI1 := Lib.hid h1
              have HB1 := Lib.hid (HB.out.trans b1)
              clear h1 b1
              go_wp2
              go_roundw
              case rel =>
                refine ⟨k + 1, hkn, by go_num, ?_, HB1⟩
                rw [HT.out, HA.out, Lib.byteCells_append]
                exact Lib.hid (.inr HI1.out)
              case measure => simp [intOf]; omega
            | false =>
              rw [hD] at hpl HDg
              by_cases h0 : 0 ≤ R
              · have HA := Lib.hid (show adr x = [x] by rw [hadr, hpl, decide_eq_true h0]; rfl)
                have q3 : decide (0 ≤ R) = true := decide_eq_true h0
                clear hL hD hpl hadr h0
                go_wp2_with (first | (go_at_call 60; refine (HL.out _).mono ?_; rintro e w1 ⟨rfl, rfl⟩) | (go_at_call 61; refine (HDg.out _).mono ?_; rintro e w1 ⟨rfl, rfl⟩) | (go_at_call 62; refine (HIx.out _).mono ?_; rintro e w1 ⟨rfl, rfl⟩) | (go_at_call 22; refine (Tryz.Builder_WriteByte w.heap.size w.heap.size _ (x.toNat : Int) _ HI.out (by have := HX.out; simp only [List.length_append, Lib.byteCells_length, List.length_cons, List.length_nil]; omega) hbs).mono ?_; rintro e w1 ⟨rfl, h1, b1⟩))
                have HI1 := Lib.hid h1
                have HB1 := Lib.hid (HB.out.trans b1)
                clear h1 b1
                go_wp2
                go_roundw
                case rel =>
                  refine ⟨k + 1, hkn, by go_num, ?_, HB1⟩
                  rw [HT.out, HA.out, Lib.byteCells_append]
                  exact Lib.hid (.inr HI1.out)
                case measure => simp [intOf]; omega
              · have HA := Lib.hid (show adr x = [37, hxd16 (x.toNat / 16), hxd16 (x.toNat % 16)] by rw [hadr, hpl, decide_eq_false h0]; rfl)
                have q3 : decide (0 ≤ R) = false := decide_eq_false h0
                obtain ⟨y1, hy1⟩ : ∃ y, hxd16 (x.toNat / 16) = y := ⟨_, rfl⟩
                obtain ⟨y2, hy2⟩ : ∃ y, hxd16 (x.toNat % 16) = y := ⟨_, rfl⟩
                rw [hy1, hy2] at HA
                have hx1 : ((⟨#[48, 49, 50, 51, 52, 53, 54, 55, 56, 57, 65, 66, 67, 68, 69, 70]⟩ : ByteArray)[x.toNat / 16]'(by show _ < 16; omega)) = y1 := by rw [← hy1]; exact hexT_at ⟨x.toNat / 16, by omega⟩
                have hx2 : ((⟨#[48, 49, 50, 51, 52, 53, 54, 55, 56, 57, 65, 66, 67, 68, 69, 70]⟩ : ByteArray)[x.toNat % 16]'(by show _ < 16; omega)) = y2 := by rw [← hy2]; exact hexT_at ⟨x.toNat % 16, by omega⟩
                have hand : bits .and .u8 (x.toNat : Int) 15 = ((x.toNat % 16 : Nat) : Int) := and15 x
                clear hL hD hpl hadr h0 hy1 hy2
                go_wp2_with fail
                refine (HL.out _).mono ?_
                rintro e w1 ⟨rfl, rfl⟩
                go_wp2_with fail
                refine (HDg.out _).mono ?_
                rintro e w1 ⟨rfl, rfl⟩
                go_wp2_with fail
                refine (HIx.out _).mono ?_
                rintro e w1 ⟨rfl, rfl⟩
                go_wp2_with fail
                refine (Tryz.Builder_WriteByte w.heap.size w.heap.size _ 37 _ HI.out (by have := HX.out; rw [Lib.byteCells_length]; omega) hbs).mono ?_
                rintro e w1 ⟨rfl, h1, b1⟩
                have HI1 : Hid (Lib.IsBuilder 38 5 w.heap.size w.heap.size (Lib.byteCells acc ++ [.int .u8 37]) w1) := Lib.hid (.inr h1)
                have HB1 := Lib.hid (HB.out.trans b1)
                have hbs1 := HB1.out.size
                clear h1 b1
                go_wp2_with fail
                refine (Tryz.Builder_WriteByte w.heap.size w.heap.size _ (y1.toNat : Int) _ HI1.out (by have := HX.out; rw [List.length_append, Lib.byteCells_length]; show _ + 1 + 1 ≤ _; omega) hbs1).mono ?_
                rintro e w2 ⟨rfl, h2, b2⟩
                have HI2 : Hid (Lib.IsBuilder 38 5 w.heap.size w.heap.size (Lib.byteCells acc ++ [.int .u8 37] ++ [.int .u8 (y1.toNat : Int)]) w2) := Lib.hid (.inr h2)
                have HB2 := Lib.hid (HB1.out.trans b2)
                have hbs2 := HB2.out.size
                clear h2 b2
                go_wp2_with fail
                refine (Tryz.Builder_WriteByte w.heap.size w.heap.size _ (y2.toNat : Int) _ HI2.out (by have := HX.out; rw [List.length_append, List.length_append, Lib.byteCells_length]; show _ + 1 + 1 + 1 ≤ _; omega) hbs2).mono ?_
                rintro e w3 ⟨rfl, h3, b3⟩
                have HI3 := Lib.hid h3
                have HB3 := Lib.hid (HB2.out.trans b3)
                clear h3 b3
                go_wp2
                go_roundw
                case rel =>
                  refine ⟨k + 1, hkn, by go_num, ?_, HB3⟩
                  rw [HT.out, HA.out, Lib.byteCells_append]
                  have h4 := HI3.out
                  rw [List.append_assoc, List.append_assoc] at h4
                  exact Lib.hid (.inr h4)
                case measure => simp [intOf]; omega
    · obtain rfl : k = s.length := by omega
      rw [List.take_length] at HI
      have hbs := HB.out.size
      go_wp2_with (go_at_call 20; refine (Tryz.Builder_String_any w.heap.size w.heap.size (hrf s) _ HI.out hbs).mono ?_; rintro e w1 ⟨rfl, hb1⟩)
      go_ret
      exact ⟨rfl, HB.out.trans hb1⟩
def escape_Href.f (a0 : ByteArray) : Option ByteArray := if a0.size ≤ 1048576 then some (B (hrf a0.data.toList)) else none
theorem escape_Href.calls (a0 : ByteArray) (r : ByteArray) (w : World) (h : escape_Href.f a0 = some r) :
    Calls Tryz.prog 44 #[.string a0] w fun e w' => e = .returned (.string r) ∧ Below w.heap.size w w' := by
  unfold escape_Href.f at h
  split at h
  · rename_i hc
    obtain rfl := Option.some.inj h
    exact href_walk a0.data.toList (by rw [Array.length_toList]; exact hc) w
  · cases h
end Go.Proofs.YtchdkiakdnanhaaGreatDoor.PA

namespace Go.Proofs.YtchdkiakdnanhaaGreatDoor.PA
open Go.RowKit Go.Sort Go.Proofs.YtchdkiakdnanhaaGreatDoor.Pl Go.Proofs.YtchdkiakdnanhaaGreatDoorW.PrintWords Go.Proofs.YtchdkiakdnanhaaGreatDoorW.PrintLast Go.Proofs.YtchdkiakdnanhaaGreatDoorW.PrintMore
set_option linter.unusedVariables false

theorem B_ap (a b : List UInt8) : B a ++ B b = B (a ++ b) := B_append a b
set_option maxHeartbeats 1000000 in
set_option maxRecDepth 100000 in
theorem attr_calls (n v : List UInt8) (hn : n.length ≤ 100) (hv : v.length ≤ 2000000000) (w : World) :
    Calls Tryz.prog 38 #[.string (B n), .string (B v)] w fun e w' => e = .returned (.string (B (atr n v))) ∧ w' = w := by
  by_cases h0 : v = []
  · subst h0
    have z : (B ([] : List UInt8)).toList.isEmpty = true := by rw [B_toList]; rfl
    go_enter Tryz.func38, Tryz.ntmps38
    go_wp2
    go_ret
    exact ⟨rfl, rfl⟩
  · have z : (B v).toList.isEmpty = false := by rw [B_toList]; cases v; exact absurd rfl h0; rfl
    have e : atr n v = [32] ++ n ++ [61, 34] ++ v ++ [34] := by unfold atr; rw [if_neg h0]
    rw [e]
    clear e
    have sn := B_size n
    have sv := B_size v
    have y1 : ¬ 9223372036854775807 < 1 + (B n).size := by omega
    have y2 : ¬ 9223372036854775807 < 1 + (B n).size + 2 := by omega
    have y3 : ¬ 9223372036854775807 < 1 + (B n).size + 2 + (B v).size := by omega
    have y4 : ¬ 9223372036854775807 < 1 + (B n).size + 2 + (B v).size + 1 := by omega
    clear sn sv
    go_enter Tryz.func38, Tryz.ntmps38
    go_wp2
    go_ret
    refine ⟨?_, rfl⟩
    show Ending.returned (.string (B [32] ++ B n ++ B [61, 34] ++ B v ++ B [34])) = _
    simp only [B_ap]
    rfl
set_option maxHeartbeats 1000000 in
set_option maxRecDepth 100000 in
theorem align_calls (n : Int) (w : World) :
    Calls Tryz.prog 74 #[.int .i64 n] w fun e w' => e = .returned (.string (B (alnT n))) ∧ w' = w := by
  have H1 := Aside0.mk (attr_calls [97, 108, 105, 103, 110] [108, 101, 102, 116] (by decide) (by decide) w)
  have H2 := Aside0.mk (attr_calls [97, 108, 105, 103, 110] [114, 105, 103, 104, 116] (by decide) (by decide) w)
  have H3 := Aside0.mk (attr_calls [97, 108, 105, 103, 110] [99, 101, 110, 116, 101, 114] (by decide) (by decide) w)
  by_cases h1 : n = 1
  · have z1 : (n == 1) = true := beq_iff_eq.2 h1
    have HT := Aside0.mk (show alnT n = atr [97, 108, 105, 103, 110] [108, 101, 102, 116] from by unfold alnT; rw [if_pos h1])
    clear h1
    go_enter Tryz.func74, Tryz.ntmps74
    go_wp2_with fail
    refine H1.out.mono ?_
    rintro e w1 ⟨rfl, rfl⟩
    go_wp2
    go_ret
    exact ⟨by rw [HT.out]; rfl, rfl⟩
  · have z1 : (n == 1) = false := beq_eq_false_iff_ne.2 h1
    by_cases h2 : n = 2
    · have z2 : (n == 2) = true := beq_iff_eq.2 h2
      have HT := Aside0.mk (show alnT n = atr [97, 108, 105, 103, 110] [114, 105, 103, 104, 116] from by unfold alnT; rw [if_neg h1, if_pos h2])
      clear h1 h2
      go_enter Tryz.func74, Tryz.ntmps74
      go_wp2_with fail
      refine H2.out.mono ?_
      rintro e w1 ⟨rfl, rfl⟩
      go_wp2
      go_ret
      exact ⟨by rw [HT.out]; rfl, rfl⟩
    · have z2 : (n == 2) = false := beq_eq_false_iff_ne.2 h2
      by_cases h3 : n = 3
      · have z3 : (n == 3) = true := beq_iff_eq.2 h3
        have HT := Aside0.mk (show alnT n = atr [97, 108, 105, 103, 110] [99, 101, 110, 116, 101, 114] from by unfold alnT; rw [if_neg h1, if_neg h2, if_pos h3])
        clear h1 h2 h3
        go_enter Tryz.func74, Tryz.ntmps74
        go_wp2_with fail
        refine H3.out.mono ?_
        rintro e w1 ⟨rfl, rfl⟩
        go_wp2
        go_ret
        exact ⟨by rw [HT.out]; rfl, rfl⟩
      · have z3 : (n == 3) = false := beq_eq_false_iff_ne.2 h3
        have HT := Aside0.mk (show alnT n = [] from by unfold alnT; rw [if_neg h1, if_neg h2, if_neg h3])
        clear h1 h2 h3
        go_enter Tryz.func74, Tryz.ntmps74
        go_wp2
        go_ret
        exact ⟨by rw [HT.out]; rfl, rfl⟩
set_option maxHeartbeats 1000000 in
set_option maxRecDepth 100000 in
theorem ids_calls {n m : Int} (hn : i64 n) (hm : i64 m) (w : World) (hLd : LaidW w) :
    Calls Tryz.prog 28 #[.int .i64 n, .int .i64 m] w fun e w' => e = .returned (.tuple #[.string (B (idA n)), .string (B (idB n m))]) ∧ Below w.heap.size w w' := by
  have hl1 := itoa_len (n := max n 1) (by have := hn.1; omega) (by have := hn.2; omega)
  have hl2 := itoa_len (n := m) hm.1 hm.2
  have H1 := Aside0.mk (itoa_any (max n 1) (by have := hn.1; omega) (by have := hn.2; omega) w hLd)
  have H2 := Aside0.mk (fun W (hW : Below w.heap.size w W) => itoa_any m hm.1 hm.2 W (hLd.go hW))
  have e1 : idA n = [102, 110, 45] ++ Lib.itoa (max n 1) := rfl
  have e2 : idB n m = [102, 110, 114, 101, 102, 45] ++ Lib.itoa (max n 1) ++ (if 1 < m then [45] ++ Lib.itoa m else []) := rfl
  obtain ⟨a, ha⟩ : ∃ a, Lib.itoa (max n 1) = a := ⟨_, rfl⟩
  obtain ⟨c, hc⟩ : ∃ c, Lib.itoa m = c := ⟨_, rfl⟩
  rw [ha] at hl1 H1 e1 e2
  rw [hc] at hl2 e2
  simp only [hc] at H2
  have sa := B_size a
  have sc := B_size c
  have y1 : ¬ 9223372036854775807 < 3 + (B a).size := by omega
  have y2 : ¬ 9223372036854775807 < 6 + (B a).size := by omega
  have y3 : ¬ 9223372036854775807 < 1 + (B c).size := by omega
  by_cases h1 : 1 < m
  · have z1 : decide (1 < m) = true := decide_eq_true h1
    have y4 : ¬ 9223372036854775807 < 6 + (B a).size + (1 + (B c).size) := by omega
    rw [if_pos h1] at e2
    rw [e1, e2]
    clear sa sc h1 e1 e2 ha hc hl1 hl2 hLd
    go_enter Tryz.func28, Tryz.ntmps28
    go_wp2_with fail
    refine H1.out.mono ?_
    rintro e w1 ⟨rfl, hb1⟩
    have HB1 := Aside0.mk hb1
    clear hb1
    go_wp2_with fail
    refine (H2.out _ HB1.out).mono ?_
    rintro e w2 ⟨rfl, hb2⟩
    have HB2 := Aside0.mk (below_step HB1.out hb2)
    clear hb2
    go_wp2
    go_ret2
    refine ⟨?_, HB2.out⟩
    show Ending.returned (.tuple #[.string (B [102, 110, 45] ++ B a), .string (B [102, 110, 114, 101, 102, 45] ++ B a ++ (B [45] ++ B c))]) = _
    simp only [B_ap]
    rfl
  · have z1 : decide (1 < m) = false := decide_eq_false h1
    rw [if_neg h1, List.append_nil] at e2
    have y4 : ¬ 9223372036854775807 < 6 + (B a).size + 0 := by omega
    rw [e1, e2]
    clear sa sc h1 e1 e2 ha hc hl1 hl2 hLd
    go_enter Tryz.func28, Tryz.ntmps28
    go_wp2_with fail
    refine H1.out.mono ?_
    rintro e w1 ⟨rfl, hb1⟩
    have HB1 := Aside0.mk hb1
    clear hb1
    go_wp2
    go_ret2
    refine ⟨?_, HB1.out⟩
    show Ending.returned (.tuple #[.string (B [102, 110, 45] ++ B a), .string (B [102, 110, 114, 101, 102, 45] ++ B a ++ B [])]) = _
    simp only [B_ap, List.append_nil]
    rfl
theorem put_new {w0 : World} {b : Nat} {m : Int} {X : List UInt8} {w : World} (h : Wt w0 b m X w) (ss : List ByteArray) (hl : X.length + (cat ss).length ≤ 70368744177664) (hs : ss.length ≤ 100) :
    Calls Tryz.prog 27 #[.pointer (some ⟨b, 0, none⟩), .slice (some ⟨w.heap.size, 0, none⟩) ss.length ss.length] (w.alloc (.cells (ss.map Value.string).toArray 9)) (Wrote w0 b m X (cat ss) w) := by
  have hb := below_alloc (Below.refl w.heap.size w) (.cells (ss.map Value.string).toArray 9)
  exact (put_w (h.step hb) w.heap.size ss (heap_alloc_new _ _) hl hs).mono fun e w' k => ⟨k.ret, k.wt, (oth_step hb).trans k.oth⟩
theorem cat_B (ls : List (List UInt8)) : cat (ls.map B) = ls.flatten := by
  induction ls with
  | nil => rfl
  | cons x r ih =>
    have e : cat ((x :: r).map B) = (B x).data.toList ++ cat (r.map B) := by unfold cat; rw [List.map_cons, List.flatMap_cons]
    rw [e, ih, B_data, List.flatten_cons]
/-- put, at texts that are told as lists. -/
theorem put_l {w0 : World} {b : Nat} {m : Int} {X : List UInt8} {w : World} (h : Wt w0 b m X w) (ls : List (List UInt8)) (T : List UInt8) (hT : ls.flatten = T) (hl : X.length + T.length ≤ 70368744177664) (hs : (ls.map B).length ≤ 100) :
    Calls Tryz.prog 27 #[.pointer (some ⟨b, 0, none⟩), .slice (some ⟨w.heap.size, 0, none⟩) (ls.map B).length (ls.map B).length] (w.alloc (.cells ((ls.map B).map Value.string).toArray 9)) (Wrote w0 b m X T w) := by
  have h2 := put_new h (ls.map B) (by rw [cat_B, hT]; exact hl) hs
  rw [cat_B, hT] at h2
  exact h2
/-- A node in a block of its own. -/
abbrev ncs (x : Nd) (A6 : Option Addr) (c6 : Nat) : Array Value := #[.int .i64 x.f0, .string x.f1, .string x.f2, .int .i64 x.f3, .int .i64 x.f4, .bool x.f5, .slice A6 x.f6.length c6]
structure NdAt (o : Nat) (x : Nd) (A6 : Option Addr) (c6 : Nat) (w : World) : Prop where
  d0 : w.cell? ⟨o, 0, none⟩ = some (.int .i64 x.f0)
  d1 : w.cell? ⟨o, 1, none⟩ = some (.string x.f1)
  d2 : w.cell? ⟨o, 2, none⟩ = some (.string x.f2)
  d3 : w.cell? ⟨o, 3, none⟩ = some (.int .i64 x.f3)
  d4 : w.cell? ⟨o, 4, none⟩ = some (.int .i64 x.f4)
  d5 : w.cell? ⟨o, 5, none⟩ = some (.bool x.f5)
  d6 : w.cell? ⟨o, 6, none⟩ = some (.slice A6 x.f6.length c6)
theorem ndAt {o : Nat} {x : Nd} {A6 : Option Addr} {c6 : Nat} {w : World} (h : w.heap[o]? = some (.cells (ncs x A6 c6) 29 (0, 0))) : NdAt o x A6 c6 w := ⟨(Lib.cell_of_heap h 0).trans rfl, (Lib.cell_of_heap h 1).trans rfl, (Lib.cell_of_heap h 2).trans rfl, (Lib.cell_of_heap h 3).trans rfl, (Lib.cell_of_heap h 4).trans rfl, (Lib.cell_of_heap h 5).trans rfl, (Lib.cell_of_heap h 6).trans rfl⟩
set_option maxHeartbeats 1000000 in
set_option maxRecDepth 100000 in
theorem raw_calls {w0 : World} {b : Nat} {m : Int} {X : List UInt8} {w : World} (h : Wt w0 b m X w) (hLd : LaidW w0) (s : List UInt8) (hs : s.length ≤ 268435456) (hl : X.length + (rawT m s).length ≤ 70368744177664) :
    Calls Tryz.prog 41 #[.pointer (some ⟨b, 0, none⟩), .string (B s)] w (Wrote w0 b m X (rawT m s) w) := by
  have hc := h.mask
  have HW := Aside0.mk h
  have HF := Aside0.mk (filter_calls s hs w (hLd.go h.bel))
  obtain ⟨T, hT⟩ : ∃ T, rawT m s = T := ⟨_, rfl⟩
  obtain ⟨R, hR⟩ : ∃ R, Wrote w0 b m X T w = R := ⟨_, rfl⟩
  have HR := Aside0.mk hR
  rw [hT] at hl ⊢
  rw [hR]
  unfold rawT at hT
  clear h hR
  by_cases h0 : bits .and .i64 m 16 = 0
  · have z : (bits .and .i64 m 16 != 0) = false := by rw [h0]; rfl
    rw [if_pos h0] at hT
    subst hT
    have HP := Aside0.mk (put_l HW.out [s] s (by simp) hl (by simp))
    clear h0
    go_enter Tryz.func41, Tryz.ntmps41
    go_wp2_with fail
    refine HP.out.mono ?_
    rintro e w2 hq
    have HQ := Aside0.mk hq
    obtain rfl := hq.ret
    clear hq
    go_wp2
    go_end0
    rw [← HR.out]
    exact HQ.out
  · have z : (bits .and .i64 m 16 != 0) = true := by simpa using h0
    rw [if_neg h0] at hT
    have HTT := Aside0.mk hT
    clear h0 hT
    go_enter Tryz.func41, Tryz.ntmps41
    go_wp2_with fail
    refine HF.out.mono ?_
    rintro e w1 ⟨rfl, hb1⟩
    rw [HTT.out]
    have HO1 := Aside0.mk (oth_step (b := b) hb1)
    have HP := Aside0.mk (put_l (HW.out.step hb1) [T] T (by simp) hl (by simp))
    clear hb1
    go_wp2_with fail
    refine HP.out.mono ?_
    rintro e w2 hq
    have HQ := Aside0.mk hq
    obtain rfl := hq.ret
    clear hq
    go_wp2
    go_end0
    rw [← HR.out]
    exact ⟨rfl, HQ.out.wt, HO1.out.trans HQ.out.oth⟩
end Go.Proofs.YtchdkiakdnanhaaGreatDoor.PA

namespace Go.Proofs.YtchdkiakdnanhaaGreatDoor.PA
open Go.RowKit Go.Sort Go.Proofs.YtchdkiakdnanhaaGreatDoor.Pl Go.Proofs.YtchdkiakdnanhaaGreatDoorW.PrintWords Go.Proofs.YtchdkiakdnanhaaGreatDoorW.PrintLast Go.Proofs.YtchdkiakdnanhaaGreatDoorW.PrintMore
set_option linter.unusedVariables false

set_option maxHeartbeats 2000000 in
set_option maxRecDepth 100000 in
theorem ref_calls {w0 : World} {b : Nat} {m : Int} {X : List UInt8} {w : World} (h : Wt w0 b m X w) (hLd : LaidW w0) (x : Nd) (A6 : Option Addr) (c6 : Nat) (hn : i64 x.f3) (hm : i64 x.f4) (hl : X.length + (refT x.f3 x.f4).length ≤ 70368744177664) :
    Calls Tryz.prog 64 #[.pointer (some ⟨b, 0, none⟩), .agg (ncs x A6 c6)] w (Wrote w0 b m X (refT x.f3 x.f4) w) := by
  have hb1 : Below w.heap.size w (w.alloc (.cells (ncs x A6 c6) 29)) := below_alloc (Below.refl w.heap.size w) _
  have hd := ndAt (heap_alloc_new w (.cells (ncs x A6 c6) 29))
  have hbk := heap_alloc_new w (.cells (ncs x A6 c6) 29)
  have hlt : w.heap.size < (w.alloc (.cells (ncs x A6 c6) 29)).heap.size := by simp
  have HLT := Aside0.mk hlt
  have HW1 := Aside0.mk (h.step hb1)
  have HI := Aside0.mk (ids_calls hn hm _ (hLd.go (h.step hb1).bel))
  have HT := Aside0.mk (fun W (hW : Below w0.heap.size w0 W) => itoa_any (max x.f3 1) (by have := hn.1; omega) (by have := hn.2; omega) W (hLd.go hW))
  have HO1 := Aside0.mk (oth_step (b := b) hb1)
  have HBK := Aside0.mk hbk
  have e1 : refT x.f3 x.f4 = [[60, 115, 117, 112, 32, 99, 108, 97, 115, 115, 61, 34, 102, 111, 111, 116, 110, 111, 116, 101, 45, 114, 101, 102, 34, 62, 60, 97, 32, 104, 114, 101, 102, 61, 34, 35], idA x.f3, [34, 32, 105, 100, 61, 34], idB x.f3 x.f4, [34, 62], Lib.itoa (max x.f3 1), [60, 47, 97, 62, 60, 47, 115, 117, 112, 62]].flatten := by
    unfold refT
    simp only [List.flatten_cons, List.flatten_nil, List.append_nil, List.append_assoc]
  obtain ⟨T, hT⟩ : ∃ T, refT x.f3 x.f4 = T := ⟨_, rfl⟩
  rw [hT] at hl e1 ⊢
  have HE := Aside0.mk e1.symm
  obtain ⟨a, ha⟩ : ∃ a, idA x.f3 = a := ⟨_, rfl⟩
  obtain ⟨c, hc⟩ : ∃ a, idB x.f3 x.f4 = a := ⟨_, rfl⟩
  obtain ⟨d, hd'⟩ : ∃ a, Lib.itoa (max x.f3 1) = a := ⟨_, rfl⟩
  rw [ha, hc, hd'] at HE
  rw [ha, hc] at HI
  simp only [hd'] at HT
  obtain ⟨R, hR⟩ : ∃ R, Wrote w0 b m X T w = R := ⟨_, rfl⟩
  have HR := Aside0.mk hR
  have HL := Aside0.mk hl
  rw [hR]
  obtain ⟨o, ho⟩ : ∃ o, w.heap.size = o := ⟨_, rfl⟩
  obtain ⟨w1, hw1⟩ : ∃ w1, w.alloc (.cells (ncs x A6 c6) 29) = w1 := ⟨_, rfl⟩
  rw [hw1] at HW1 HI HO1 hd HBK HLT
  rw [ho] at hd HBK HLT
  obtain ⟨d0, d1, d2, d3, d4, d5, d6⟩ := hd
  clear hb1 hLd hT ha hc hd' hR hl e1 h hn hm hbk hlt
  go_enter Tryz.func64, Tryz.ntmps64
  go_wp2_with fail
  refine HI.out.mono ?_
  rintro e w2 ⟨rfl, hb2⟩
  have HW2 := Aside0.mk (HW1.out.step hb2)
  have HO2 := Aside0.mk (HO1.out.trans (oth_step (b := b) hb2))
  obtain ⟨-, -, -, e3, -⟩ := ndAt ((hb2.block o HLT.out).trans HBK.out)
  clear hb2 HI HW1 HO1 d0 d1 d2 d3 d4 d5 d6
  go_wp2_with fail
  refine (HT.out w2 HW2.out.bel).mono ?_
  rintro e w3 ⟨rfl, hb3⟩
  have HW3 := Aside0.mk (HW2.out.step hb3)
  have HO3 := Aside0.mk (HO2.out.trans (oth_step (b := b) hb3))
  have HP := Aside0.mk (put_l HW3.out [[60, 115, 117, 112, 32, 99, 108, 97, 115, 115, 61, 34, 102, 111, 111, 116, 110, 111, 116, 101, 45, 114, 101, 102, 34, 62, 60, 97, 32, 104, 114, 101, 102, 61, 34, 35], a, [34, 32, 105, 100, 61, 34], c, [34, 62], d, [60, 47, 97, 62, 60, 47, 115, 117, 112, 62]] T HE.out HL.out (by simp))
  clear hb3 HW2 HO2 e3
  go_wp2_with fail
  refine HP.out.mono ?_
  rintro e w4 hq
  have HQ := Aside0.mk hq
  obtain rfl := hq.ret
  clear hq HP
  go_wp2
  go_end0
  rw [← HR.out]
  exact ⟨rfl, HQ.out.wt, HO3.out.trans HQ.out.oth⟩
theorem html_b (s : ByteArray) (hs : s.size ≤ 268435456) (w : World) : Calls Tryz.prog 39 #[.string s] w fun e w' => e = .returned (.string (B (htm s.data.toList))) ∧ Below w.heap.size w w' := html_walk s.data.toList (by rw [Array.length_toList]; exact hs) w
theorem href_b (s : ByteArray) (hs : s.size ≤ 1048576) (w : World) : Calls Tryz.prog 44 #[.string s] w fun e w' => e = .returned (.string (B (hrf s.data.toList))) ∧ Below w.heap.size w w' := href_walk s.data.toList (by rw [Array.length_toList]; exact hs) w
theorem nd_kept {w0 : World} {b : Nat} {m : Int} {X : List UInt8} {w w' : World} {o : Nat} {x : Nd} {A6 : Option Addr} {c6 : Nat} (ho : Lib.OthersKept 5 (some b) w w') (hk : w.heap[o]? = some (.cells (ncs x A6 c6) 29 (0, 0))) (hw : Wt w0 b m X w) : w'.heap[o]? = some (.cells (ncs x A6 c6) 29 (0, 0)) :=
  ho o _ hk (fun e => by
    obtain ⟨p, v, _, hb, _⟩ := hw.at'
    injection e with e
    rw [e, hb] at hk
    injection hk with hk
    injection hk with _ hk
    exact absurd hk (by decide)) (fun c fz e => by injection e with _ e; exact absurd e (by decide))
set_option maxHeartbeats 4000000 in
set_option maxRecDepth 100000 in
theorem leaf_calls {w0 : World} {b : Nat} {m : Int} {X : List UInt8} {w : World} (h : Wt w0 b m X w) (hLd : LaidW w0) (x : Nd) (A6 : Option Addr) (c6 : Nat) (hs : x.f1.size ≤ 1048576) (hn : i64 x.f3) (hm : i64 x.f4) (hl : X.length + (leafT m x.f0 x.f1.data.toList x.f3 x.f4 x.f5).length ≤ 70368744177664) :
    Calls Tryz.prog 46 #[.pointer (some ⟨b, 0, none⟩), .agg (ncs x A6 c6)] w (Wrote w0 b m X (leafT m x.f0 x.f1.data.toList x.f3 x.f4 x.f5) w) := by
  have hb1 : Below w.heap.size w (w.alloc (.cells (ncs x A6 c6) 29)) := below_alloc (Below.refl w.heap.size w) _
  have hd := ndAt (heap_alloc_new w (.cells (ncs x A6 c6) 29))
  have HW1 := Aside0.mk (h.step hb1)
  have HLD := Aside0.mk hLd
  have HH := Aside0.mk (fun W => html_b x.f1 (by omega) W)
  have HRAW := Aside0.mk (fun (X' : List UInt8) (W : World) (hW : Wt w0 b m X' W) (hl' : X'.length + (rawT m x.f1.data.toList).length ≤ 70368744177664) => (show Calls Tryz.prog 41 #[.pointer (some ⟨b, 0, none⟩), .string x.f1] W (Wrote w0 b m X' (rawT m x.f1.data.toList) W) from raw_calls hW hLd x.f1.data.toList (by rw [Array.length_toList]; exact Nat.le_trans hs (by decide)) hl'))
  have HREF := Aside0.mk (fun (X' : List UInt8) (W : World) (hW : Wt w0 b m X' W) (hl' : X'.length + (refT x.f3 x.f4).length ≤ 70368744177664) => ref_calls hW hLd x A6 c6 hn hm hl')
  have HO1 := Aside0.mk (oth_step (b := b) hb1)
  have HBK := Aside0.mk (heap_alloc_new w (.cells (ncs x A6 c6) 29))
  obtain ⟨T, hT⟩ : ∃ T, leafT m x.f0 x.f1.data.toList x.f3 x.f4 x.f5 = T := ⟨_, rfl⟩
  rw [hT] at hl ⊢
  unfold leafT at hT
  obtain ⟨R, hR⟩ : ∃ R, Wrote w0 b m X T w = R := ⟨_, rfl⟩
  have HR := Aside0.mk hR
  have HL := Aside0.mk hl
  rw [hR]
  obtain ⟨o, ho⟩ : ∃ o, w.heap.size = o := ⟨_, rfl⟩
  obtain ⟨w1, hw1⟩ : ∃ w1, w.alloc (.cells (ncs x A6 c6) 29) = w1 := ⟨_, rfl⟩
  rw [hw1] at HW1 HO1 hd HBK
  rw [ho] at hd HBK
  obtain ⟨d0, d1, d2, d3, d4, d5, d6⟩ := hd
  clear hb1 hR hl h hn hm hs hLd
  by_cases k14 : x.f0 = 14
  · have z14 : (x.f0 == 14) = true := beq_iff_eq.2 k14
    rw [if_pos k14] at hT
    obtain ⟨t, ht⟩ : ∃ t, htm x.f1.data.toList = t := ⟨_, rfl⟩
    rw [ht] at hT
    simp only [ht] at HH
    subst hT
    clear ht k14
    go_enter Tryz.func46, Tryz.ntmps46
    go_wp2_with fail
    refine (HH.out w1).mono ?_
    rintro e w2 ⟨rfl, hb2⟩
    have HO2 := Aside0.mk (HO1.out.trans (oth_step (b := b) hb2))
    have HP := Aside0.mk (put_l (HW1.out.step hb2) [t] t (by simp) HL.out (by simp))
    clear hb2 d0 d1 d2 d3 d4 d5 d6
    go_wp2_with fail
    refine HP.out.mono ?_
    rintro e w3 hq
    have HQ := Aside0.mk hq
    obtain rfl := hq.ret
    clear hq HP
    go_wp2
    go_end0
    rw [← HR.out]
    exact ⟨rfl, HQ.out.wt, HO2.out.trans HQ.out.oth⟩
  · have z14 : (x.f0 == 14) = false := beq_eq_false_iff_ne.2 k14
    by_cases k15 : x.f0 = 15
    · have z15 : (x.f0 == 15) = true := beq_iff_eq.2 k15
      rw [if_neg k14, if_pos k15] at hT
      subst hT
      have HP := Aside0.mk (put_l HW1.out [[10]] [10] rfl HL.out (by simp))
      clear k14 k15
      go_enter Tryz.func46, Tryz.ntmps46
      go_wp2_with fail
      refine HP.out.mono ?_
      rintro e w3 hq
      have HQ := Aside0.mk hq
      obtain rfl := hq.ret
      clear hq HP
      go_wp2
      go_end0
      rw [← HR.out]
      exact ⟨rfl, HQ.out.wt, HO1.out.trans HQ.out.oth⟩
    · have z15 : (x.f0 == 15) = false := beq_eq_false_iff_ne.2 k15
      by_cases k16 : x.f0 = 16
      · have z16 : (x.f0 == 16) = true := beq_iff_eq.2 k16
        rw [if_neg k14, if_neg k15, if_pos k16] at hT
        subst hT
        have HP := Aside0.mk (put_l HW1.out [[60, 98, 114, 32, 47, 62, 10]] [60, 98, 114, 32, 47, 62, 10] rfl HL.out (by simp))
        clear k14 k15 k16
        go_enter Tryz.func46, Tryz.ntmps46
        go_wp2_with fail
        refine HP.out.mono ?_
        rintro e w3 hq
        have HQ := Aside0.mk hq
        obtain rfl := hq.ret
        clear hq HP
        go_wp2
        go_end0
        rw [← HR.out]
        exact ⟨rfl, HQ.out.wt, HO1.out.trans HQ.out.oth⟩
      · have z16 : (x.f0 == 16) = false := beq_eq_false_iff_ne.2 k16
        by_cases k17 : x.f0 = 17
        · have z17 : (x.f0 == 17) = true := beq_iff_eq.2 k17
          rw [if_neg k14, if_neg k15, if_neg k16, if_pos k17] at hT
          obtain ⟨t, ht⟩ : ∃ t, htm x.f1.data.toList = t := ⟨_, rfl⟩
          rw [ht] at hT
          simp only [ht] at HH
          subst hT
          clear ht k14 k15 k16 k17
          go_enter Tryz.func46, Tryz.ntmps46
          go_wp2_with fail
          refine (HH.out w1).mono ?_
          rintro e w2 ⟨rfl, hb2⟩
          have HO2 := Aside0.mk (HO1.out.trans (oth_step (b := b) hb2))
          have HP := Aside0.mk (put_l (HW1.out.step hb2) [[60, 99, 111, 100, 101, 62], t, [60, 47, 99, 111, 100, 101, 62]] ([60, 99, 111, 100, 101, 62] ++ t ++ [60, 47, 99, 111, 100, 101, 62]) (by simp) HL.out (by simp))
          clear hb2 d0 d1 d2 d3 d4 d5 d6
          go_wp2_with fail
          refine HP.out.mono ?_
          rintro e w3 hq
          have HQ := Aside0.mk hq
          obtain rfl := hq.ret
          clear hq HP
          go_wp2
          go_end0
          rw [← HR.out]
          exact ⟨rfl, HQ.out.wt, HO2.out.trans HQ.out.oth⟩
        · have z17 : (x.f0 == 17) = false := beq_eq_false_iff_ne.2 k17
          by_cases k22 : x.f0 = 22
          · have z22 : (x.f0 == 22) = true := beq_iff_eq.2 k22
            rw [if_neg k14, if_neg k15, if_neg k16, if_neg k17, if_pos k22] at hT
            obtain ⟨t, ht⟩ : ∃ t, rawT m x.f1.data.toList = t := ⟨_, rfl⟩
            rw [ht] at hT
            simp only [ht] at HRAW
            subst hT
            have HP := Aside0.mk (HRAW.out X w1 HW1.out HL.out)
            clear ht k14 k15 k16 k17 k22
            go_enter Tryz.func46, Tryz.ntmps46
            go_wp2_with fail
            refine HP.out.mono ?_
            rintro e w3 hq
            have HQ := Aside0.mk hq
            obtain rfl := hq.ret
            clear hq HP
            go_wp2
            go_end0
            rw [← HR.out]
            exact ⟨rfl, HQ.out.wt, HO1.out.trans HQ.out.oth⟩
          · have z22 : (x.f0 == 22) = false := beq_eq_false_iff_ne.2 k22
            by_cases k24 : x.f0 = 24
            · have z24 : (x.f0 == 24) = true := beq_iff_eq.2 k24
              rw [if_neg k14, if_neg k15, if_neg k16, if_neg k17, if_neg k22, if_pos k24] at hT
              obtain ⟨t, ht⟩ : ∃ t, refT x.f3 x.f4 = t := ⟨_, rfl⟩
              rw [ht] at hT
              simp only [ht] at HREF
              subst hT
              have HP := Aside0.mk (HREF.out X w1 HW1.out HL.out)
              clear ht k14 k15 k16 k17 k22 k24
              go_enter Tryz.func46, Tryz.ntmps46
              go_wp2_with fail
              refine HP.out.mono ?_
              rintro e w3 hq
              have HQ := Aside0.mk hq
              obtain rfl := hq.ret
              clear hq HP
              go_wp2
              go_end0
              rw [← HR.out]
              exact ⟨rfl, HQ.out.wt, HO1.out.trans HQ.out.oth⟩
            · have z24 : (x.f0 == 24) = false := beq_eq_false_iff_ne.2 k24
              by_cases k25 : x.f0 = 25
              · have z25 : (x.f0 == 25) = true := beq_iff_eq.2 k25
                rw [if_neg k14, if_neg k15, if_neg k16, if_neg k17, if_neg k22, if_neg k24, if_pos k25] at hT
                have hlen := HL.out
                rw [← hT] at hlen
                have hx := boxT_len x.f5
                have HTT := Aside0.mk hT
                have HX := Aside0.mk (show X.length + 200 ≤ 70368744177664 + 200 from by omega)
                cases hfl : x.f5 with
                | true =>
                  have hTv : T = [60, 105, 110, 112, 117, 116, 32, 116, 121, 112, 101, 61, 34, 99, 104, 101, 99, 107, 98, 111, 120, 34, 32, 100, 105, 115, 97, 98, 108, 101, 100, 61, 34, 34] ++ ([32, 99, 104, 101, 99, 107, 101, 100, 61, 34, 34] ++ [32, 47, 62]) := by rw [← HTT.out, hfl]; rfl
                  have hTl : X.length + T.length ≤ 70368744177664 := HL.out
                  rw [hTv] at hTl
                  simp only [List.length_append, List.length_cons, List.length_nil] at hTl
                  have HTV := Aside0.mk hTv
                  have HTL := Aside0.mk hTl
                  rw [hfl] at d5
                  have HP := Aside0.mk (put_l HW1.out [[60, 105, 110, 112, 117, 116, 32, 116, 121, 112, 101, 61, 34, 99, 104, 101, 99, 107, 98, 111, 120, 34, 32, 100, 105, 115, 97, 98, 108, 101, 100, 61, 34, 34]] [60, 105, 110, 112, 117, 116, 32, 116, 121, 112, 101, 61, 34, 99, 104, 101, 99, 107, 98, 111, 120, 34, 32, 100, 105, 115, 97, 98, 108, 101, 100, 61, 34, 34] rfl (by have := HTL.out; simp only [List.length_cons, List.length_nil]; omega) (by simp))
                  clear hTv hTl hT hlen hx k14 k15 k16 k17 k22 k24 k25
                  go_enter Tryz.func46, Tryz.ntmps46
                  go_wp2_with fail
                  refine HP.out.mono ?_
                  rintro e w3 hq
                  have HK3 := Aside0.mk (nd_kept hq.oth HBK.out HW1.out)
                  have HW3 := Aside0.mk hq.wt
                  have HO3 := Aside0.mk (HO1.out.trans hq.oth)
                  obtain rfl := hq.ret
                  have e5 := (ndAt HK3.out).d5
                  rw [hfl] at e5
                  clear hq HP d0 d1 d2 d3 d4 d5 d6
                  have HP := Aside0.mk (put_l HW3.out [[32, 99, 104, 101, 99, 107, 101, 100, 61, 34, 34]] [32, 99, 104, 101, 99, 107, 101, 100, 61, 34, 34] rfl (by have := HTL.out; simp only [List.length_append, List.length_cons, List.length_nil]; omega) (by simp))
                  go_wp2_with fail
                  refine HP.out.mono ?_
                  rintro e w4 hq
                  have HW4 := Aside0.mk hq.wt
                  have HO4 := Aside0.mk (HO3.out.trans hq.oth)
                  obtain rfl := hq.ret
                  clear hq HP e5
                  have HP := Aside0.mk (put_l HW4.out [[32, 47, 62]] [32, 47, 62] rfl (by have := HTL.out; simp only [List.length_append, List.length_cons, List.length_nil]; omega) (by simp))
                  go_wp2_with fail
                  refine HP.out.mono ?_
                  rintro e w5 hq
                  have HQ := Aside0.mk hq
                  obtain rfl := hq.ret
                  clear hq HP
                  go_wp2
                  go_end0
                  rw [← HR.out]
                  exact ⟨rfl, by rw [HTV.out]; have := HQ.out.wt; simpa only [List.append_assoc] using this, HO4.out.trans HQ.out.oth⟩
                | false =>
                  have hTv : T = [60, 105, 110, 112, 117, 116, 32, 116, 121, 112, 101, 61, 34, 99, 104, 101, 99, 107, 98, 111, 120, 34, 32, 100, 105, 115, 97, 98, 108, 101, 100, 61, 34, 34] ++ ([32, 47, 62]) := by rw [← HTT.out, hfl]; rfl
                  have hTl : X.length + T.length ≤ 70368744177664 := HL.out
                  rw [hTv] at hTl
                  simp only [List.length_append, List.length_cons, List.length_nil] at hTl
                  have HTV := Aside0.mk hTv
                  have HTL := Aside0.mk hTl
                  rw [hfl] at d5
                  have HP := Aside0.mk (put_l HW1.out [[60, 105, 110, 112, 117, 116, 32, 116, 121, 112, 101, 61, 34, 99, 104, 101, 99, 107, 98, 111, 120, 34, 32, 100, 105, 115, 97, 98, 108, 101, 100, 61, 34, 34]] [60, 105, 110, 112, 117, 116, 32, 116, 121, 112, 101, 61, 34, 99, 104, 101, 99, 107, 98, 111, 120, 34, 32, 100, 105, 115, 97, 98, 108, 101, 100, 61, 34, 34] rfl (by have := HTL.out; simp only [List.length_cons, List.length_nil]; omega) (by simp))
                  clear hTv hTl hT hlen hx k14 k15 k16 k17 k22 k24 k25
                  go_enter Tryz.func46, Tryz.ntmps46
                  go_wp2_with fail
                  refine HP.out.mono ?_
                  rintro e w3 hq
                  have HK3 := Aside0.mk (nd_kept hq.oth HBK.out HW1.out)
                  have HW3 := Aside0.mk hq.wt
                  have HO3 := Aside0.mk (HO1.out.trans hq.oth)
                  obtain rfl := hq.ret
                  have e5 := (ndAt HK3.out).d5
                  rw [hfl] at e5
                  clear hq HP d0 d1 d2 d3 d4 d5 d6
                  have HP := Aside0.mk (put_l HW3.out [[32, 47, 62]] [32, 47, 62] rfl (by have := HTL.out; simp only [List.length_append, List.length_cons, List.length_nil]; omega) (by simp))
                  go_wp2_with fail
                  refine HP.out.mono ?_
                  rintro e w5 hq
                  have HQ := Aside0.mk hq
                  obtain rfl := hq.ret
                  clear hq HP
                  go_wp2
                  go_end0
                  rw [← HR.out]
                  exact ⟨rfl, by rw [HTV.out]; have := HQ.out.wt; simpa only [List.append_assoc] using this, HO3.out.trans HQ.out.oth⟩
              · have z25 : (x.f0 == 25) = false := beq_eq_false_iff_ne.2 k25
                rw [if_neg k14, if_neg k15, if_neg k16, if_neg k17, if_neg k22, if_neg k24, if_neg k25] at hT
                subst hT
                clear k14 k15 k16 k17 k22 k24 k25
                go_enter Tryz.func46, Tryz.ntmps46
                go_wp2
                go_end0
                rw [← HR.out]
                exact ⟨rfl, by rw [List.append_nil]; exact HW1.out, HO1.out⟩
end Go.Proofs.YtchdkiakdnanhaaGreatDoor.PA

namespace Go.Proofs.YtchdkiakdnanhaaGreatDoor.PA
open Go.RowKit Go.Sort Go.Proofs.YtchdkiakdnanhaaGreatDoor.Pl Go.Proofs.YtchdkiakdnanhaaGreatDoorW.PrintWords Go.Proofs.YtchdkiakdnanhaaGreatDoorW.PrintLast Go.Proofs.YtchdkiakdnanhaaGreatDoorW.PrintMore
set_option linter.unusedVariables false

set_option maxHeartbeats 2000000 in
set_option maxRecDepth 100000 in
theorem put_d {w0 : World} {b : Nat} {m : Int} {X : List UInt8} {w : World} (u : FrameMode) (h : Wt w0 b m X w) (g : Nat) (ss : List ByteArray) (hg : w.heap[g]? = some (.cells (ss.map Value.string).toArray 9 (0, 0))) (hl : X.length + (cat ss).length ≤ 70368744177664) (hs : ss.length ≤ 100) :
    CallsD Tryz.prog 27 #[.pointer (some ⟨b, 0, none⟩), .slice (some ⟨g, 0, none⟩) ss.length ss.length] u w (fun e u' w' => u' = u ∧ Wrote w0 b m X (cat ss) w e w') := by
  have HW := Aside0.mk h
  have HG := Aside0.mk hg
  have hgb : some g ≠ some b := fun e => by
    obtain ⟨p, v, _, hk, _⟩ := h.at'
    injection e with e
    rw [e, hk] at hg
    injection hg with hg
    injection hg with _ hg
    exact absurd hg (by decide)
  have HGB := Aside0.mk hgb
  obtain ⟨R, hR⟩ : ∃ R, Wrote w0 b m X (cat ss) w = R := ⟨_, rfl⟩
  have HR := Aside0.mk hR
  simp only [hR]
  clear h hg hgb hR
  go_enter_d Tryz.func27, Tryz.ntmps27
  go_wp2_with fail
  go_loopw [5, 8] (fun v5 v8 wr => ∃ i : Nat, v8 = .int .i64 (i : Int) ∧ i ≤ ss.length ∧ Aside0 (Wt w0 b m (X ++ cat (ss.take i)) wr) ∧ Aside0 (Lib.OthersKept 5 (some b) w wr)) (fun _ v8 _ => ss.length - (intOf v8).toNat)
  case atStart => exact ⟨0, rfl, by omega, ⟨by simpa [cat] using HW.out⟩, ⟨Lib.OthersKept.refl _ _ _⟩⟩
  case round =>
    obtain ⟨i, rfl, hi, HWr, HO⟩ := hrel
    by_cases hlt : i < ss.length
    · have q1 : decide ((i : Int) < (ss.length : Int)) = true := decide_eq_true (by omega)
      have p0 := eq_true (show 0 ≤ (i : Int) from by omega)
      have p1 := eq_true (show (i : Int) < (ss.length : Int) from by omega)
      have hgr : wr.heap[g]? = some (.cells (ss.map Value.string).toArray 9 (0, 0)) := HO.out g _ HG.out HGB.out (fun c fz e => by injection e with _ e; exact absurd e (by decide))
      have x0 : wr.cell? ⟨g, i, none⟩ = some (.string ss[i]) := by rw [Lib.cell_of_heap hgr]; simp [hlt]
      have hsp : cat (ss.take (i + 1)) = cat (ss.take i) ++ ss[i].data.toList := by unfold cat; rw [List.take_add_one, List.getElem?_eq_getElem hlt, Option.toList_some, List.flatMap_append, List.flatMap_singleton]
      have hll : (cat (ss.take (i + 1))).length ≤ (cat ss).length := by
        have e : cat ss = cat (ss.take (i + 1)) ++ cat (ss.drop (i + 1)) := by unfold cat; rw [← List.flatMap_append, List.take_append_drop]
        rw [e, List.length_append]
        omega
      have hbd : X.length + (cat (ss.take i)).length + (ss[i]).size ≤ 70368744177664 := by
        rw [hsp, List.length_append] at hll
        have : (ss[i]).data.toList.length = (ss[i]).size := by rw [Array.length_toList]; rfl
        omega
      have HC := Aside0.mk (wstr HWr.out ss[i] (by rw [List.length_append]; exact hbd))
      have HSP := Aside0.mk hsp
      clear hgr hsp hll hbd HWr
      go_wp2_with fail
      refine HC.out.mono ?_
      rintro e w2 ⟨rfl, hw2, ho2⟩
      have HW2 := Aside0.mk (show Wt w0 b m (X ++ cat (ss.take (i + 1))) w2 from by rw [HSP.out, ← List.append_assoc]; exact hw2)
      have HO2 := Aside0.mk (HO.out.trans ho2)
      clear hw2 ho2 HC x0
      go_wp2
      go_roundw
      case rel => exact ⟨i + 1, by simp, by omega, HW2, HO2⟩
      case measure => simp [intOf]; omega
    · have q1 : decide ((i : Int) < (ss.length : Int)) = false := decide_eq_false (by omega)
      have htk : ss.take i = ss := List.take_of_length_le (by omega)
      rw [htk] at HWr
      clear htk
      go_wp2
      go_end0
      rw [← HR.out]
      exact ⟨rfl, HWr.out, HO.out⟩
/-- .. at texts that are told as lists. -/
theorem put_dl {w0 : World} {b : Nat} {m : Int} {X : List UInt8} {w : World} (u : FrameMode) (h : Wt w0 b m X w) (g : Nat) (ls : List (List UInt8)) (T : List UInt8) (hT : ls.flatten = T) (hg : w.heap[g]? = some (.cells ((ls.map B).map Value.string).toArray 9 (0, 0))) (hl : X.length + T.length ≤ 70368744177664) (hs : (ls.map B).length ≤ 100) :
    CallsD Tryz.prog 27 #[.pointer (some ⟨b, 0, none⟩), .slice (some ⟨g, 0, none⟩) (ls.map B).length (ls.map B).length] u w (fun e u' w' => u' = u ∧ Wrote w0 b m X T w e w') := by
  have h2 := put_d u h g (ls.map B) hg (by rw [cat_B, hT]; exact hl) hs
  rw [cat_B, hT] at h2
  exact h2
theorem str_kept {w0 : World} {b : Nat} {m : Int} {X : List UInt8} {w w' : World} {g : Nat} {cs : Array Value} (ho : Lib.OthersKept 5 (some b) w w') (hk : w.heap[g]? = some (.cells cs 9 (0, 0))) (hw : Wt w0 b m X w) : w'.heap[g]? = some (.cells cs 9 (0, 0)) :=
  ho g _ hk (fun e => by
    obtain ⟨p, v, _, hb, _⟩ := hw.at'
    injection e with e
    rw [e, hb] at hk
    injection hk with hk
    injection hk with _ hk
    exact absurd hk (by decide)) (fun c fz e => by injection e with _ e; exact absurd e (by decide))
set_option maxHeartbeats 4000000 in
set_option maxRecDepth 100000 in
theorem in_calls {w0 : World} {b : Nat} {m : Int} {X : List UInt8} {w : World} (h : Wt w0 b m X w) (tag attrs : List UInt8) (l : List Nd) (A : Option Addr) (c : Nat)
    (hin : ∀ (X' : List UInt8) (W : World), Wt w0 b m X' W → X'.length + 300 * wt l ≤ 70368744177664 → Calls Tryz.prog 26 #[.pointer (some ⟨b, 0, none⟩), .slice A l.length c] W (Wrote w0 b m X' (inl m l) W))
    (ho : okl l) (hl : X.length + (5 + 2 * tag.length + attrs.length + 300 * wt l) ≤ 70368744177664) :
    Calls Tryz.prog 37 #[.pointer (some ⟨b, 0, none⟩), .string (B tag), .string (B attrs), .slice A l.length c] w (Wrote w0 b m X (tagd tag attrs (inl m l)) w) := by
  have hil := inl_len m l ho
  have HP := Aside0.mk (put_l h [[60], tag, attrs, [62]] ([60] ++ tag ++ attrs ++ [62]) (by simp) (by simp only [List.length_append, List.length_cons, List.length_nil]; omega) (by simp))
  have HIN := Aside0.mk hin
  have HL := Aside0.mk hl
  have HIL := Aside0.mk hil
  have HT := Aside0.mk (show tagd tag attrs (inl m l) = ([60] ++ tag ++ attrs ++ [62]) ++ (inl m l ++ ([60, 47] ++ tag ++ [62])) from rfl)
  obtain ⟨R, hR⟩ : ∃ R, Wrote w0 b m X (tagd tag attrs (inl m l)) w = R := ⟨_, rfl⟩
  have HR := Aside0.mk hR
  rw [hR]
  clear h hin ho hl hil hR
  go_enter_defers Tryz.func37, Tryz.ntmps37
  go_wp2_with fail
  refine HP.out.mono ?_
  rintro e w1 hq
  have HW1 := Aside0.mk hq.wt
  have HO1 := Aside0.mk hq.oth
  obtain rfl := hq.ret
  clear hq HP
  have hb2 : Below w1.heap.size w1 (w1.alloc (.cells (([[60, 47], tag, [62]].map B).map Value.string).toArray 9)) := below_alloc (Below.refl w1.heap.size w1) _
  have HB2 := Aside0.mk hb2
  have HG2 := Aside0.mk (heap_alloc_new w1 (.cells (([[60, 47], tag, [62]].map B).map Value.string).toArray 9))
  have HI := Aside0.mk (HIN.out _ _ (HW1.out.step hb2) (by have := HL.out; simp only [List.length_append, List.length_cons, List.length_nil]; omega))
  clear hb2
  go_wp2_with fail
  refine HI.out.mono ?_
  rintro e w3 hq
  have HW3 := Aside0.mk hq.wt
  have HO3 := Aside0.mk ((HO1.out.trans (oth_step HB2.out)).trans hq.oth)
  have HG3 := Aside0.mk (str_kept hq.oth HG2.out (HW1.out.step HB2.out))
  obtain rfl := hq.ret
  clear hq HI
  go_wp2
  refine leaves_cons (f := 27) (args := #[.pointer (some ⟨b, 0, none⟩), .slice (some ⟨w1.heap.size, 0, none⟩) 3 3]) (by simp) (by simp [go_sem]) ?_
  refine (put_dl .returning HW3.out w1.heap.size [[60, 47], tag, [62]] ([60, 47] ++ tag ++ [62]) (by simp) HG3.out (by have h1 := HL.out; have h2 := HIL.out; simp only [List.length_append, List.length_cons, List.length_nil]; omega) (by simp)).mono ?_
  rintro e u' w4 ⟨rfl, hq⟩
  have HQ := Aside0.mk hq
  obtain rfl := hq.ret
  clear hq
  have HF := Aside0.mk (show Wrote w0 b m X (tagd tag attrs (inl m l)) w (.returned (.tuple #[])) w4 from ⟨rfl, by rw [HT.out]; have := HQ.out.wt; simpa only [List.append_assoc] using this, HO3.out.trans HQ.out.oth⟩)
  simp [Leaves, settle, results, Tryz.results37]
  rw [← HR.out]
  exact HF.out
end Go.Proofs.YtchdkiakdnanhaaGreatDoor.PA

namespace Go.Proofs.YtchdkiakdnanhaaGreatDoor.PA
open Go.RowKit Go.Sort Go.Proofs.YtchdkiakdnanhaaGreatDoor.Pl Go.Proofs.YtchdkiakdnanhaaGreatDoorW.PrintWords Go.Proofs.YtchdkiakdnanhaaGreatDoorW.PrintLast Go.Proofs.YtchdkiakdnanhaaGreatDoorW.PrintMore
set_option linter.unusedVariables false

structure Rq (w0 : World) (A : Option Addr) (c : Nat) (l : List Nd) : Prop where
  row : Kd.C k29 w0 A l.length l
  cap : l.length ≤ c
  ok : okl l
  lim : wt l ≤ 268435456
theorem cell_go {w0 w : World} (hb : Below w0.heap.size w0 w) {a : Addr} {v : Value} (h : w0.cell? a = some v) : w.cell? a = some v := (hb.cell (World.block_lt_of_cell? w0 _ h)).trans h
/-- An element of such a row. -/
structure ElAt (w0 : World) (ad : Addr) (x : Nd) (A6 : Option Addr) (c6 : Nat) (w : World) : Prop where
  x0 : w.cell? ad = some (.int .i64 x.f0)
  x1 : w.cell? ⟨ad.block, ad.off + 1, none⟩ = some (.string x.f1)
  x2 : w.cell? ⟨ad.block, ad.off + 2, none⟩ = some (.string x.f2)
  x3 : w.cell? ⟨ad.block, ad.off + 3, none⟩ = some (.int .i64 x.f3)
  x4 : w.cell? ⟨ad.block, ad.off + 4, none⟩ = some (.int .i64 x.f4)
  x5 : w.cell? ⟨ad.block, ad.off + 5, none⟩ = some (.bool x.f5)
  x6 : w.cell? ⟨ad.block, ad.off + 6, none⟩ = some (.slice A6 x.f6.length c6)
theorem Rq.at' {w0 : World} {A : Option Addr} {c : Nat} {l : List Nd} (h : Rq w0 A c l) {i : Nat} (hi : i < l.length) :
    ∃ ad A6 c6, A = some ad ∧ Rq w0 A6 c6 l[i].f6 ∧ ∀ w, Below w0.heap.size w0 w → ElAt w0 (ad.add (i * 7)) l[i] A6 c6 w := by
  obtain ⟨ad, A6, c6, e, y0, y1, y2, y3, y4, y5, y6, l6, r6⟩ := at_T29 h.row (i : Int) (by omega) (by omega)
  have hg : rd_T29 l (i : Int) = l[i] := by unfold rd_T29; rw [Int.toNat_natCast, List.getD_eq_getElem?_getD, List.getElem?_eq_getElem hi]; rfl
  rw [hg] at y0 y1 y2 y3 y4 y5 y6 l6 r6
  rw [Int.toNat_natCast] at y0 y1 y2 y3 y4 y5 y6
  have hm := okl_mem h.ok (List.getElem_mem hi)
  have hw := wt_mem (List.getElem_mem hi)
  have he := wt1_eta l[i]
  have hl := h.lim
  exact ⟨ad, A6, c6, e, ⟨r6, l6, (ok1_eta hm).2, by omega⟩, fun w hb => ⟨cell_go hb y0, cell_go hb y1, cell_go hb y2, cell_go hb y3, cell_go hb y4, cell_go hb y5, cell_go hb y6⟩⟩
theorem Rq.wt_lt {w0 : World} {A : Option Addr} {c : Nat} {l : List Nd} (h : Rq w0 A c l) {i : Nat} (hi : i < l.length) : wt l[i].f6 + 1 ≤ wt l := by
  have hw := wt_mem (List.getElem_mem hi)
  have he := wt1_eta l[i]
  omega
theorem Rq.len {w0 : World} {A : Option Addr} {c : Nat} {l : List Nd} (h : Rq w0 A c l) : l.length ≤ 268435456 := by
  refine Nat.le_trans ?_ h.lim
  have : ∀ l : List Nd, l.length ≤ wt l := by
    intro l
    induction l with
    | nil => simp
    | cons x r ih => rw [List.length_cons, wt]; have := wt1_eta x; omega
  exact this l
theorem wt_take_at {l : List Nd} {i : Nat} (hi : i < l.length) : wt (l.take i) + wt1 l[i] ≤ wt l := by
  have h := wt_take l (i + 1)
  rw [take_succ hi, wt_append, wt, wt] at h
  omega
end Go.Proofs.YtchdkiakdnanhaaGreatDoor.PA

namespace Go.Proofs.YtchdkiakdnanhaaGreatDoor.PA
open Go.RowKit Go.Sort Go.Proofs.YtchdkiakdnanhaaGreatDoor.Pl Go.Proofs.YtchdkiakdnanhaaGreatDoorW.PrintWords Go.Proofs.YtchdkiakdnanhaaGreatDoorW.PrintLast Go.Proofs.YtchdkiakdnanhaaGreatDoorW.PrintMore
set_option linter.unusedVariables false

/-- A builder in block b, made behind w0: it holds X. -/
structure Bt (w0 : World) (b : Nat) (X : List UInt8) (w : World) : Prop where
  bel : Below w0.heap.size w0 w
  isb : Lib.IsBuilderF 38 5 w0.heap.size b (Lib.byteCells X) w
structure Plt (w0 : World) (b : Nat) (X T : List UInt8) (w : World) (e : Ending) (w' : World) : Prop where
  ret : e = .returned (.tuple #[])
  bt : Bt w0 b (X ++ T) w'
  oth : Lib.OthersKept 5 (some b) w w'
theorem Bt.alloc {w0 : World} {b : Nat} {X : List UInt8} {w : World} (h : Bt w0 b X w) (o : Obj) : Bt w0 b X (w.alloc o) := ⟨h.bel.alloc h.bel.size _, h.isb.alloc o⟩
theorem Bt.str {w0 : World} {b : Nat} {X : List UInt8} {w : World} (h : Bt w0 b X w) (s : ByteArray) (hl : X.length + s.size ≤ 70368744177664) :
    Calls Tryz.prog 19 #[.pointer (some ⟨b, 0, none⟩), .string s] w fun e w' => e = .returned (.tuple #[.int .i64 s.size, .nilIface]) ∧ Bt w0 b (X ++ s.data.toList) w' ∧ Lib.OthersKept 5 (some b) w w' := by
  refine (Tryz.Builder_WriteString_k w0.heap.size b (Lib.byteCells X) s w h.isb (by rw [Lib.byteCells_length]; omega) h.bel.size).mono ?_
  rintro e w' ⟨rfl, h1, h2, h3⟩
  refine ⟨rfl, ⟨h.bel.trans h2, ?_⟩, h3⟩
  rw [Lib.strCells_eq, ← Lib.byteCells_append] at h1
  exact .inr h1
theorem Bt.byte {w0 : World} {b : Nat} {X : List UInt8} {w : World} (h : Bt w0 b X w) (x : UInt8) (hl : X.length + 1 ≤ 70368744177664) :
    Calls Tryz.prog 22 #[.pointer (some ⟨b, 0, none⟩), .int .u8 (x.toNat : Int)] w fun e w' => e = .returned .nilIface ∧ Bt w0 b (X ++ [x]) w' ∧ Lib.OthersKept 5 (some b) w w' := by
  refine (Tryz.Builder_WriteByte_k w0.heap.size b (Lib.byteCells X) (x.toNat : Int) w h.isb (by rw [Lib.byteCells_length]; omega) h.bel.size).mono ?_
  rintro e w' ⟨rfl, h1, h2, h3⟩
  refine ⟨rfl, ⟨h.bel.trans h2, ?_⟩, h3⟩
  rw [Lib.byteCells_append]
  exact .inr h1
theorem bt_kept {b : Nat} {w w' : World} {o : Nat} {x : Nd} {A6 : Option Addr} {c6 : Nat} (ho : Lib.OthersKept 5 (some b) w w') (hk : w.heap[o]? = some (.cells (ncs x A6 c6) 29 (0, 0))) (hob : o ≠ b) : w'.heap[o]? = some (.cells (ncs x A6 c6) 29 (0, 0)) :=
  ho o _ hk (fun e => hob (Option.some.inj e)) (fun c fz e => by injection e with _ e; exact absurd e (by decide))
theorem Bt.lt {w0 : World} {b : Nat} {X : List UInt8} {w : World} (h : Bt w0 b X w) : b < w.heap.size := by
  rcases h.isb with ⟨_, v, hb, _⟩ | ⟨_, v, hb, _⟩
  · exact (Array.getElem?_eq_some_iff.1 hb).1
  · exact (Array.getElem?_eq_some_iff.1 hb).1
theorem rdT1_eta (x : Nd) : rdT1 x = (if x.f0 = 14 ∨ x.f0 = 17 then x.f1.data.toList else if x.f0 = 15 ∨ x.f0 = 16 then [32] else []) ++ rdT x.f6 := by cases x; rw [rdT1]
/-- What is written ahead of a part's own parts. -/
def rdH (x : Nd) : List UInt8 := if x.f0 = 14 ∨ x.f0 = 17 then x.f1.data.toList else if x.f0 = 15 ∨ x.f0 = 16 then [32] else []
def PlC (N : Nat) : Prop := ∀ (l : List Nd), wt l < N → ∀ (w0 : World) (b : Nat) (X : List UInt8) (w : World) (A : Option Addr) (c : Nat), Rq w0 A c l → Bt w0 b X w → X.length + wt l ≤ 70368744177664 →
  Calls Tryz.prog 63 #[.pointer (some ⟨b, 0, none⟩), .slice A l.length c] w (Plt w0 b X (rdT l) w)
set_option maxHeartbeats 4000000 in
set_option maxRecDepth 100000 in
theorem plain_step (N : Nat) (IH : PlC N) : PlC (N + 1) := by
  intro l hwl w0 b X w A c hq hbt hl
  have HQ := Aside0.mk hq
  have HBT := Aside0.mk hbt
  have HIH := Aside0.mk IH
  have hlen := hq.len
  obtain ⟨R, hR⟩ : ∃ R, Plt w0 b X (rdT l) w = R := ⟨_, rfl⟩
  have HR := Aside0.mk hR
  have HL := Aside0.mk hl
  have HWL := Aside0.mk hwl
  rw [hR]
  clear hq hbt IH hR hl hwl
  go_enter Tryz.func63, Tryz.ntmps63
  go_wp2_with fail
  go_loopw [5, 8] (fun v5 v8 wr => ∃ i : Nat, v8 = .int .i64 (i : Int) ∧ i ≤ l.length ∧ Aside0 (Bt w0 b (X ++ rdT (l.take i)) wr) ∧ Aside0 (Lib.OthersKept 5 (some b) w wr)) (fun _ v8 _ => l.length - (intOf v8).toNat)
  case atStart => exact ⟨0, rfl, by omega, ⟨by rw [List.take_zero, rdT, List.append_nil]; exact HBT.out⟩, ⟨Lib.OthersKept.refl _ _ _⟩⟩
  case round =>
    obtain ⟨i, rfl, hi, HB, HO⟩ := hrel
    by_cases hlt : i < l.length
    · have q1 : decide ((i : Int) < (l.length : Int)) = true := decide_eq_true (by omega)
      have p0 := eq_true (show 0 ≤ (i : Int) from by omega)
      have p1 := eq_true (show (i : Int) < (l.length : Int) from by omega)
      obtain ⟨ad, A6, c6, e1, hq6, hel⟩ := HQ.out.at' hlt
      cases e1
      have hwt := HQ.out.wt_lt hlt
      have hsum := wt_take_at hlt
      have hr1 := rdT_len (l.take i)
      have hst := rdT_take hlt
      obtain ⟨x, hx⟩ : ∃ x, l[i] = x := ⟨_, rfl⟩
      rw [hx] at hq6 hel hwt hst hsum
      have hwx := wt1_eta x
      obtain ⟨x0, x1, x2, x3, x4, x5, x6⟩ := hel wr HB.out.bel
      have hlb : X.length + (rdT (l.take i)).length + 1 + x.f1.size + x.f2.size + wt x.f6 ≤ 70368744177664 := by have := HL.out; omega
      have HLB := Aside0.mk hlb
      have HQ6 := Aside0.mk hq6
      have HWX := Aside0.mk (show wt x.f6 < N from by have := HWL.out; omega)
      have HST := Aside0.mk (show rdT (l.take (i + 1)) = rdT (l.take i) ++ rdH x ++ rdT x.f6 from by rw [hst, rdT1_eta, List.append_assoc]; rfl)
      have HHL := Aside0.mk (show (rdH x).length ≤ 1 + x.f1.size from by
        unfold rdH
        split
        · rw [Array.length_toList]; show x.f1.size ≤ _; omega
        · split <;> simp)
      clear hx hel hwt hsum hr1 hst hq6 hwx hlb
      obtain ⟨o, ho⟩ : ∃ o, wr.heap.size = o := ⟨_, rfl⟩
      have hbk := heap_alloc_new wr (.cells (ncs x A6 c6) 29)
      have HBT1 := Aside0.mk (HB.out.alloc (.cells (ncs x A6 c6) 29))
      have HO1 := Aside0.mk (HO.out.alloc (.cells (ncs x A6 c6) 29))
      have hob : o ≠ b := by have := HB.out.lt; omega
      have HOB := Aside0.mk hob
      obtain ⟨w1, hw1⟩ : ∃ w1, wr.alloc (.cells (ncs x A6 c6) 29) = w1 := ⟨_, rfl⟩
      rw [hw1] at hbk HBT1 HO1
      rw [ho] at hbk
      have HBK := Aside0.mk hbk
      obtain ⟨d0, d1, d2, d3, d4, d5, d6⟩ := ndAt hbk
      clear hbk hob
      -- the rest of a round, once the node's own text is written
      have HREST := Aside0.mk (fun (W : World) (hW : Bt w0 b (X ++ rdT (l.take i) ++ rdH x) W) => HIH.out x.f6 HWX.out w0 b _ W A6 c6 HQ6.out hW (by have h1 := HLB.out; have h2 := HHL.out; rw [List.length_append, List.length_append]; omega))
      clear HB HO
      by_cases k1 : x.f0 = 14 ∨ x.f0 = 17
      · have hH : rdH x = x.f1.data.toList := by unfold rdH; rw [if_pos k1]
        have HS := Aside0.mk (HBT1.out.str x.f1 (by have := HLB.out; rw [List.length_append]; omega))
        have HHE := Aside0.mk hH
        clear hH
        rcases k1 with k1 | k1
        · have z1 : (x.f0 == 14) = true := beq_iff_eq.2 k1
          clear k1
          go_upto_region 10 with fail
          refine HS.out.mono ?_
          rintro e w2 ⟨rfl, hb2, ho2⟩
          have HBT2 := Aside0.mk (show Bt w0 b (X ++ rdT (l.take i) ++ rdH x) w2 from by rw [HHE.out]; exact hb2)
          have HO2 := Aside0.mk (HO1.out.trans ho2)
          have HBK2 := Aside0.mk (bt_kept ho2 HBK.out HOB.out)
          have e6 := (ndAt HBK2.out).d6
          clear hb2 ho2 HS d0 d1 d2 d3 d4 d5 d6
          go_upto_region 10 with fail
          go_wp2_with fail
          refine (HREST.out _ HBT2.out).mono ?_
          rintro e w3 hq
          have HB3 := Aside0.mk (show Bt w0 b (X ++ rdT (l.take (i + 1))) w3 from by rw [HST.out]; have := hq.bt; simpa only [List.append_assoc] using this)
          have HO3 := Aside0.mk (HO2.out.trans hq.oth)
          obtain rfl := hq.ret
          clear hq
          go_wp2
          go_roundw
          case rel => exact ⟨i + 1, by simp, by omega, HB3, HO3⟩
          case measure => simp [intOf]; omega
        · have z1 : (x.f0 == 14) = false := beq_eq_false_iff_ne.2 (by omega)
          have z2 : (x.f0 == 17) = true := beq_iff_eq.2 k1
          clear k1
          go_upto_region 10 with fail
          refine HS.out.mono ?_
          rintro e w2 ⟨rfl, hb2, ho2⟩
          have HBT2 := Aside0.mk (show Bt w0 b (X ++ rdT (l.take i) ++ rdH x) w2 from by rw [HHE.out]; exact hb2)
          have HO2 := Aside0.mk (HO1.out.trans ho2)
          have HBK2 := Aside0.mk (bt_kept ho2 HBK.out HOB.out)
          have e6 := (ndAt HBK2.out).d6
          clear hb2 ho2 HS d0 d1 d2 d3 d4 d5 d6
          go_upto_region 10 with fail
          go_wp2_with fail
          refine (HREST.out _ HBT2.out).mono ?_
          rintro e w3 hq
          have HB3 := Aside0.mk (show Bt w0 b (X ++ rdT (l.take (i + 1))) w3 from by rw [HST.out]; have := hq.bt; simpa only [List.append_assoc] using this)
          have HO3 := Aside0.mk (HO2.out.trans hq.oth)
          obtain rfl := hq.ret
          clear hq
          go_wp2
          go_roundw
          case rel => exact ⟨i + 1, by simp, by omega, HB3, HO3⟩
          case measure => simp [intOf]; omega
      · have z1 : (x.f0 == 14) = false := beq_eq_false_iff_ne.2 (by omega)
        have z2 : (x.f0 == 17) = false := beq_eq_false_iff_ne.2 (by omega)
        by_cases k2 : x.f0 = 15 ∨ x.f0 = 16
        · have hH : rdH x = [32] := by unfold rdH; rw [if_neg k1, if_pos k2]
          have HS := Aside0.mk (HBT1.out.byte 32 (by have := HLB.out; rw [List.length_append]; omega))
          have HHE := Aside0.mk hH
          clear hH
          rcases k2 with k2 | k2
          · have z3 : (x.f0 == 15) = true := beq_iff_eq.2 k2
            clear k1 k2
            go_upto_region 10 with fail
            refine HS.out.mono ?_
            rintro e w2 ⟨rfl, hb2, ho2⟩
            have HBT2 := Aside0.mk (show Bt w0 b (X ++ rdT (l.take i) ++ rdH x) w2 from by rw [HHE.out]; exact hb2)
            have HO2 := Aside0.mk (HO1.out.trans ho2)
            have HBK2 := Aside0.mk (bt_kept ho2 HBK.out HOB.out)
            have e6 := (ndAt HBK2.out).d6
            clear hb2 ho2 HS d0 d1 d2 d3 d4 d5 d6
            go_upto_region 10 with fail
            go_wp2_with fail
            refine (HREST.out _ HBT2.out).mono ?_
            rintro e w3 hq
            have HB3 := Aside0.mk (show Bt w0 b (X ++ rdT (l.take (i + 1))) w3 from by rw [HST.out]; have := hq.bt; simpa only [List.append_assoc] using this)
            have HO3 := Aside0.mk (HO2.out.trans hq.oth)
            obtain rfl := hq.ret
            clear hq
            go_wp2
            go_roundw
            case rel => exact ⟨i + 1, by simp, by omega, HB3, HO3⟩
            case measure => simp [intOf]; omega
          · have z3 : (x.f0 == 15) = false := beq_eq_false_iff_ne.2 (by omega)
            have z4 : (x.f0 == 16) = true := beq_iff_eq.2 k2
            clear k1 k2
            go_upto_region 10 with fail
            refine HS.out.mono ?_
            rintro e w2 ⟨rfl, hb2, ho2⟩
            have HBT2 := Aside0.mk (show Bt w0 b (X ++ rdT (l.take i) ++ rdH x) w2 from by rw [HHE.out]; exact hb2)
            have HO2 := Aside0.mk (HO1.out.trans ho2)
            have HBK2 := Aside0.mk (bt_kept ho2 HBK.out HOB.out)
            have e6 := (ndAt HBK2.out).d6
            clear hb2 ho2 HS d0 d1 d2 d3 d4 d5 d6
            go_upto_region 10 with fail
            go_wp2_with fail
            refine (HREST.out _ HBT2.out).mono ?_
            rintro e w3 hq
            have HB3 := Aside0.mk (show Bt w0 b (X ++ rdT (l.take (i + 1))) w3 from by rw [HST.out]; have := hq.bt; simpa only [List.append_assoc] using this)
            have HO3 := Aside0.mk (HO2.out.trans hq.oth)
            obtain rfl := hq.ret
            clear hq
            go_wp2
            go_roundw
            case rel => exact ⟨i + 1, by simp, by omega, HB3, HO3⟩
            case measure => simp [intOf]; omega
        · have z3 : (x.f0 == 15) = false := beq_eq_false_iff_ne.2 (by omega)
          have z4 : (x.f0 == 16) = false := beq_eq_false_iff_ne.2 (by omega)
          have hH : rdH x = [] := by unfold rdH; rw [if_neg k1, if_neg k2]
          have HBT2 := Aside0.mk (show Bt w0 b (X ++ rdT (l.take i) ++ rdH x) w1 from by rw [hH, List.append_nil]; exact HBT1.out)
          have HO2 := HO1
          have HBK2 := HBK
          have e6 := d6
          clear hH k1 k2
          go_upto_region 10 with fail
          go_wp2_with fail
          refine (HREST.out _ HBT2.out).mono ?_
          rintro e w3 hq
          have HB3 := Aside0.mk (show Bt w0 b (X ++ rdT (l.take (i + 1))) w3 from by rw [HST.out]; have := hq.bt; simpa only [List.append_assoc] using this)
          have HO3 := Aside0.mk (HO2.out.trans hq.oth)
          obtain rfl := hq.ret
          clear hq
          go_wp2
          go_roundw
          case rel => exact ⟨i + 1, by simp, by omega, HB3, HO3⟩
          case measure => simp [intOf]; omega
    · have q1 : decide ((i : Int) < (l.length : Int)) = false := decide_eq_false (by omega)
      have htk : l.take i = l := List.take_of_length_le (by omega)
      rw [htk] at HB
      clear htk
      go_wp2
      go_end0
      rw [← HR.out]
      exact ⟨rfl, HB.out, HO.out⟩
theorem plain_all : ∀ N, PlC N := by
  intro N
  induction N with
  | zero => exact fun l h => absurd h (Nat.not_lt_zero _)
  | succ N ih => exact plain_step N ih
set_option maxHeartbeats 1000000 in
set_option maxRecDepth 100000 in
/-- inline.Plain. -/
theorem Plain_calls {w : World} {A : Option Addr} {c : Nat} {l : List Nd} (hq : Rq w A c l) :
    Calls Tryz.prog 45 #[.slice A l.length c] w fun e w' => e = .returned (.string (B (rdT l))) ∧ Below w.heap.size w w' := by
  have hbt : Bt w w.heap.size [] (w.alloc (.cells #[.pointer none, .slice none 0 0] 38)) := ⟨(Below.refl _ w).alloc (Nat.le_refl _) _, Lib.IsBuilderF.of (Lib.fresh_isBuilder _ _ w)⟩
  have HP := Aside0.mk (plain_all (wt l + 1) l (Nat.lt_succ_self _) w w.heap.size [] _ A c hq hbt (by have := hq.lim; simp; omega))
  clear hbt hq
  go_enter Tryz.func45, Tryz.ntmps45
  go_wp2_with fail
  refine HP.out.mono ?_
  rintro e w2 hq
  have hb := hq.bt
  rw [List.nil_append] at hb
  have HB := Aside0.mk hb
  have HO := Aside0.mk (Tryz.Builder_String_any_k w.heap.size w.heap.size (rdT l) w2 hb.isb hb.bel.size)
  obtain rfl := hq.ret
  clear hq hb HP
  go_wp2_with fail
  refine HO.out.mono ?_
  rintro e w3 ⟨rfl, _, hb3, _⟩
  have HB3 := Aside0.mk (HB.out.bel.trans hb3)
  clear hb3
  go_wp2
  go_ret
  exact ⟨rfl, HB3.out⟩
end Go.Proofs.YtchdkiakdnanhaaGreatDoor.PA

namespace Go.Proofs.YtchdkiakdnanhaaGreatDoor.PA
open Go.RowKit Go.Sort Go.Proofs.YtchdkiakdnanhaaGreatDoor.Pl Go.Proofs.YtchdkiakdnanhaaGreatDoorW.PrintWords Go.Proofs.YtchdkiakdnanhaaGreatDoorW.PrintLast Go.Proofs.YtchdkiakdnanhaaGreatDoorW.PrintMore
set_option linter.unusedVariables false

/-- The writer, a node in a block of its own, and what the caller has. -/
structure Cx (w0 w : World) (b : Nat) (m : Int) (X : List UInt8) (o : Nat) (x : Nd) (A6 : Option Addr) (c6 : Nat) (W : World) : Prop where
  wt : Wt w0 b m X W
  blk : W.heap[o]? = some (.cells (ncs x A6 c6) 29 (0, 0))
  oth : Lib.OthersKept 5 (some b) w W
section
variable {w0 w W W' : World} {b : Nat} {m : Int} {X T : List UInt8} {o : Nat} {x : Nd} {A6 : Option Addr} {c6 : Nat} {e : Ending}
theorem Cx.step (h : Cx w0 w b m X o x A6 c6 W) (hb : Below W.heap.size W W') : Cx w0 w b m X o x A6 c6 W' := ⟨h.wt.step hb, (hb.block o (Array.getElem?_eq_some_iff.1 h.blk).1).trans h.blk, h.oth.trans (oth_step hb)⟩
theorem Cx.drew (h : Cx w0 w b m X o x A6 c6 W) : Cx w0 w b m X o x A6 c6 W.drew := h.step ⟨rfl, rfl, rfl, Nat.le_refl _, fun _ _ => rfl⟩
theorem Cx.drewN (h : Cx w0 w b m X o x A6 c6 W) (n : Nat) : Cx w0 w b m X o x A6 c6 (W.drewN n) := h.step ⟨rfl, rfl, rfl, Nat.le_refl _, fun _ _ => rfl⟩
theorem Cx.alloc (h : Cx w0 w b m X o x A6 c6 W) (O : Obj) : Cx w0 w b m X o x A6 c6 (W.alloc O) := h.step (below_alloc (Below.refl _ _) _)
theorem Cx.wrote (h : Cx w0 w b m X o x A6 c6 W) (k : Wrote w0 b m X T W e W') : Cx w0 w b m (X ++ T) o x A6 c6 W' := ⟨k.wt, nd_kept k.oth h.blk h.wt, h.oth.trans k.oth⟩
theorem Cx.nd (h : Cx w0 w b m X o x A6 c6 W) : NdAt o x A6 c6 W := ndAt h.blk
theorem Cx.k126 (h : Cx w0 w b m X o x A6 c6 W) : W.cell? ⟨o, 1, none⟩ = some (.string x.f1) ∧ W.cell? ⟨o, 2, none⟩ = some (.string x.f2) ∧ W.cell? ⟨o, 6, none⟩ = some (.slice A6 x.f6.length c6) := ⟨h.nd.d1, h.nd.d2, h.nd.d6⟩
theorem Rq.go {A : Option Addr} {c : Nat} {l : List Nd} (h : Rq w0 A c l) (hb : Below w0.heap.size w0 W) : Rq W A c l := ⟨Kd.C_below h.row hb, h.cap, h.ok, h.lim⟩
end
theorem inl1_eta (m : Int) (x : Nd) : inl1 m x =
    if x.f0 = 18 then tagd [101, 109] [] (inl m x.f6)
    else if x.f0 = 19 then tagd [115, 116, 114, 111, 110, 103] [] (inl m x.f6)
    else if x.f0 = 23 then tagd [100, 101, 108] [] (inl m x.f6)
    else if x.f0 = 20 then tagd [97] ([32, 104, 114, 101, 102, 61, 34] ++ hrf x.f1.data.toList ++ [34] ++ atr [116, 105, 116, 108, 101] (htm x.f2.data.toList)) (inl m x.f6)
    else if x.f0 = 21 then [60, 105, 109, 103, 32, 115, 114, 99, 61, 34] ++ hrf x.f1.data.toList ++ [34, 32, 97, 108, 116, 61, 34] ++ htm (rdT x.f6) ++ [34] ++ atr [116, 105, 116, 108, 101] (htm x.f2.data.toList) ++ [32, 47, 62]
    else leafT m x.f0 x.f1.data.toList x.f3 x.f4 x.f5 := by cases x; rw [inl1]
def InlC (N : Nat) : Prop := ∀ (l : List Nd), wt l < N → ∀ (w0 : World) (b : Nat) (m : Int) (X : List UInt8) (w : World) (A : Option Addr) (c : Nat), LaidW w0 → Rq w0 A c l → Wt w0 b m X w → X.length + 300 * wt l ≤ 70368744177664 →
  Calls Tryz.prog 26 #[.pointer (some ⟨b, 0, none⟩), .slice A l.length c] w (Wrote w0 b m X (inl m l) w)
set_option maxHeartbeats 8000000 in
set_option maxRecDepth 100000 in
theorem inl_step (N : Nat) (IH : InlC N) : InlC (N + 1) := by
  intro l hwl w0 b m X w A c hLd hq hwt0 hl
  have HLD := Aside0.mk hLd
  have HQ := Aside0.mk hq
  have HW := Aside0.mk hwt0
  have HIH := Aside0.mk IH
  have hlen := hq.len
  obtain ⟨R, hR⟩ : ∃ R, Wrote w0 b m X (inl m l) w = R := ⟨_, rfl⟩
  have HR := Aside0.mk hR
  have HL := Aside0.mk hl
  have HWL := Aside0.mk hwl
  rw [hR]
  clear hq hwt0 IH hR hl hwl hLd
  go_enter Tryz.func26, Tryz.ntmps26
  go_wp2_with fail
  go_loopw [5, 8] (fun v5 v8 wr => ∃ i : Nat, v8 = .int .i64 (i : Int) ∧ i ≤ l.length ∧ Aside0 (Wt w0 b m (X ++ inl m (l.take i)) wr) ∧ Aside0 (Lib.OthersKept 5 (some b) w wr)) (fun _ v8 _ => l.length - (intOf v8).toNat)
  case atStart => exact ⟨0, rfl, by omega, ⟨by rw [List.take_zero, inl, List.append_nil]; exact HW.out⟩, ⟨Lib.OthersKept.refl _ _ _⟩⟩
  case round =>
    obtain ⟨i, rfl, hi, HB, HO⟩ := hrel
    by_cases hlt : i < l.length
    · have q1 : decide ((i : Int) < (l.length : Int)) = true := decide_eq_true (by omega)
      have p0 := eq_true (show 0 ≤ (i : Int) from by omega)
      have p1 := eq_true (show (i : Int) < (l.length : Int) from by omega)
      obtain ⟨ad, A6, c6, e1, hq6, hel⟩ := HQ.out.at' hlt
      cases e1
      have hwt := HQ.out.wt_lt hlt
      have hsum := wt_take_at hlt
      have hr1 := inl_len m (l.take i) (okl_take HQ.out.ok i)
      have hst := inl_take m hlt
      have hok := okl_mem HQ.out.ok (List.getElem_mem hlt)
      obtain ⟨x, hx⟩ : ∃ x, l[i] = x := ⟨_, rfl⟩
      rw [hx] at hq6 hel hwt hst hsum hok
      have hwx := wt1_eta x
      obtain ⟨⟨hn, hm, hs1, hs2⟩, hok6⟩ := ok1_eta hok
      obtain ⟨x0, x1, x2, x3, x4, x5, x6⟩ := hel wr HB.out.bel
      obtain ⟨X1, hX1⟩ : ∃ X1, X ++ inl m (l.take i) = X1 := ⟨_, rfl⟩
      have hlb : X1.length + 300 * (1 + x.f1.size + x.f2.size + wt x.f6) ≤ 70368744177664 := by
        have := HL.out
        rw [← hX1, List.length_append]
        omega
      rw [hX1] at HB
      have HLB := Aside0.mk hlb
      have HQ6 := Aside0.mk hq6
      have HINX := Aside0.mk (fun (X' : List UInt8) (W : World) (hW : Wt w0 b m X' W) (hl' : X'.length + 300 * wt x.f6 ≤ 70368744177664) => HIH.out x.f6 (by have := HWL.out; omega) w0 b m X' W A6 c6 HLD.out hq6 hW hl')
      have HST := Aside0.mk (show X ++ inl m (l.take (i + 1)) = X1 ++ inl1 m x from by rw [hst, ← hX1, List.append_assoc])
      have HN := Aside0.mk hn
      have HM := Aside0.mk hm
      have HS1 := Aside0.mk hs1
      have HS2 := Aside0.mk hs2
      clear hx hel hwt hsum hr1 hst hq6 hwx hlb hX1 hok hok6 hn hm hs1 hs2
      obtain ⟨o, ho⟩ : ∃ o, wr.heap.size = o := ⟨_, rfl⟩
      have hbk := heap_alloc_new wr (.cells (ncs x A6 c6) 29)
      have hcx : Cx w0 w b m X1 wr.heap.size x A6 c6 (wr.alloc (.cells (ncs x A6 c6) 29)) := ⟨HB.out.step (below_alloc (Below.refl _ _) _), hbk, HO.out.alloc _⟩
      obtain ⟨w1, hw1⟩ : ∃ w1, wr.alloc (.cells (ncs x A6 c6) 29) = w1 := ⟨_, rfl⟩
      rw [hw1, ho] at hcx
      have HC1 := Aside0.mk hcx
      obtain ⟨d0, d1, d2, d3, d4, d5, d6⟩ := hcx.nd
      clear hbk hcx HB HO
      have HE := Aside0.mk (inl1_eta m x)
      by_cases k18 : x.f0 = 18
      · have z18 : (x.f0 == 18) = true := beq_iff_eq.2 k18
        have HT := Aside0.mk (show inl1 m x = tagd [101, 109] [] (inl m x.f6) from by rw [HE.out, if_pos k18])
        have HIN := Aside0.mk (in_calls HC1.out.wt [101, 109] [] x.f6 A6 c6 HINX.out HQ6.out.ok (by have := HLB.out; simp only [List.length_cons, List.length_nil]; omega))
        clear k18
        go_wp2_with fail
        refine HIN.out.mono ?_
        rintro e w2 hq
        have HF := Aside0.mk (show Cx w0 w b m (X ++ inl m (l.take (i + 1))) o x A6 c6 w2 from by rw [HST.out, HT.out]; exact HC1.out.wrote hq)
        obtain rfl := hq.ret
        clear hq HIN HC1 d0 d1 d2 d3 d4 d5 d6
        go_wp2
        go_roundw
        case rel => exact ⟨i + 1, by simp, by omega, ⟨HF.out.wt⟩, ⟨HF.out.oth⟩⟩
        case measure => simp [intOf]; omega
      · have z18 : (x.f0 == 18) = false := beq_eq_false_iff_ne.2 k18
        by_cases k19 : x.f0 = 19
        · have z19 : (x.f0 == 19) = true := beq_iff_eq.2 k19
          have HT := Aside0.mk (show inl1 m x = tagd [115, 116, 114, 111, 110, 103] [] (inl m x.f6) from by rw [HE.out, if_neg k18, if_pos k19])
          have HIN := Aside0.mk (in_calls HC1.out.wt [115, 116, 114, 111, 110, 103] [] x.f6 A6 c6 HINX.out HQ6.out.ok (by have := HLB.out; simp only [List.length_cons, List.length_nil]; omega))
          clear k18 k19
          go_wp2_with fail
          refine HIN.out.mono ?_
          rintro e w2 hq
          have HF := Aside0.mk (show Cx w0 w b m (X ++ inl m (l.take (i + 1))) o x A6 c6 w2 from by rw [HST.out, HT.out]; exact HC1.out.wrote hq)
          obtain rfl := hq.ret
          clear hq HIN HC1 d0 d1 d2 d3 d4 d5 d6
          go_wp2
          go_roundw
          case rel => exact ⟨i + 1, by simp, by omega, ⟨HF.out.wt⟩, ⟨HF.out.oth⟩⟩
          case measure => simp [intOf]; omega
        · have z19 : (x.f0 == 19) = false := beq_eq_false_iff_ne.2 k19
          by_cases k23 : x.f0 = 23
          · have z23 : (x.f0 == 23) = true := beq_iff_eq.2 k23
            have HT := Aside0.mk (show inl1 m x = tagd [100, 101, 108] [] (inl m x.f6) from by rw [HE.out, if_neg k18, if_neg k19, if_pos k23])
            have HIN := Aside0.mk (in_calls HC1.out.wt [100, 101, 108] [] x.f6 A6 c6 HINX.out HQ6.out.ok (by have := HLB.out; simp only [List.length_cons, List.length_nil]; omega))
            clear k18 k19 k23
            go_wp2_with fail
            refine HIN.out.mono ?_
            rintro e w2 hq
            have HF := Aside0.mk (show Cx w0 w b m (X ++ inl m (l.take (i + 1))) o x A6 c6 w2 from by rw [HST.out, HT.out]; exact HC1.out.wrote hq)
            obtain rfl := hq.ret
            clear hq HIN HC1 d0 d1 d2 d3 d4 d5 d6
            go_wp2
            go_roundw
            case rel => exact ⟨i + 1, by simp, by omega, ⟨HF.out.wt⟩, ⟨HF.out.oth⟩⟩
            case measure => simp [intOf]; omega
          · have z23 : (x.f0 == 23) = false := beq_eq_false_iff_ne.2 k23
            by_cases k20 : x.f0 = 20
            · have z20 : (x.f0 == 20) = true := beq_iff_eq.2 k20
              have hHr := (hrf_len x.f1.data.toList).2
              have hHt := (htm_len x.f2.data.toList).2
              have hAt := atr_len [116, 105, 116, 108, 101] (htm x.f2.data.toList)
              have hx1 : x.f1.data.toList.length = x.f1.size := by rw [Array.length_toList]; rfl
              have hx2 : x.f2.data.toList.length = x.f2.size := by rw [Array.length_toList]; rfl
              have hT := HE.out
              rw [if_neg k18, if_neg k19, if_neg k23, if_pos k20] at hT
              have HHR := Aside0.mk (fun W => href_b x.f1 HS1.out W)
              have HHT := Aside0.mk (fun W => html_b x.f2 (Nat.le_trans HS2.out (by decide)) W)
              obtain ⟨hr, hhr⟩ : ∃ a, hrf x.f1.data.toList = a := ⟨_, rfl⟩
              obtain ⟨ht, hht⟩ : ∃ a, htm x.f2.data.toList = a := ⟨_, rfl⟩
              rw [hhr] at hHr hT
              rw [hht] at hHt hAt hT
              simp only [hhr] at HHR
              simp only [hht] at HHT
              have HAT := Aside0.mk (fun W => attr_calls [116, 105, 116, 108, 101] ht (by decide) (by have := HS2.out; omega) W)
              obtain ⟨at', hat⟩ : ∃ a, atr [116, 105, 116, 108, 101] ht = a := ⟨_, rfl⟩
              rw [hat] at hAt hT
              simp only [hat] at HAT
              simp only [List.length_cons, List.length_nil] at hAt
              have hcat : (⟨#[32, 104, 114, 101, 102, 61, 34]⟩ : ByteArray) ++ B hr ++ (⟨#[34]⟩ : ByteArray) ++ B at' = B ([32, 104, 114, 101, 102, 61, 34] ++ hr ++ [34] ++ at') := by
                show B [32, 104, 114, 101, 102, 61, 34] ++ B hr ++ B [34] ++ B at' = _
                simp only [B_ap]
              have HT := Aside0.mk hT
              have HIN := Aside0.mk (fun (W : World) (hW : Wt w0 b m X1 W) => (show Calls Tryz.prog 37 #[.pointer (some ⟨b, 0, none⟩), .string ⟨#[97]⟩, .string ((⟨#[32, 104, 114, 101, 102, 61, 34]⟩ : ByteArray) ++ B hr ++ (⟨#[34]⟩ : ByteArray) ++ B at'), .slice A6 x.f6.length c6] W (Wrote w0 b m X1 (tagd [97] ([32, 104, 114, 101, 102, 61, 34] ++ hr ++ [34] ++ at') (inl m x.f6)) W) from by
                rw [hcat]
                exact in_calls hW [97] _ x.f6 A6 c6 HINX.out HQ6.out.ok (by have := HLB.out; have := HS1.out; have := HS2.out; simp only [List.length_append, List.length_cons, List.length_nil]; omega)))
              have sr := B_size hr
              have sa := B_size at'
              have b1 := HS1.out
              have b2 := HS2.out
              have y1 : ¬ 9223372036854775807 < 7 + (B hr).size := by omega
              have y2 : ¬ 9223372036854775807 < 7 + (B hr).size + 1 := by omega
              have y3 : ¬ 9223372036854775807 < 7 + (B hr).size + 1 + (B at').size := by omega
              clear k18 k19 k23 k20 hHr hHt hAt hx1 hx2 hT hhr hht hat hcat sr sa b1 b2
              go_upto_region 12 with fail
              go_region_held3 (fun W => W.cell? ⟨o, 1, none⟩ = some (.string x.f1) ∧ W.cell? ⟨o, 2, none⟩ = some (.string x.f2) ∧ W.cell? ⟨o, 6, none⟩ = some (.slice A6 x.f6.length c6)) (first | exact HC5.out.k126 | exact HC4.out.k126 | exact HC3.out.k126 | exact HC2.out.k126 | exact HC1.out.k126 | exact HC1.out.drew.k126 | exact (HC1.out.drewN _).k126)
                (first
                | (go_at_call 44; refine (HHR.out _).mono ?_; rintro e v1 ⟨rfl, hb⟩; have HC2 := Aside0.mk (show Cx w0 w b m X1 o x A6 c6 v1 from by first | exact HC1.out.step hb | exact HC1.out.drew.step hb | exact (HC1.out.drewN _).step hb); clear hb)
                | (go_at_call 39; refine (HHT.out _).mono ?_; rintro e v2 ⟨rfl, hb⟩; have HC3 := Aside0.mk (HC2.out.step hb); clear hb)
                | (go_at_call 38; refine (HAT.out _).mono ?_; rintro e v3 ⟨rfl, rfl⟩; have HC4 := HC3)
                | (go_at_call 37; refine (HIN.out _ HC4.out.wt).mono ?_; rintro e v5 hq; have HC5 := Aside0.mk (HC4.out.wrote hq); obtain rfl := hq.ret; clear hq))
              all_goals
                have HF := Aside0.mk (show Cx w0 w b m (X ++ inl m (l.take (i + 1))) o x A6 c6 _ from by rw [HST.out, HT.out]; first | exact HC5.out | exact HC5.out.drew)
                clear HC1 HC2 HC3 HC4 HC5
                go_wp2
                go_roundw
                case rel => exact ⟨i + 1, by simp, by omega, ⟨HF.out.wt⟩, ⟨HF.out.oth⟩⟩
                case measure => simp [intOf]; omega
            · have z20 : (x.f0 == 20) = false := beq_eq_false_iff_ne.2 k20
              by_cases k21 : x.f0 = 21
              · have z21 : (x.f0 == 21) = true := beq_iff_eq.2 k21
                have hHr := (hrf_len x.f1.data.toList).2
                have hHt := (htm_len x.f2.data.toList).2
                have hHp := (htm_len (rdT x.f6)).2
                have hRd := rdT_len x.f6
                have hAt := atr_len [116, 105, 116, 108, 101] (htm x.f2.data.toList)
                have hx1 : x.f1.data.toList.length = x.f1.size := by rw [Array.length_toList]; rfl
                have hx2 : x.f2.data.toList.length = x.f2.size := by rw [Array.length_toList]; rfl
                have hT := HE.out
                rw [if_neg k18, if_neg k19, if_neg k23, if_neg k20, if_pos k21] at hT
                have HHR := Aside0.mk (fun W => href_b x.f1 HS1.out W)
                have HHT := Aside0.mk (fun W => html_b x.f2 (Nat.le_trans HS2.out (by decide)) W)
                have HPL := Aside0.mk (fun (W : World) (hW : Below w0.heap.size w0 W) => Plain_calls (HQ6.out.go hW))
                have HHP := Aside0.mk (fun W => html_walk (rdT x.f6) (Nat.le_trans hRd HQ6.out.lim) W)
                obtain ⟨hr, hhr⟩ : ∃ a, hrf x.f1.data.toList = a := ⟨_, rfl⟩
                obtain ⟨ht, hht⟩ : ∃ a, htm x.f2.data.toList = a := ⟨_, rfl⟩
                obtain ⟨rd, hrd⟩ : ∃ a, rdT x.f6 = a := ⟨_, rfl⟩
                rw [hrd] at hHp hT hRd
                simp only [hrd] at HPL HHP
                obtain ⟨hp, hhp⟩ : ∃ a, htm rd = a := ⟨_, rfl⟩
                rw [hhr] at hHr hT
                rw [hht] at hHt hAt hT
                rw [hhp] at hHp hT
                simp only [hhr] at HHR
                simp only [hht] at HHT
                simp only [hhp] at HHP
                have HAT := Aside0.mk (fun W => attr_calls [116, 105, 116, 108, 101] ht (by decide) (by have := HS2.out; omega) W)
                obtain ⟨at', hat⟩ : ∃ a, atr [116, 105, 116, 108, 101] ht = a := ⟨_, rfl⟩
                rw [hat] at hAt hT
                simp only [hat] at HAT
                simp only [List.length_cons, List.length_nil] at hAt
                obtain ⟨T, hTT⟩ : ∃ T, [60, 105, 109, 103, 32, 115, 114, 99, 61, 34] ++ hr ++ [34, 32, 97, 108, 116, 61, 34] ++ hp ++ [34] ++ at' ++ [32, 47, 62] = T := ⟨_, rfl⟩
                have hTl : T.length ≤ 300 * (1 + x.f1.size + x.f2.size + wt x.f6) := by
                  rw [← hTT]
                  simp only [List.length_append, List.length_cons, List.length_nil]
                  omega
                rw [hTT] at hT
                have HT := Aside0.mk hT
                have HIN := Aside0.mk (fun (W : World) (hW : Wt w0 b m X1 W) => put_l hW [[60, 105, 109, 103, 32, 115, 114, 99, 61, 34], hr, [34, 32, 97, 108, 116, 61, 34], hp, [34], at', [32, 47, 62]] T (by rw [← hTT]; simp) (by have := HLB.out; omega) (by simp))
                clear k18 k19 k23 k20 k21 hHr hHt hAt hx1 hx2 hT hhr hht hat hHp hRd hrd hhp hTT hTl
                go_upto_region 14 with fail
                go_region_held3 (fun W => W.cell? ⟨o, 1, none⟩ = some (.string x.f1) ∧ W.cell? ⟨o, 2, none⟩ = some (.string x.f2) ∧ W.cell? ⟨o, 6, none⟩ = some (.slice A6 x.f6.length c6)) (first | exact HC7.out.k126 | exact (HC6.out.alloc _).k126 | exact HC6.out.k126 | exact HC5.out.k126 | exact HC4.out.k126 | exact HC3.out.k126 | exact HC2.out.k126 | exact HC1.out.k126 | exact HC1.out.drew.k126 | exact (HC1.out.drewN _).k126)
                  (first
                  | (go_at_call 44; refine (HHR.out _).mono ?_; rintro e v1 ⟨rfl, hb⟩; have HC2 := Aside0.mk (show Cx w0 w b m X1 o x A6 c6 v1 from by first | exact HC1.out.step hb | exact HC1.out.drew.step hb | exact (HC1.out.drewN _).step hb); clear hb)
                  | (go_at_call 45; refine (HPL.out _ HC2.out.wt.bel).mono ?_; rintro e v2 ⟨rfl, hb⟩; have HC3 := Aside0.mk (HC2.out.step hb); clear hb)
                  | (go_at_call 39; refine (HHP.out _).mono ?_; rintro e v3 ⟨rfl, hb⟩; have HC4 := Aside0.mk (HC3.out.step hb); clear hb)
                  | (go_at_call 39; refine (HHT.out _).mono ?_; rintro e v4 ⟨rfl, hb⟩; have HC5 := Aside0.mk (HC4.out.step hb); clear hb)
                  | (go_at_call 38; refine (HAT.out _).mono ?_; rintro e v5 ⟨rfl, rfl⟩; have HC6 := HC5)
                  | (go_at_call 27; refine (HIN.out _ HC6.out.wt).mono ?_; rintro e v6 hq; have HC7 := Aside0.mk (HC6.out.wrote hq); obtain rfl := hq.ret; clear hq))
                all_goals
                  have HF := Aside0.mk (show Cx w0 w b m (X ++ inl m (l.take (i + 1))) o x A6 c6 _ from by rw [HST.out, HT.out]; first | exact HC7.out | exact HC7.out.drew)
                  clear HC1 HC2 HC3 HC4 HC5 HC6 HC7
                  go_wp2
                  go_roundw
                  case rel => exact ⟨i + 1, by simp, by omega, ⟨HF.out.wt⟩, ⟨HF.out.oth⟩⟩
                  case measure => simp [intOf]; omega
              · have z21 : (x.f0 == 21) = false := beq_eq_false_iff_ne.2 k21
                have HT := Aside0.mk (show inl1 m x = leafT m x.f0 x.f1.data.toList x.f3 x.f4 x.f5 from by rw [HE.out, if_neg k18, if_neg k19, if_neg k23, if_neg k20, if_neg k21])
                have HIN := Aside0.mk (leaf_calls HC1.out.wt HLD.out x A6 c6 HS1.out HN.out HM.out (by
                  have h1 := leafT_len m x.f0 x.f1.data.toList x.f5 HN.out HM.out
                  have hx1 : x.f1.data.toList.length = x.f1.size := by rw [Array.length_toList]; rfl
                  have := HLB.out
                  omega))
                clear k18 k19 k23 k20 k21
                go_wp2_with fail
                refine HIN.out.mono ?_
                rintro e w2 hq
                have HF := Aside0.mk (show Cx w0 w b m (X ++ inl m (l.take (i + 1))) o x A6 c6 w2 from by rw [HST.out, HT.out]; exact HC1.out.wrote hq)
                obtain rfl := hq.ret
                clear hq HIN HC1 d0 d1 d2 d3 d4 d5 d6
                go_wp2
                go_roundw
                case rel => exact ⟨i + 1, by simp, by omega, ⟨HF.out.wt⟩, ⟨HF.out.oth⟩⟩
                case measure => simp [intOf]; omega
    · have q1 : decide ((i : Int) < (l.length : Int)) = false := decide_eq_false (by omega)
      have htk : l.take i = l := List.take_of_length_le (by omega)
      rw [htk] at HB
      clear htk
      go_wp2
      go_end0
      rw [← HR.out]
      exact ⟨rfl, HB.out, HO.out⟩
theorem inl_all : ∀ N, InlC N := by
  intro N
  induction N with
  | zero => exact fun l h => absurd h (Nat.not_lt_zero _)
  | succ N ih => exact inl_step N ih
end Go.Proofs.YtchdkiakdnanhaaGreatDoor.PA

namespace Go.Proofs.YtchdkiakdnanhaaGreatDoor.PA
open Go.RowKit Go.Sort Go.Proofs.YtchdkiakdnanhaaGreatDoor.Pl Go.Proofs.YtchdkiakdnanhaaGreatDoorW.PrintWords Go.Proofs.YtchdkiakdnanhaaGreatDoorW.PrintLast Go.Proofs.YtchdkiakdnanhaaGreatDoorW.PrintMore
set_option linter.unusedVariables false

theorem inl_calls {w0 : World} {b : Nat} {m : Int} {X : List UInt8} {w : World} {A : Option Addr} {c : Nat} {l : List Nd} (hLd : LaidW w0) (hq : Rq w0 A c l) (h : Wt w0 b m X w) (hl : X.length + 300 * wt l ≤ 70368744177664) :
    Calls Tryz.prog 26 #[.pointer (some ⟨b, 0, none⟩), .slice A l.length c] w (Wrote w0 b m X (inl m l) w) := inl_all (wt l + 1) l (Nat.lt_succ_self _) w0 b m X w A c hLd hq h hl
theorem in_any {w0 : World} {b : Nat} {m : Int} {X : List UInt8} {w : World} {A : Option Addr} {c : Nat} {l : List Nd} (hLd : LaidW w0) (hq : Rq w0 A c l) (h : Wt w0 b m X w) (tag attrs : List UInt8) (hl : X.length + (5 + 2 * tag.length + attrs.length + 300 * wt l) ≤ 70368744177664) :
    Calls Tryz.prog 37 #[.pointer (some ⟨b, 0, none⟩), .string (B tag), .string (B attrs), .slice A l.length c] w (Wrote w0 b m X (tagd tag attrs (inl m l)) w) :=
  in_calls h tag attrs l A c (fun X' W hW hl' => inl_calls hLd hq hW hl') hq.ok hl
theorem Rq.take {w0 : World} {A : Option Addr} {c n : Nat} {l : List Nd} (h : Rq w0 A c l) (hn : n ≤ l.length) : Rq w0 A c (l.take n) :=
  ⟨Kd.C_take h.row hn, Nat.le_trans (by rw [List.length_take]; omega) h.cap, okl_take h.ok n, Nat.le_trans (wt_take l n) h.lim⟩
theorem Rq.drop {w0 : World} {A : Option Addr} {c n : Nat} {l : List Nd} (h : Rq w0 A c l) (hn : n ≤ l.length) : Rq w0 (if c = n then A else A.map (·.add (n * 7))) (c - n) (l.drop n) :=
  ⟨Kd.C_drop h.row hn h.cap, by have := h.cap; rw [List.length_drop]; omega, okl_drop h.ok n, Nat.le_trans (wt_drop l n) h.lim⟩
theorem Rq.one {w0 : World} {ad : Addr} {c i : Nat} {l : List Nd} (h : Rq w0 (some ad) c l) (hi : i < l.length) : Rq w0 (some (ad.add (i * 7))) (c - i) [l[i]] := by
  have h1 := (h.drop (Nat.le_of_lt hi)).take (n := 1) (by rw [List.length_drop]; omega)
  have hc := h.cap
  rw [if_neg (by omega)] at h1
  have e : (l.drop i).take 1 = [l[i]] := by rw [List.drop_eq_getElem_cons hi]; rfl
  rw [e] at h1
  exact h1
set_option maxHeartbeats 8000000 in
set_option maxRecDepth 100000 in
theorem rows_calls {w0 : World} {b : Nat} {m : Int} {X : List UInt8} {w : World} {A : Option Addr} {c : Nat} {l : List Nd} (hLd : LaidW w0) (hq : Rq w0 A c l) (h : Wt w0 b m X w) (tag : List UInt8) (htg : tag.length = 2) (hl : X.length + 300 * wt l ≤ 70368744177664) :
    Calls Tryz.prog 59 #[.pointer (some ⟨b, 0, none⟩), .slice A l.length c, .string (B tag)] w (Wrote w0 b m X (l.flatMap (rowT m tag)) w) := by
  have HLD := Aside0.mk hLd
  have HQ := Aside0.mk hq
  have HW := Aside0.mk h
  have hlen := hq.len
  obtain ⟨R, hR⟩ : ∃ R, Wrote w0 b m X (l.flatMap (rowT m tag)) w = R := ⟨_, rfl⟩
  have HR := Aside0.mk hR
  have HL := Aside0.mk hl
  have HTG := Aside0.mk htg
  rw [hR]
  clear hq h hR hl hLd htg
  go_enter Tryz.func59, Tryz.ntmps59
  go_wp2_with fail
  go_loopw [7, 9, 12, 22] (fun v7 v9 v12 v22 wr => ∃ i : Nat, v12 = .int .i64 (i : Int) ∧ i ≤ l.length ∧ Aside0 (Wt w0 b m (X ++ (l.take i).flatMap (rowT m tag)) wr) ∧ Aside0 (Lib.OthersKept 5 (some b) w wr)) (fun _ _ v12 _ _ => l.length - (intOf v12).toNat)
  case atStart => exact ⟨0, rfl, by omega, ⟨by rw [List.take_zero, List.flatMap_nil, List.append_nil]; exact HW.out⟩, ⟨Lib.OthersKept.refl _ _ _⟩⟩
  case round =>
    obtain ⟨i, rfl, hi, HB, HO⟩ := hrel
    by_cases hlt : i < l.length
    · have q1 : decide ((i : Int) < (l.length : Int)) = true := decide_eq_true (by omega)
      have p0 := eq_true (show 0 ≤ (i : Int) from by omega)
      have p1 := eq_true (show (i : Int) < (l.length : Int) from by omega)
      obtain ⟨ad, A6, c6, e1, hq6, hel⟩ := HQ.out.at' hlt
      cases e1
      have hsum := wt_take_at hlt
      have hr1 := rows_len m HTG.out (okl_take HQ.out.ok i)
      have hst : (l.take (i + 1)).flatMap (rowT m tag) = (l.take i).flatMap (rowT m tag) ++ rowT m tag l[i] := by rw [take_succ hlt, List.flatMap_append, List.flatMap_singleton]
      obtain ⟨x, hx⟩ : ∃ x, l[i] = x := ⟨_, rfl⟩
      rw [hx] at hq6 hel hst hsum
      have hwx := wt1_eta x
      have hlen6 := hq6.len
      obtain ⟨x0, x1, x2, x3, x4, x5, x6⟩ := hel wr HB.out.bel
      obtain ⟨X1, hX1⟩ : ∃ X1, X ++ (l.take i).flatMap (rowT m tag) = X1 := ⟨_, rfl⟩
      have hlb : X1.length + 300 + 300 * wt x.f6 ≤ 70368744177664 := by
        have := HL.out
        rw [← hX1, List.length_append]
        omega
      rw [hX1] at HB
      have HLB := Aside0.mk hlb
      have HQ6 := Aside0.mk hq6
      have HST := Aside0.mk (show X ++ (l.take (i + 1)).flatMap (rowT m tag) = X1 ++ [60, 116, 114, 62, 10] ++ x.f6.flatMap (celT m tag) ++ [60, 47, 116, 114, 62, 10] from by rw [hst, ← hX1]; unfold rowT; simp only [List.append_assoc])
      have HCL := Aside0.mk (fun j => cels_len m HTG.out (okl_take hq6.ok j))
      clear hx hel hsum hr1 hst hq6 hwx hlb hX1
      obtain ⟨o, ho⟩ : ∃ o, wr.heap.size = o := ⟨_, rfl⟩
      have hcx : Cx w0 w b m X1 wr.heap.size x A6 c6 (wr.alloc (.cells (ncs x A6 c6) 29)) := ⟨HB.out.step (below_alloc (Below.refl _ _) _), heap_alloc_new wr _, HO.out.alloc _⟩
      obtain ⟨w1, hw1⟩ : ∃ w1, wr.alloc (.cells (ncs x A6 c6) 29) = w1 := ⟨_, rfl⟩
      rw [hw1, ho] at hcx
      have HC1 := Aside0.mk hcx
      clear hcx HB HO
      have HP := Aside0.mk (put_l HC1.out.wt [[60, 116, 114, 62, 10]] [60, 116, 114, 62, 10] rfl (by have := HLB.out; simp only [List.length_cons, List.length_nil]; omega) (by simp))
      go_wp2_with fail
      refine HP.out.mono ?_
      rintro e w2 hq
      have HC2 := Aside0.mk (HC1.out.wrote hq)
      obtain rfl := hq.ret
      clear hq HP HC1 x0 x1 x2 x3 x4 x5 x6
      obtain ⟨d0, d1, d2, d3, d4, d5, d6⟩ := HC2.out.nd
      go_wp2_with fail
      go_loopw [9, 22] (fun v9 v22 wz => ∃ j : Nat, v22 = .int .i64 (j : Int) ∧ j ≤ x.f6.length ∧ Aside0 (Wt w0 b m (X1 ++ [60, 116, 114, 62, 10] ++ (x.f6.take j).flatMap (celT m tag)) wz) ∧ Aside0 (Lib.OthersKept 5 (some b) w wz)) (fun _ v22 _ => x.f6.length - (intOf v22).toNat)
      case atStart => exact ⟨0, rfl, Nat.zero_le _, ⟨by rw [List.take_zero, List.flatMap_nil, List.append_nil]; exact HC2.out.wt⟩, ⟨HC2.out.oth⟩⟩
      case round =>
        clear HC2 d0 d1 d2 d3 d4 d5 d6
        obtain ⟨j, rfl, hj, HB, HO⟩ := hrel
        by_cases hjl : j < x.f6.length
        · have q2 : decide ((j : Int) < (x.f6.length : Int)) = true := decide_eq_true (by omega)
          have r0 := eq_true (show 0 ≤ (j : Int) from by omega)
          have r1 := eq_true (show (j : Int) < (x.f6.length : Int) from by omega)
          obtain ⟨ad6, A7, c7, e1, hq7, hel⟩ := HQ6.out.at' hjl
          cases e1
          have hsum := wt_take_at hjl
          have hr1 := HCL.out j
          have hst : (x.f6.take (j + 1)).flatMap (celT m tag) = (x.f6.take j).flatMap (celT m tag) ++ celT m tag x.f6[j] := by rw [take_succ hjl, List.flatMap_append, List.flatMap_singleton]
          obtain ⟨y, hy⟩ : ∃ y, x.f6[j] = y := ⟨_, rfl⟩
          rw [hy] at hq7 hel hst hsum
          have hwy := wt1_eta y
          have hal := alnT_len y.f3
          obtain ⟨x0, x1, x2, x3, x4, x5, x6⟩ := hel wr HB.out.bel
          obtain ⟨X2, hX2⟩ : ∃ X2, X1 ++ [60, 116, 114, 62, 10] ++ (x.f6.take j).flatMap (celT m tag) = X2 := ⟨_, rfl⟩
          have hlb2 : X2.length + 200 + 300 * wt y.f6 ≤ 70368744177664 := by
            have := HLB.out
            rw [← hX2, List.length_append, List.length_append]
            simp only [List.length_cons, List.length_nil]
            omega
          rw [hX2] at HB
          have HLB2 := Aside0.mk hlb2
          have HST2 := Aside0.mk (show X1 ++ [60, 116, 114, 62, 10] ++ (x.f6.take (j + 1)).flatMap (celT m tag) = X2 ++ tagd tag (alnT y.f3) (inl m y.f6) ++ [10] from by rw [hst, ← hX2]; unfold celT; simp only [List.append_assoc])
          have HAL := Aside0.mk (fun W => align_calls y.f3 W)
          have HINL := Aside0.mk (inl_len m y.f6 hq7.ok)
          have HIN := Aside0.mk (fun (W : World) (hW : Wt w0 b m X2 W) => in_any HLD.out hq7 hW tag (alnT y.f3) (by have := HTG.out; omega))
          clear hy hel hsum hr1 hst hq7 hwy hlb2 hX2 hal
          obtain ⟨o2, ho2⟩ : ∃ o2, wr.heap.size = o2 := ⟨_, rfl⟩
          have hcx : Cx w0 w b m X2 wr.heap.size y A7 c7 (wr.alloc (.cells (ncs y A7 c7) 29)) := ⟨HB.out.step (below_alloc (Below.refl _ _) _), heap_alloc_new wr _, HO.out.alloc _⟩
          obtain ⟨w3, hw3⟩ : ∃ w3, wr.alloc (.cells (ncs y A7 c7) 29) = w3 := ⟨_, rfl⟩
          rw [hw3, ho2] at hcx
          have HC1 := Aside0.mk hcx
          obtain ⟨d0, d1, d2, d3, d4, d5, d6⟩ := hcx.nd
          clear hcx HB HO
          go_upto_region 7 with fail
          go_region_held3 (fun W => W.cell? ⟨o2, 3, none⟩ = some (.int .i64 y.f3) ∧ W.cell? ⟨o2, 6, none⟩ = some (.slice A7 y.f6.length c7)) (first | exact ⟨HC3.out.nd.d3, HC3.out.nd.d6⟩ | exact ⟨HC2.out.nd.d3, HC2.out.nd.d6⟩ | exact ⟨HC1.out.nd.d3, HC1.out.nd.d6⟩ | exact ⟨HC1.out.drew.nd.d3, HC1.out.drew.nd.d6⟩ | exact ⟨(HC1.out.drewN _).nd.d3, (HC1.out.drewN _).nd.d6⟩)
            (first
            | (go_at_call 74; refine (HAL.out _).mono ?_; rintro e v1 ⟨rfl, hv⟩; have HC2 := Aside0.mk (show Cx w0 w b m X2 o2 y A7 c7 v1 from by rw [hv]; first | exact HC1.out | exact HC1.out.drew | exact HC1.out.drewN _); clear hv)
            | (go_at_call 37; refine (HIN.out _ HC2.out.wt).mono ?_; rintro e v2 hq; have HC3 := Aside0.mk (HC2.out.wrote hq); obtain rfl := hq.ret; clear hq))
          all_goals
            have HC4 := Aside0.mk (show Cx w0 w b m (X2 ++ tagd tag (alnT y.f3) (inl m y.f6)) o2 y A7 c7 _ from by first | exact HC3.out | exact HC3.out.drew)
            clear HC1 HC2 HC3 d0 d1 d2 d3 d4 d5 d6
            have HP := Aside0.mk (put_l HC4.out.wt [[10]] [10] rfl (by have := HLB2.out; have := HINL.out; have := HTG.out; have := alnT_len y.f3; rw [List.length_append, tagd_len]; simp only [List.length_cons, List.length_nil]; omega) (by simp))
            go_wp2_with fail
            refine HP.out.mono ?_
            rintro e w5 hq
            have HC5 := Aside0.mk (show Cx w0 w b m (X1 ++ [60, 116, 114, 62, 10] ++ (x.f6.take (j + 1)).flatMap (celT m tag)) o2 y A7 c7 w5 from by rw [HST2.out]; exact HC4.out.wrote hq)
            obtain rfl := hq.ret
            clear hq HP HC4
            go_wp2
            go_roundw
            case rel => exact ⟨j + 1, by simp, by omega, ⟨HC5.out.wt⟩, ⟨HC5.out.oth⟩⟩
            case measure => simp [intOf]; omega
        · have q2 : decide ((j : Int) < (x.f6.length : Int)) = false := decide_eq_false (by omega)
          have htk : x.f6.take j = x.f6 := List.take_of_length_le (by omega)
          rw [htk] at HB
          clear htk
          have hcl := HCL.out x.f6.length
          rw [List.take_length] at hcl
          have HP := Aside0.mk (put_l HB.out [[60, 47, 116, 114, 62, 10]] [60, 47, 116, 114, 62, 10] rfl (by have := HLB.out; simp only [List.length_append, List.length_cons, List.length_nil]; omega) (by simp))
          clear hcl
          go_wp2_with fail
          refine HP.out.mono ?_
          rintro e w5 hq
          have HW5 := Aside0.mk (show Wt w0 b m (X ++ (l.take (i + 1)).flatMap (rowT m tag)) w5 from by rw [HST.out]; exact hq.wt)
          have HO5 := Aside0.mk (HO.out.trans hq.oth)
          obtain rfl := hq.ret
          clear hq HP HB HO
          go_wp2
          go_roundw
          case rel => exact ⟨i + 1, by simp, by omega, HW5, HO5⟩
          case measure => simp [intOf]; omega
    · have q1 : decide ((i : Int) < (l.length : Int)) = false := decide_eq_false (by omega)
      have htk : l.take i = l := List.take_of_length_le (by omega)
      rw [htk] at HB
      clear htk
      go_wp2
      go_end0
      rw [← HR.out]
      exact ⟨rfl, HB.out, HO.out⟩
end Go.Proofs.YtchdkiakdnanhaaGreatDoor.PA

namespace Go.Proofs.YtchdkiakdnanhaaGreatDoor.PA
open Go.RowKit Go.Sort Go.Proofs.YtchdkiakdnanhaaGreatDoor.Pl Go.Proofs.YtchdkiakdnanhaaGreatDoorW.PrintWords Go.Proofs.YtchdkiakdnanhaaGreatDoorW.PrintLast Go.Proofs.YtchdkiakdnanhaaGreatDoorW.PrintMore
set_option linter.unusedVariables false

set_option maxHeartbeats 4000000 in
set_option maxRecDepth 100000 in
theorem table_calls {w0 : World} {b : Nat} {m : Int} {X : List UInt8} {w : World} {A : Option Addr} {c : Nat} {l : List Nd} (hLd : LaidW w0) (hq : Rq w0 A c l) (h : Wt w0 b m X w) (hl : X.length + 60 + 300 * wt l ≤ 70368744177664) :
    Calls Tryz.prog 43 #[.pointer (some ⟨b, 0, none⟩), .slice A l.length c] w (Wrote w0 b m X (tblT m l) w) := by
  obtain ⟨hd, hhd⟩ : ∃ hd : Nat, min (l.length : Int) 1 = (hd : Int) := ⟨(min (l.length : Int) 1).toNat, by omega⟩
  have hdl : hd ≤ l.length := by omega
  have hlen := hq.len
  have htk : l.take 1 = l.take hd := by
    by_cases h0 : l.length = 0
    · rw [List.eq_nil_of_length_eq_zero h0]; simp
    · rw [show hd = 1 from by omega]
  have hdr : l.drop 1 = l.drop hd := by
    by_cases h0 : l.length = 0
    · rw [List.eq_nil_of_length_eq_zero h0]; simp
    · rw [show hd = 1 from by omega]
  have hlt : (1 < l.length) ↔ hd < l.length := by omega
  have hT : tblT m l = [60, 116, 97, 98, 108, 101, 62, 10, 60, 116, 104, 101, 97, 100, 62, 10] ++ ((l.take hd).flatMap (rowT m [116, 104]) ++ ([60, 47, 116, 104, 101, 97, 100, 62, 10] ++
    ((if hd < l.length then [60, 116, 98, 111, 100, 121, 62, 10] ++ ((l.drop hd).flatMap (rowT m [116, 100]) ++ [60, 47, 116, 98, 111, 100, 121, 62, 10]) else []) ++ [60, 47, 116, 97, 98, 108, 101, 62, 10]))) := by
    unfold tblT
    rw [htk, hdr]
    congr 4
    by_cases h1 : 1 < l.length
    · rw [if_pos h1, if_pos (hlt.1 h1)]
    · rw [if_neg h1, if_neg (fun x => h1 (hlt.2 x))]
  have hr1 := rows_len m (tag := [116, 104]) rfl (okl_take hq.ok hd)
  have hr2 := rows_len m (tag := [116, 100]) rfl (okl_drop hq.ok hd)
  have hws := wt_append (l.take hd) (l.drop hd)
  rw [List.take_append_drop] at hws
  have hRT := fun (X' : List UInt8) (W : World) (hW : Wt w0 b m X' W) (hl' : X'.length + 300 * wt (l.take hd) ≤ 70368744177664) => rows_calls hLd (hq.take hdl) hW [116, 104] rfl hl'
  have hRD := fun (X' : List UInt8) (W : World) (hW : Wt w0 b m X' W) (hl' : X'.length + 300 * wt (l.drop hd) ≤ 70368744177664) => rows_calls hLd (hq.drop hdl) hW [116, 100] rfl hl'
  rw [List.length_take, Nat.min_eq_left hdl] at hRT
  rw [List.length_drop] at hRD
  have HRT := Aside0.mk hRT
  have HRD := Aside0.mk hRD
  have HTT := Aside0.mk hT
  have HR1 := Aside0.mk hr1
  have HR2 := Aside0.mk hr2
  have HWS := Aside0.mk hws
  have HL := Aside0.mk hl
  have HCAP := Aside0.mk hq.cap
  have HAD := Aside0.mk (hq.row.2.2)
  have HP1 := Aside0.mk (put_l h [[60, 116, 97, 98, 108, 101, 62, 10, 60, 116, 104, 101, 97, 100, 62, 10]] [60, 116, 97, 98, 108, 101, 62, 10, 60, 116, 104, 101, 97, 100, 62, 10] rfl (by simp only [List.length_cons, List.length_nil]; omega) (by simp))
  obtain ⟨R, hR⟩ : ∃ R, Wrote w0 b m X (tblT m l) w = R := ⟨_, rfl⟩
  have HR := Aside0.mk hR
  rw [hR]
  have hcap := hq.cap
  have p0 := eq_true (show 0 ≤ (hd : Int) from by omega)
  have p1 := eq_true (show (hd : Int) ≤ (c : Int) from by omega)
  have p2 := eq_true (show (hd : Int) ≤ (l.length : Int) from by omega)
  clear hRT hRD hT hr1 hr2 hws hl hq h hR htk hdr hlt hLd hcap
  go_enter Tryz.func43, Tryz.ntmps43
  go_wp2_with fail
  refine HP1.out.mono ?_
  rintro e w1 hq
  have HW1 := Aside0.mk hq.wt
  have HO1 := Aside0.mk hq.oth
  obtain rfl := hq.ret
  clear hq HP1
  have HP2 := Aside0.mk (HRT.out _ w1 HW1.out (by have := HL.out; have := HWS.out; simp only [List.length_append, List.length_cons, List.length_nil]; omega))
  go_wp2_with fail
  refine HP2.out.mono ?_
  rintro e w2 hq
  have HW2 := Aside0.mk hq.wt
  have HO2 := Aside0.mk (HO1.out.trans hq.oth)
  obtain rfl := hq.ret
  clear hq HP2 HW1 HO1
  have HP3 := Aside0.mk (put_l HW2.out [[60, 47, 116, 104, 101, 97, 100, 62, 10]] [60, 47, 116, 104, 101, 97, 100, 62, 10] rfl (by have := HL.out; have := HR1.out; have := HWS.out; simp only [List.length_append, List.length_cons, List.length_nil]; omega) (by simp))
  go_wp2_with fail
  refine HP3.out.mono ?_
  rintro e w3 hq
  have HW3 := Aside0.mk hq.wt
  have HO3 := Aside0.mk (HO2.out.trans hq.oth)
  obtain rfl := hq.ret
  clear hq HP3 HW2 HO2
  by_cases hlt : hd < l.length
  · have z : decide ((hd : Int) < (l.length : Int)) = true := decide_eq_true (by omega)
    have z' : decide (hd < l.length) = true := decide_eq_true hlt
    obtain ⟨ad, rfl, -⟩ := HAD.out (by omega)
    have hch : ¬ c = hd := by have := HCAP.out; omega
    have HIF := Aside0.mk (show (if c = hd then some ad else (some ad).map (·.add (hd * 7))) = some (ad.add (hd * 7)) from by rw [if_neg hch]; rfl)
    rw [HIF.out] at HRD
    have HP4 := Aside0.mk (put_l HW3.out [[60, 116, 98, 111, 100, 121, 62, 10]] [60, 116, 98, 111, 100, 121, 62, 10] rfl (by have := HL.out; have := HR1.out; have := HWS.out; simp only [List.length_append, List.length_cons, List.length_nil]; omega) (by simp))
    have HTV := Aside0.mk (show tblT m l = _ from by rw [HTT.out, if_pos hlt])
    clear hlt HAD
    go_wp2_with fail
    refine HP4.out.mono ?_
    rintro e w4 hq
    have HW4 := Aside0.mk hq.wt
    have HO4 := Aside0.mk (HO3.out.trans hq.oth)
    obtain rfl := hq.ret
    clear hq HP4 HW3 HO3
    have HP5 := Aside0.mk (HRD.out _ w4 HW4.out (by have := HL.out; have := HR1.out; have := HWS.out; simp only [List.length_append, List.length_cons, List.length_nil]; omega))
    go_wp2_with fail
    refine HP5.out.mono ?_
    rintro e w5 hq
    have HW5 := Aside0.mk hq.wt
    have HO5 := Aside0.mk (HO4.out.trans hq.oth)
    obtain rfl := hq.ret
    clear hq HP5 HW4 HO4
    have HP6 := Aside0.mk (put_l HW5.out [[60, 47, 116, 98, 111, 100, 121, 62, 10]] [60, 47, 116, 98, 111, 100, 121, 62, 10] rfl (by have := HL.out; have := HR1.out; have := HR2.out; have := HWS.out; simp only [List.length_append, List.length_cons, List.length_nil]; omega) (by simp))
    go_wp2_with fail
    refine HP6.out.mono ?_
    rintro e w6 hq
    have HW6 := Aside0.mk hq.wt
    have HO6 := Aside0.mk (HO5.out.trans hq.oth)
    obtain rfl := hq.ret
    clear hq HP6 HW5 HO5
    have HP7 := Aside0.mk (put_l HW6.out [[60, 47, 116, 97, 98, 108, 101, 62, 10]] [60, 47, 116, 97, 98, 108, 101, 62, 10] rfl (by have := HL.out; have := HR1.out; have := HR2.out; have := HWS.out; simp only [List.length_append, List.length_cons, List.length_nil]; omega) (by simp))
    go_wp2_with fail
    refine HP7.out.mono ?_
    rintro e w7 hq
    have HQ := Aside0.mk hq
    obtain rfl := hq.ret
    clear hq HP7
    go_wp2
    go_end0
    rw [← HR.out]
    exact ⟨rfl, by rw [HTV.out]; have := HQ.out.wt; simpa only [List.append_assoc] using this, HO6.out.trans HQ.out.oth⟩
  · have z : decide ((hd : Int) < (l.length : Int)) = false := decide_eq_false (by omega)
    have z' : decide (hd < l.length) = false := decide_eq_false hlt
    have HTV := Aside0.mk (show tblT m l = _ from by rw [HTT.out, if_neg hlt, List.nil_append])
    have HP7 := Aside0.mk (put_l HW3.out [[60, 47, 116, 97, 98, 108, 101, 62, 10]] [60, 47, 116, 97, 98, 108, 101, 62, 10] rfl (by have := HL.out; have := HR1.out; have := HWS.out; simp only [List.length_append, List.length_cons, List.length_nil]; omega) (by simp))
    clear hlt
    go_wp2_with fail
    refine HP7.out.mono ?_
    rintro e w7 hq
    have HQ := Aside0.mk hq
    obtain rfl := hq.ret
    clear hq HP7
    go_wp2
    go_end0
    rw [← HR.out]
    exact ⟨rfl, by rw [HTV.out]; have := HQ.out.wt; simpa only [List.append_assoc] using this, HO3.out.trans HQ.out.oth⟩
end Go.Proofs.YtchdkiakdnanhaaGreatDoor.PA

namespace Go.Proofs.YtchdkiakdnanhaaGreatDoor.PA
open Go.RowKit Go.Sort Go.Proofs.YtchdkiakdnanhaaGreatDoor.Pl Go.Proofs.YtchdkiakdnanhaaGreatDoorW.PrintWords Go.Proofs.YtchdkiakdnanhaaGreatDoorW.PrintLast Go.Proofs.YtchdkiakdnanhaaGreatDoorW.PrintMore
set_option linter.unusedVariables false

set_option maxHeartbeats 8000000 in
set_option maxRecDepth 100000 in
theorem code_calls {w0 : World} {b : Nat} {m : Int} {X : List UInt8} {w : World} (h : Wt w0 b m X w) (x : Nd) (A6 : Option Addr) (c6 : Nat) (hs1 : x.f1.size ≤ 1048576) (hs2 : x.f2.size ≤ 1048576) (hl : X.length + (codT x.f1.data.toList x.f2.data.toList).length ≤ 70368744177664) :
    Calls Tryz.prog 40 #[.pointer (some ⟨b, 0, none⟩), .agg (ncs x A6 c6)] w (Wrote w0 b m X (codT x.f1.data.toList x.f2.data.toList) w) := by
  have hx2 : x.f2.data.toList.length = x.f2.size := by rw [Array.length_toList]; rfl
  have hfun : (fun y : UInt8 => !(y = 32 || y = 9 || y = 10)) = fun y => !([32, 9, 10] : List UInt8).contains y := by
    funext y
    simp [List.contains_cons, Bool.or_assoc]
  obtain ⟨i1, i2⟩ := ia_tw [32, 9, 10] x.f2.data.toList
  have hI := fun W => strings_IndexAny.calls x.f2 (B [32, 9, 10]) (Lib.indexAny x.f2.data.toList [32, 9, 10]) W (by unfold strings_IndexAny.f; rw [if_pos ⟨by decide, by decide, by omega, by decide⟩, B_data])
  obtain ⟨r, hr⟩ : ∃ r, Lib.indexAny x.f2.data.toList [32, 9, 10] = r := ⟨_, rfl⟩
  have hvv : wrdT x.f2.data.toList = x.f2.data.toList.takeWhile fun y => !([32, 9, 10] : List UInt8).contains y := by unfold wrdT; rw [← hfun]
  obtain ⟨v, hv'⟩ : ∃ v, wrdT x.f2.data.toList = v := ⟨_, rfl⟩
  have hvl : v.length ≤ x.f2.data.toList.length := by rw [← hv']; exact wrdT_len _
  have hvt : v = x.f2.data.toList.take v.length := by rw [← hv', hvv]; exact tw_take _
  rw [← hvv, hv', hr] at i1 i2
  rw [hr] at hI
  have hHV := fun W => html_walk v (by omega) W
  have hH1 := fun W => html_b x.f1 (by omega) W
  have hlv := (htm_len v).2
  obtain ⟨T, hTd⟩ : ∃ T, codT x.f1.data.toList x.f2.data.toList = T := ⟨_, rfl⟩
  have hT : [60, 112, 114, 101, 62, 60, 99, 111, 100, 101] ++ (if v = [] then [] else atr [99, 108, 97, 115, 115] ([108, 97, 110, 103, 117, 97, 103, 101, 45] ++ htm v)) ++ [62] ++ htm x.f1.data.toList ++ [60, 47, 99, 111, 100, 101, 62, 60, 47, 112, 114, 101, 62, 10] = T := by
    rw [← hTd]
    unfold codT
    rw [hv']
  obtain ⟨hv, hhv⟩ : ∃ a, htm v = a := ⟨_, rfl⟩
  obtain ⟨hs, hhs⟩ : ∃ a, htm x.f1.data.toList = a := ⟨_, rfl⟩
  rw [hhv, hhs] at hT
  rw [hhv] at hlv
  simp only [hhv] at hHV
  simp only [hhs] at hH1
  have hcat : (⟨#[108, 97, 110, 103, 117, 97, 103, 101, 45]⟩ : ByteArray) ++ B hv = B ([108, 97, 110, 103, 117, 97, 103, 101, 45] ++ hv) := by
    show B [108, 97, 110, 103, 117, 97, 103, 101, 45] ++ B hv = _
    simp only [B_ap]
  have HAT := Aside0.mk (fun W => (show Calls Tryz.prog 38 #[.string ⟨#[99, 108, 97, 115, 115]⟩, .string ((⟨#[108, 97, 110, 103, 117, 97, 103, 101, 45]⟩ : ByteArray) ++ B hv)] W (fun e w' => e = .returned (.string (B (atr [99, 108, 97, 115, 115] ([108, 97, 110, 103, 117, 97, 103, 101, 45] ++ hv)))) ∧ w' = W) from by
    rw [hcat]
    exact attr_calls [99, 108, 97, 115, 115] _ (by decide) (by rw [List.length_append]; simp only [List.length_cons, List.length_nil]; omega) W))
  have HI := Aside0.mk hI
  have HHV := Aside0.mk hHV
  have HH1 := Aside0.mk hH1
  have HT := Aside0.mk hT
  have HVT := Aside0.mk hvt
  have HLV := Aside0.mk (show hv.length ≤ 6291456 from by omega)
  rw [hTd] at hl ⊢
  have HL := Aside0.mk hl
  obtain ⟨R, hR⟩ : ∃ R, Wrote w0 b m X T w = R := ⟨_, rfl⟩
  have HR := Aside0.mk hR
  rw [hR]
  have hcx : Cx w0 w b m X w.heap.size x A6 c6 (w.alloc (.cells (ncs x A6 c6) 29)) := ⟨h.step (below_alloc (Below.refl _ _) _), heap_alloc_new w _, (Lib.OthersKept.refl _ _ _).alloc _⟩
  obtain ⟨o, ho⟩ : ∃ o, w.heap.size = o := ⟨_, rfl⟩
  obtain ⟨w1, hw1⟩ : ∃ w1, w.alloc (.cells (ncs x A6 c6) 29) = w1 := ⟨_, rfl⟩
  rw [hw1, ho] at hcx
  have HC1 := Aside0.mk hcx
  obtain ⟨d0, d1, d2, d3, d4, d5, d6⟩ := hcx.nd
  clear hcx hR hl hI hHV hH1 hT hvt hlv hTd hhv hhs hv' hvv hfun hcat hr h hs1 hs2
  go_enter Tryz.func40, Tryz.ntmps40
  go_wp2_with fail
  refine (HI.out _).mono ?_
  rintro e w2 ⟨rfl, hb⟩
  have HC2 := Aside0.mk (HC1.out.step hb)
  clear hb HI HC1 d0 d1 d2 d3 d4 d5 d6
  by_cases hr0 : r < 0
  · have q : decide (0 ≤ r) = false := decide_eq_false (by omega)
    have hvu := i2 hr0
    have hword : x.f2 = B v := by rw [HVT.out, hvu, List.take_length]; rfl
    clear i1 i2 hvu hr0
    by_cases hv0 : v = []
    · have z5 : (B v).toList.isEmpty = true := by rw [hv0, B_toList]; rfl
      have z6 : (B v).toList = [] := by rw [hv0, B_toList]
      have HTT := Aside0.mk (show T = [60, 112, 114, 101, 62, 60, 99, 111, 100, 101] ++ [] ++ [62] ++ hs ++ [60, 47, 99, 111, 100, 101, 62, 60, 47, 112, 114, 101, 62, 10] from by rw [← HT.out, if_pos hv0])
      obtain ⟨e0, e1', e2, e3, e4, e5, e6⟩ := HC2.out.nd
      clear hv0
      have HP := Aside0.mk (fun (W : World) (hW : Wt w0 b m X W) => put_l hW [[60, 112, 114, 101, 62, 60, 99, 111, 100, 101], [], [62], hs, [60, 47, 99, 111, 100, 101, 62, 60, 47, 112, 114, 101, 62, 10]] T (by rw [HTT.out]; simp) HL.out (by simp))
      go_wp2_with fail
      refine (HH1.out _).mono ?_
      rintro e w8 ⟨rfl, hb⟩
      have HC8 := Aside0.mk (HC2.out.step hb)
      clear hb
      go_wp2_with fail
      refine (HP.out w8 HC8.out.wt).mono ?_
      rintro e w9 hq
      have HC9 := Aside0.mk (HC8.out.wrote hq)
      obtain rfl := hq.ret
      clear hq
      go_wp2
      go_end0
      rw [← HR.out]
      exact ⟨rfl, HC9.out.wt, HC9.out.oth⟩
    · have z5 : (B v).toList.isEmpty = false := by rw [B_toList]; cases v; exact absurd rfl hv0; rfl
      have HTT := Aside0.mk (show T = [60, 112, 114, 101, 62, 60, 99, 111, 100, 101] ++ atr [99, 108, 97, 115, 115] ([108, 97, 110, 103, 117, 97, 103, 101, 45] ++ hv) ++ [62] ++ hs ++ [60, 47, 99, 111, 100, 101, 62, 60, 47, 112, 114, 101, 62, 10] from by rw [← HT.out, if_neg hv0])
      have HH2 := HHV
      have sv := B_size hv
      have lv := HLV.out
      have y1 : ¬ 9223372036854775807 < 9 + (B hv).size := by omega
      clear hv0 sv lv
      go_wp2_with fail
      refine (HH2.out _).mono ?_
      rintro e w3 ⟨rfl, hb⟩
      have HC3 := Aside0.mk (HC2.out.step hb)
      obtain ⟨e0, e1', e2, e3, e4, e5, e6⟩ := HC3.out.nd
      clear hb
      go_wp2_with fail
      refine (HAT.out _).mono ?_
      rintro e w4 ⟨rfl, rfl⟩
      have HP := Aside0.mk (fun (W : World) (hW : Wt w0 b m X W) => put_l hW [[60, 112, 114, 101, 62, 60, 99, 111, 100, 101], atr [99, 108, 97, 115, 115] ([108, 97, 110, 103, 117, 97, 103, 101, 45] ++ hv), [62], hs, [60, 47, 99, 111, 100, 101, 62, 60, 47, 112, 114, 101, 62, 10]] T (by rw [HTT.out]; simp) HL.out (by simp))
      go_wp2_with fail
      refine (HH1.out _).mono ?_
      rintro e w8 ⟨rfl, hb⟩
      have HC8 := Aside0.mk (HC3.out.step hb)
      clear hb
      go_wp2_with fail
      refine (HP.out w8 HC8.out.wt).mono ?_
      rintro e w9 hq
      have HC9 := Aside0.mk (HC8.out.wrote hq)
      obtain rfl := hq.ret
      clear hq
      go_wp2
      go_end0
      rw [← HR.out]
      exact ⟨rfl, HC9.out.wt, HC9.out.oth⟩
  · have q : decide (0 ≤ r) = true := decide_eq_true (by omega)
    have hrv := i1 (by omega)
    subst hrv
    have p0 := eq_true (show 0 ≤ (v.length : Int) from by omega)
    have p1 := eq_true (show (v.length : Int) ≤ (x.f2.size : Int) from by omega)
    have hword : x.f2.extract 0 v.length = B v := by
      have e := B_to x.f2.data.toList v.length
      rw [← HVT.out] at e
      exact e
    clear i1 i2 hr0
    by_cases hv0 : v = []
    · have z5 : (B v).toList.isEmpty = true := by rw [hv0, B_toList]; rfl
      have z6 : (B v).toList = [] := by rw [hv0, B_toList]
      have HTT := Aside0.mk (show T = [60, 112, 114, 101, 62, 60, 99, 111, 100, 101] ++ [] ++ [62] ++ hs ++ [60, 47, 99, 111, 100, 101, 62, 60, 47, 112, 114, 101, 62, 10] from by rw [← HT.out, if_pos hv0])
      obtain ⟨e0, e1', e2, e3, e4, e5, e6⟩ := HC2.out.nd
      clear hv0
      have HP := Aside0.mk (fun (W : World) (hW : Wt w0 b m X W) => put_l hW [[60, 112, 114, 101, 62, 60, 99, 111, 100, 101], [], [62], hs, [60, 47, 99, 111, 100, 101, 62, 60, 47, 112, 114, 101, 62, 10]] T (by rw [HTT.out]; simp) HL.out (by simp))
      go_wp2_with fail
      refine (HH1.out _).mono ?_
      rintro e w8 ⟨rfl, hb⟩
      have HC8 := Aside0.mk (HC2.out.step hb)
      clear hb
      go_wp2_with fail
      refine (HP.out w8 HC8.out.wt).mono ?_
      rintro e w9 hq
      have HC9 := Aside0.mk (HC8.out.wrote hq)
      obtain rfl := hq.ret
      clear hq
      go_wp2
      go_end0
      rw [← HR.out]
      exact ⟨rfl, HC9.out.wt, HC9.out.oth⟩
    · have z5 : (B v).toList.isEmpty = false := by rw [B_toList]; cases v; exact absurd rfl hv0; rfl
      have HTT := Aside0.mk (show T = [60, 112, 114, 101, 62, 60, 99, 111, 100, 101] ++ atr [99, 108, 97, 115, 115] ([108, 97, 110, 103, 117, 97, 103, 101, 45] ++ hv) ++ [62] ++ hs ++ [60, 47, 99, 111, 100, 101, 62, 60, 47, 112, 114, 101, 62, 10] from by rw [← HT.out, if_neg hv0])
      have HH2 := HHV
      have sv := B_size hv
      have lv := HLV.out
      have y1 : ¬ 9223372036854775807 < 9 + (B hv).size := by omega
      clear hv0 sv lv
      go_wp2_with fail
      refine (HH2.out _).mono ?_
      rintro e w3 ⟨rfl, hb⟩
      have HC3 := Aside0.mk (HC2.out.step hb)
      obtain ⟨e0, e1', e2, e3, e4, e5, e6⟩ := HC3.out.nd
      clear hb
      go_wp2_with fail
      refine (HAT.out _).mono ?_
      rintro e w4 ⟨rfl, rfl⟩
      have HP := Aside0.mk (fun (W : World) (hW : Wt w0 b m X W) => put_l hW [[60, 112, 114, 101, 62, 60, 99, 111, 100, 101], atr [99, 108, 97, 115, 115] ([108, 97, 110, 103, 117, 97, 103, 101, 45] ++ hv), [62], hs, [60, 47, 99, 111, 100, 101, 62, 60, 47, 112, 114, 101, 62, 10]] T (by rw [HTT.out]; simp) HL.out (by simp))
      go_wp2_with fail
      refine (HH1.out _).mono ?_
      rintro e w8 ⟨rfl, hb⟩
      have HC8 := Aside0.mk (HC3.out.step hb)
      clear hb
      go_wp2_with fail
      refine (HP.out w8 HC8.out.wt).mono ?_
      rintro e w9 hq
      have HC9 := Aside0.mk (HC8.out.wrote hq)
      obtain rfl := hq.ret
      clear hq
      go_wp2
      go_end0
      rw [← HR.out]
      exact ⟨rfl, HC9.out.wt, HC9.out.oth⟩
end Go.Proofs.YtchdkiakdnanhaaGreatDoor.PA

namespace Go.Proofs.YtchdkiakdnanhaaGreatDoor.PA
open Go.RowKit Go.Sort Go.Proofs.YtchdkiakdnanhaaGreatDoor.Pl Go.Proofs.YtchdkiakdnanhaaGreatDoorW.PrintWords Go.Proofs.YtchdkiakdnanhaaGreatDoorW.PrintLast Go.Proofs.YtchdkiakdnanhaaGreatDoorW.PrintMore
set_option linter.unusedVariables false

def BlkC (N : Nat) : Prop := ∀ (l : List Nd), wt l < N → ∀ (w0 : World) (b : Nat) (m : Int) (X : List UInt8) (w : World) (A : Option Addr) (c : Nat), LaidW w0 → Rq w0 A c l → Wt w0 b m X w → X.length + 300 * wt l ≤ 70368744177664 →
  Calls Tryz.prog 25 #[.pointer (some ⟨b, 0, none⟩), .slice A l.length c] w (Wrote w0 b m X (blk m l) w)
/-- .. with a text that is put at the end. -/
structure Dx (w0 w : World) (b : Nat) (m : Int) (X : List UInt8) (o : Nat) (x : Nd) (A6 : Option Addr) (c6 g : Nat) (W : World) : Prop where
  cx : Cx w0 w b m X o x A6 c6 W
  str : W.heap[g]? = some (.cells #[.string ⟨#[60, 47, 108, 105, 62, 10]⟩] 9 (0, 0))
section
variable {w0 w W W' : World} {b : Nat} {m : Int} {X T : List UInt8} {o : Nat} {x : Nd} {A6 : Option Addr} {c6 g : Nat} {e : Ending}
theorem Dx.step (h : Dx w0 w b m X o x A6 c6 g W) (hb : Below W.heap.size W W') : Dx w0 w b m X o x A6 c6 g W' := ⟨h.cx.step hb, (hb.block g (Array.getElem?_eq_some_iff.1 h.str).1).trans h.str⟩
theorem Dx.alloc (h : Dx w0 w b m X o x A6 c6 g W) (O : Obj) : Dx w0 w b m X o x A6 c6 g (W.alloc O) := h.step (below_alloc (Below.refl _ _) _)
theorem Dx.wrote (h : Dx w0 w b m X o x A6 c6 g W) (k : Wrote w0 b m X T W e W') : Dx w0 w b m (X ++ T) o x A6 c6 g W' := ⟨h.cx.wrote k, str_kept k.oth h.str h.cx.wt⟩
end
theorem itmT_eta (m : Int) (fl : Bool) (x : Nd) : itmT m fl x = [60, 108, 105, 62] ++ ((if fl = false then (if x.f6 = [] then [] else [10]) ++ blk m x.f6 else tght m true x.f6) ++ [60, 47, 108, 105, 62, 10]) := by cases x; rw [itmT]
set_option maxHeartbeats 8000000 in
set_option maxRecDepth 100000 in
theorem item_calls (N : Nat) (IH : BlkC N) {w0 : World} {b : Nat} {m : Int} {X : List UInt8} {w : World} (h : Wt w0 b m X w) (hLd : LaidW w0) (x : Nd) (A6 : Option Addr) (c6 : Nat) (fl : Bool) (hq : Rq w0 A6 c6 x.f6) (hwt : wt x.f6 < N) (hl : X.length + 20 + 300 * wt x.f6 ≤ 70368744177664) :
    Calls Tryz.prog 58 #[.pointer (some ⟨b, 0, none⟩), .agg (ncs x A6 c6), .bool fl] w (Wrote w0 b m X (itmT m fl x) w) := by
  have HIH := Aside0.mk IH
  have HLD := Aside0.mk hLd
  have HQ := Aside0.mk hq
  have HWT := Aside0.mk hwt
  have HL := Aside0.mk hl
  have hlen := hq.len
  have HE := Aside0.mk (itmT_eta m fl x)
  have HBL := Aside0.mk (blk_len m x.f6 hq.ok)
  obtain ⟨R, hR⟩ : ∃ R, Wrote w0 b m X (itmT m fl x) w = R := ⟨_, rfl⟩
  have HR := Aside0.mk hR
  rw [hR]
  have hcx : Cx w0 w b m X w.heap.size x A6 c6 (w.alloc (.cells (ncs x A6 c6) 29)) := ⟨h.step (below_alloc (Below.refl _ _) _), heap_alloc_new w _, (Lib.OthersKept.refl _ _ _).alloc _⟩
  obtain ⟨o, ho⟩ : ∃ o, w.heap.size = o := ⟨_, rfl⟩
  obtain ⟨w1, hw1⟩ : ∃ w1, w.alloc (.cells (ncs x A6 c6) 29) = w1 := ⟨_, rfl⟩
  rw [hw1, ho] at hcx
  have HC1 := Aside0.mk hcx
  have HP := Aside0.mk (put_l HC1.out.wt [[60, 108, 105, 62]] [60, 108, 105, 62] rfl (by have := HL.out; simp only [List.length_cons, List.length_nil]; omega) (by simp))
  clear hcx hR hl h hq hLd IH hwt
  -- what stands at the end
  have HEND := Aside0.mk (show ∀ (T : List UInt8) (W : World) (g : Nat), itmT m fl x = [60, 108, 105, 62] ++ (T ++ [60, 47, 108, 105, 62, 10]) → T.length ≤ 1 + 300 * wt x.f6 → Dx w0 w b m (X ++ [60, 108, 105, 62] ++ T) o x A6 c6 g W →
      CallsD Tryz.prog 27 #[.pointer (some ⟨b, 0, none⟩), .slice (some ⟨g, 0, none⟩) 1 1] .returning W (fun e u' w' => u' = .returning ∧ e = .returned (.tuple #[]) ∧ R (.returned (.tuple #[])) w') from fun T W g hT hTl hD => by
    refine (put_dl .returning hD.cx.wt g [[60, 47, 108, 105, 62, 10]] [60, 47, 108, 105, 62, 10] rfl hD.str (by have := HL.out; simp only [List.length_append, List.length_cons, List.length_nil]; omega) (by simp)).mono ?_
    rintro e u' w' ⟨rfl, hq⟩
    obtain rfl := hq.ret
    refine ⟨rfl, rfl, ?_⟩
    rw [← HR.out]
    exact ⟨rfl, by rw [hT]; have := hq.wt; simpa only [List.append_assoc] using this, hD.cx.oth.trans hq.oth⟩)
  go_enter_defers Tryz.func58, Tryz.ntmps58
  go_wp2_with fail
  refine HP.out.mono ?_
  rintro e w2 hq
  have HC2 := Aside0.mk (HC1.out.wrote hq)
  obtain rfl := hq.ret
  clear hq HP HC1
  have hdx : Dx w0 w b m (X ++ [60, 108, 105, 62]) o x A6 c6 w2.heap.size (w2.alloc (.cells #[.string ⟨#[60, 47, 108, 105, 62, 10]⟩] 9)) := ⟨HC2.out.alloc _, heap_alloc_new w2 _⟩
  obtain ⟨g, hg⟩ : ∃ g, w2.heap.size = g := ⟨_, rfl⟩
  obtain ⟨w3, hw3⟩ : ∃ w3, w2.alloc (.cells #[.string ⟨#[60, 47, 108, 105, 62, 10]⟩] 9) = w3 := ⟨_, rfl⟩
  rw [hw3, hg] at hdx
  have HD3 := Aside0.mk hdx
  obtain ⟨d0, d1, d2, d3, d4, d5, d6⟩ := hdx.cx.nd
  clear hdx HC2
  cases fl with
  | false =>
    have HE2 := Aside0.mk (show itmT m false x = _ from by rw [HE.out, if_pos rfl])
    by_cases h0 : x.f6 = []
    · have hz : x.f6.length = 0 := by rw [h0]; rfl
      have z : decide (0 < (x.f6.length : Int)) = false := decide_eq_false (by omega)
      have z' : decide (0 < x.f6.length) = false := decide_eq_false (by omega)
      have HE3 := Aside0.mk (show itmT m false x = [60, 108, 105, 62] ++ (blk m x.f6 ++ [60, 47, 108, 105, 62, 10]) from by rw [HE2.out, if_pos h0]; rfl)
      have HB := Aside0.mk (HIH.out x.f6 HWT.out w0 b m _ w3 A6 c6 HLD.out HQ.out HD3.out.cx.wt (by have := HL.out; simp only [List.length_append, List.length_cons, List.length_nil]; omega))
      clear h0 hz
      go_wp2_with fail
      refine HB.out.mono ?_
      rintro e w4 hq
      have HD4 := Aside0.mk (HD3.out.wrote hq)
      obtain rfl := hq.ret
      clear hq HB HD3 d0 d1 d2 d3 d4 d5 d6
      go_wp2
      refine leaves_cons (f := 27) (args := #[.pointer (some ⟨b, 0, none⟩), .slice (some ⟨g, 0, none⟩) 1 1]) (by simp) (by simp [go_sem]) ?_
      refine (HEND.out _ w4 g HE3.out (by have := HBL.out; omega) HD4.out).mono ?_
      rintro e u' w9 ⟨rfl, rfl, hq⟩
      have HF := Aside0.mk hq
      clear hq
      simp [Leaves, settle, results, Tryz.results58]
      exact HF.out
    · have hz : 0 < x.f6.length := Nat.pos_of_ne_zero fun e => h0 (List.eq_nil_of_length_eq_zero e)
      have z : decide (0 < (x.f6.length : Int)) = true := decide_eq_true (by omega)
      have z' : decide (0 < x.f6.length) = true := decide_eq_true hz
      have HE3 := Aside0.mk (show itmT m false x = [60, 108, 105, 62] ++ ([10] ++ blk m x.f6 ++ [60, 47, 108, 105, 62, 10]) from by rw [HE2.out, if_neg h0])
      have HP := Aside0.mk (put_l HD3.out.cx.wt [[10]] [10] rfl (by have := HL.out; simp only [List.length_append, List.length_cons, List.length_nil]; omega) (by simp))
      clear h0 hz
      go_wp2_with fail
      refine HP.out.mono ?_
      rintro e w4 hq
      have HD4 := Aside0.mk (HD3.out.wrote hq)
      obtain rfl := hq.ret
      clear hq HP HD3 d0 d1 d2 d3 d4 d5 d6
      obtain ⟨e0, e1, e2, e3, e4, e5, e6⟩ := HD4.out.cx.nd
      have HB := Aside0.mk (HIH.out x.f6 HWT.out w0 b m _ w4 A6 c6 HLD.out HQ.out HD4.out.cx.wt (by have := HL.out; simp only [List.length_append, List.length_cons, List.length_nil]; omega))
      go_wp2_with fail
      refine HB.out.mono ?_
      rintro e w5 hq
      have HD5 := Aside0.mk (show Dx w0 w b m (X ++ [60, 108, 105, 62] ++ ([10] ++ blk m x.f6)) o x A6 c6 g w5 from by have := HD4.out.wrote hq; rwa [List.append_assoc (X ++ [60, 108, 105, 62])] at this)
      obtain rfl := hq.ret
      clear hq HB HD4 e0 e1 e2 e3 e4 e5 e6
      go_wp2
      refine leaves_cons (f := 27) (args := #[.pointer (some ⟨b, 0, none⟩), .slice (some ⟨g, 0, none⟩) 1 1]) (by simp) (by simp [go_sem]) ?_
      refine (HEND.out _ w5 g HE3.out (by have := HBL.out; simp only [List.length_append, List.length_cons, List.length_nil]; omega) HD5.out).mono ?_
      rintro e u' w9 ⟨rfl, rfl, hq⟩
      have HF := Aside0.mk hq
      clear hq
      simp [Leaves, settle, results, Tryz.results58]
      exact HF.out
  | true =>
    have HE2 := Aside0.mk (show itmT m true x = [60, 108, 105, 62] ++ (tghN m x.f6 x.f6.length ++ [60, 47, 108, 105, 62, 10]) from by rw [HE.out, if_neg (by decide), tghN_end])
    go_wp2_with fail
    go_loopw [6, 7, 8, 30] (fun v6 v7 v8 v30 wr => ∃ i : Nat, v30 = .int .i64 (i : Int) ∧ i ≤ x.f6.length ∧ Aside0 (Dx w0 w b m (X ++ [60, 108, 105, 62] ++ tghN m x.f6 i) o x A6 c6 g wr)) (fun _ _ _ v30 _ => x.f6.length - (intOf v30).toNat)
    case atStart => exact ⟨0, rfl, by omega, ⟨by rw [tghN, List.append_nil]; exact HD3.out⟩⟩
    case round =>
      clear HD3 d0 d1 d2 d3 d4 d5 d6
      obtain ⟨i, rfl, hi, HD⟩ := hrel
      obtain ⟨f0, f1, f2, f3, f4, f5, f6⟩ := HD.out.cx.nd
      have hlc := HQ.out.cap
      by_cases hlt : i < x.f6.length
      · have q1 : decide ((i : Int) < (x.f6.length : Int)) = true := decide_eq_true (by omega)
        have p0 := eq_true (show 0 ≤ (i : Int) from by omega)
        have p1 := eq_true (show (i : Int) < (x.f6.length : Int) from by omega)
        obtain ⟨ad, A7, c7, e1, hq7, hel⟩ := HQ.out.at' hlt
        cases e1
        have hone := HQ.out.one hlt
        have hsum := wt_take_at hlt
        have htn := tghN_len m HQ.out.ok i (by omega)
        have hst := tghN_step m hlt
        have hok := okl_mem HQ.out.ok (List.getElem_mem hlt)
        obtain ⟨y, hy⟩ : ∃ y, x.f6[i] = y := ⟨_, rfl⟩
        rw [hy] at hq7 hel hone hst hsum hok
        have hwy := wt1_eta y
        have hb1 := blk1_len m y hok
        have hin := inl_len m y.f6 hq7.ok
        obtain ⟨x0, x1, x2, x3, x4, x5, x6⟩ := hel wr HD.out.cx.wt.bel
        obtain ⟨X1, hX1⟩ : ∃ X1, X ++ [60, 108, 105, 62] ++ tghN m x.f6 i = X1 := ⟨_, rfl⟩
        have hlb : X1.length + 10 + 300 * wt1 y ≤ 70368744177664 := by
          have := HL.out
          rw [← hX1, List.length_append, List.length_append]
          simp only [List.length_cons, List.length_nil]
          omega
        rw [hX1] at HD
        have HLB := Aside0.mk hlb
        have HWY := Aside0.mk hwy
        have HIY := Aside0.mk hin
        have HST := Aside0.mk (show X ++ [60, 108, 105, 62] ++ tghN m x.f6 (i + 1) = X1 ++ tgh1 m (i == 0) (i + 1 == x.f6.length) y from by rw [hst, ← hX1, List.append_assoc (X ++ [60, 108, 105, 62])])
        have HIN := Aside0.mk (fun (W : World) (hW : Wt w0 b m X1 W) => inl_calls HLD.out hq7 hW (by have := HLB.out; omega))
        have HBK := Aside0.mk (fun (X' : List UInt8) (W : World) (hW : Wt w0 b m X' W) (hl' : X'.length + 300 * wt1 y ≤ 70368744177664) => (show Calls Tryz.prog 25 #[.pointer (some ⟨b, 0, none⟩), .slice (some (ad.add (i * 7))) 1 (c6 - i)] W (Wrote w0 b m X' (blk1 m y) W) from by
          have hw1 : wt [y] = wt1 y := by rw [wt, wt]; rfl
          have h1 := HIH.out [y] (by rw [hw1]; have := HWT.out; omega) w0 b m X' W (some (ad.add (i * 7))) (c6 - i) HLD.out hone hW (by rw [hw1]; exact hl')
          rw [blk_one] at h1
          exact h1))
        have HW1 := Aside0.mk (show IntKind.i64.wrap ((i : Int) + 1) = (i : Int) + 1 from IntWalk.i64_in _ (by omega))
        clear hy hel hsum htn hst hq7 hwy hlb hX1 hok hb1 hin hone
        obtain ⟨o2, ho2⟩ : ∃ o2, wr.heap.size = o2 := ⟨_, rfl⟩
        have hnd := ndAt (heap_alloc_new wr (.cells (ncs y A7 c7) 29))
        have hdx : Dx w0 w b m X1 o x (some ad) c6 g (wr.alloc (.cells (ncs y A7 c7) 29)) := HD.out.alloc _
        obtain ⟨w4, hw4⟩ : ∃ w4, wr.alloc (.cells (ncs y A7 c7) 29) = w4 := ⟨_, rfl⟩
        rw [hw4, ho2] at hnd
        rw [hw4] at hdx
        have HD4 := Aside0.mk hdx
        obtain ⟨d0, d1, d2, d3, d4, d5, d6⟩ := hnd
        obtain ⟨g0, g1, g2, g3, g4, g5, g6⟩ := hdx.cx.nd
        clear hdx HD f0 f1 f2 f3 f4 f5 f6
        have z1 : IntKind.i64.wrap ((i : Int) + 1) = (i : Int) + 1 := HW1.out
        have z2 := eq_true (show (i : Int) + 1 ≤ (c6 : Int) from by omega)
        have z3 := eq_true (show (i : Int) ≤ (i : Int) + 1 from by omega)
        have z5 : ((i : Int) + 1).toNat = i + 1 := rfl
        have z6 : ¬ c6 = i := by omega
        have z7 : i + 1 - i = 1 := by omega
        by_cases k7 : y.f0 = 7
        · have y7 : (y.f0 == 7) = true := beq_iff_eq.2 k7
          by_cases hla : i + 1 = x.f6.length
          · have l1 : ((i : Int) == (x.f6.length : Int) - 1) = true := beq_iff_eq.2 (by omega)
            have HT := Aside0.mk (show tgh1 m (i == 0) (i + 1 == x.f6.length) y = inl m y.f6 from by unfold tgh1; rw [if_pos k7, show (i + 1 == x.f6.length) = true from beq_iff_eq.2 hla]; simp)
            clear k7 hla
            go_wp2_with fail
            refine (HIN.out _ HD4.out.cx.wt).mono ?_
            rintro e w5 hq
            have HD9 := Aside0.mk (show Dx w0 w b m (X ++ [60, 108, 105, 62] ++ tghN m x.f6 (i + 1)) o x (some ad) c6 g w5 from by rw [HST.out, HT.out]; exact HD4.out.wrote hq)
            obtain rfl := hq.ret
            clear hq HD4 d0 d1 d2 d3 d4 d5 d6 g0 g1 g2 g3 g4 g5 g6
            go_wp2
            go_roundw
            case rel => exact ⟨i + 1, by simp, by omega, HD9⟩
            case measure => simp [intOf]; omega
          · have l1 : ((i : Int) == (x.f6.length : Int) - 1) = false := beq_eq_false_iff_ne.2 (by omega)
            have HT := Aside0.mk (show tgh1 m (i == 0) (i + 1 == x.f6.length) y = inl m y.f6 ++ [10] from by unfold tgh1; rw [if_pos k7, show (i + 1 == x.f6.length) = false from beq_eq_false_iff_ne.2 hla]; rfl)
            clear k7 hla
            go_wp2_with fail
            refine (HIN.out _ HD4.out.cx.wt).mono ?_
            rintro e w5 hq
            have HD5 := Aside0.mk (HD4.out.wrote hq)
            obtain rfl := hq.ret
            clear hq HD4 d0 d1 d2 d3 d4 d5 d6 g0 g1 g2 g3 g4 g5 g6
            have HP := Aside0.mk (put_l HD5.out.cx.wt [[10]] [10] rfl (by have := HLB.out; have := HIY.out; have := HWY.out; simp only [List.length_append, List.length_cons, List.length_nil]; omega) (by simp))
            go_wp2_with fail
            refine HP.out.mono ?_
            rintro e w6 hq
            have HD9 := Aside0.mk (show Dx w0 w b m (X ++ [60, 108, 105, 62] ++ tghN m x.f6 (i + 1)) o x (some ad) c6 g w6 from by rw [HST.out, HT.out, ← List.append_assoc]; exact HD5.out.wrote hq)
            obtain rfl := hq.ret
            clear hq HD5 HP
            go_wp2
            go_roundw
            case rel => exact ⟨i + 1, by simp, by omega, HD9⟩
            case measure => simp [intOf]; omega
        · have y7 : (y.f0 == 7) = false := beq_eq_false_iff_ne.2 k7
          by_cases hi0 : i = 0
          · have j0 : ((i : Int) == 0) = true := beq_iff_eq.2 (by omega)
            have HT := Aside0.mk (show tgh1 m (i == 0) (i + 1 == x.f6.length) y = [10] ++ blk1 m y from by unfold tgh1; rw [if_neg k7, show (i == 0) = true from beq_iff_eq.2 hi0]; rfl)
            clear k7 hi0
            have HP := Aside0.mk (put_l HD4.out.cx.wt [[10]] [10] rfl (by have := HLB.out; simp only [List.length_cons, List.length_nil]; omega) (by simp))
            go_wp2_with fail
            refine HP.out.mono ?_
            rintro e w5 hq
            have HD5 := Aside0.mk (HD4.out.wrote hq)
            obtain rfl := hq.ret
            clear hq HD4 HP d0 d1 d2 d3 d4 d5 d6 g0 g1 g2 g3 g4 g5 g6
            obtain ⟨g0, g1, g2, g3, g4, g5, g6⟩ := HD5.out.cx.nd
            go_wp2_with fail
            refine (HBK.out _ _ HD5.out.cx.wt (by have := HLB.out; simp only [List.length_append, List.length_cons, List.length_nil]; omega)).mono ?_
            rintro e w6 hq
            have HD9 := Aside0.mk (show Dx w0 w b m (X ++ [60, 108, 105, 62] ++ tghN m x.f6 (i + 1)) o x (some ad) c6 g w6 from by rw [HST.out, HT.out, ← List.append_assoc]; exact HD5.out.wrote hq)
            obtain rfl := hq.ret
            clear hq HD5 g0 g1 g2 g3 g4 g5 g6
            go_wp2
            go_roundw
            case rel => exact ⟨i + 1, by simp, by omega, HD9⟩
            case measure => simp [intOf]; omega
          · have j0 : ((i : Int) == 0) = false := beq_eq_false_iff_ne.2 (by omega)
            have HT := Aside0.mk (show tgh1 m (i == 0) (i + 1 == x.f6.length) y = blk1 m y from by unfold tgh1; rw [if_neg k7, show (i == 0) = false from beq_eq_false_iff_ne.2 hi0]; rfl)
            clear k7 hi0
            go_wp2_with fail
            refine (HBK.out _ _ HD4.out.cx.wt (by have := HLB.out; omega)).mono ?_
            rintro e w6 hq
            have HD9 := Aside0.mk (show Dx w0 w b m (X ++ [60, 108, 105, 62] ++ tghN m x.f6 (i + 1)) o x (some ad) c6 g w6 from by rw [HST.out, HT.out]; exact HD4.out.wrote hq)
            obtain rfl := hq.ret
            clear hq HD4 d0 d1 d2 d3 d4 d5 d6 g0 g1 g2 g3 g4 g5 g6
            go_wp2
            go_roundw
            case rel => exact ⟨i + 1, by simp, by omega, HD9⟩
            case measure => simp [intOf]; omega
      · have q1 : decide ((i : Int) < (x.f6.length : Int)) = false := decide_eq_false (by omega)
        have hie : i = x.f6.length := by omega
        rw [hie] at HD
        have HTN := Aside0.mk (tghN_len m HQ.out.ok x.f6.length (Nat.le_refl _))
        clear hie f0 f1 f2 f3 f4 f5 f6
        go_wp2
        refine leaves_cons (f := 27) (args := #[.pointer (some ⟨b, 0, none⟩), .slice (some ⟨g, 0, none⟩) 1 1]) (by simp) (by simp [go_sem]) ?_
        refine (HEND.out _ wr g HE2.out (by have := HTN.out; rw [List.take_length] at this; omega) HD.out).mono ?_
        rintro e u' w9 ⟨rfl, rfl, hq⟩
        have HF := Aside0.mk hq
        clear hq
        simp [Leaves, settle, results, Tryz.results58]
        exact HF.out
end Go.Proofs.YtchdkiakdnanhaaGreatDoor.PA

namespace Go.Proofs.YtchdkiakdnanhaaGreatDoor.PA
open Go.RowKit Go.Sort Go.Proofs.YtchdkiakdnanhaaGreatDoor.Pl Go.Proofs.YtchdkiakdnanhaaGreatDoorW.PrintWords Go.Proofs.YtchdkiakdnanhaaGreatDoorW.PrintLast Go.Proofs.YtchdkiakdnanhaaGreatDoorW.PrintMore
set_option linter.unusedVariables false

/-- What a list begins with: its tag, where it starts. -/
def lsTag (mm : Int) : List UInt8 := if ordd mm then [111, 108] else [117, 108]
def lsSt (n mm : Int) : List UInt8 := if ordd mm && decide (n ≠ 1) then atr [115, 116, 97, 114, 116] (Lib.itoa (max n 0)) else []
theorem lstO_eq (n mm : Int) : [[60], lsTag mm, lsSt n mm, [62, 10]].flatten = lstO n mm := by unfold lstO lsTag lsSt; simp
theorem lstC_eq (mm : Int) : [[60, 47], lsTag mm, [62, 10]].flatten = lstC mm := by unfold lstC lsTag; simp
set_option maxHeartbeats 8000000 in
set_option maxRecDepth 100000 in
theorem list_calls (N : Nat) (IH : BlkC N) {w0 : World} {b : Nat} {m : Int} {X : List UInt8} {w : World} (h : Wt w0 b m X w) (hLd : LaidW w0) (x : Nd) (A6 : Option Addr) (c6 : Nat) (hq : Rq w0 A6 c6 x.f6) (hwt : wt x.f6 < N) (hn : i64 x.f3) (hl : X.length + 100 + 300 * wt x.f6 ≤ 70368744177664) :
    Calls Tryz.prog 42 #[.pointer (some ⟨b, 0, none⟩), .agg (ncs x A6 c6)] w (Wrote w0 b m X (lstO x.f3 x.f4 ++ (itms m x.f5 x.f6 ++ lstC x.f4)) w) := by
  have HIH := Aside0.mk IH
  have HLD := Aside0.mk hLd
  have HQ := Aside0.mk hq
  have HWT := Aside0.mk hwt
  have HL := Aside0.mk hl
  have hlen := hq.len
  have HOL := Aside0.mk (lstO_len (mm := x.f4) hn)
  have HCL := Aside0.mk (lstC_len x.f4)
  have HIL := Aside0.mk (fun j => itms_len m x.f5 (x.f6.take j) (okl_take hq.ok j))
  have HN := Aside0.mk hn
  obtain ⟨R, hR⟩ : ∃ R, Wrote w0 b m X (lstO x.f3 x.f4 ++ (itms m x.f5 x.f6 ++ lstC x.f4)) w = R := ⟨_, rfl⟩
  have HR := Aside0.mk hR
  rw [hR]
  have hcx : Cx w0 w b m X w.heap.size x A6 c6 (w.alloc (.cells (ncs x A6 c6) 29)) := ⟨h.step (below_alloc (Below.refl _ _) _), heap_alloc_new w _, (Lib.OthersKept.refl _ _ _).alloc _⟩
  obtain ⟨o, ho⟩ : ∃ o, w.heap.size = o := ⟨_, rfl⟩
  obtain ⟨w1, hw1⟩ : ∃ w1, w.alloc (.cells (ncs x A6 c6) 29) = w1 := ⟨_, rfl⟩
  rw [hw1, ho] at hcx
  have HC1 := Aside0.mk hcx
  obtain ⟨d0, d1, d2, d3, d4, d5, d6⟩ := hcx.nd
  clear hcx hR hl h hq hLd IH hwt hn
  go_enter Tryz.func42, Tryz.ntmps42
  go_upto_region 2 with fail
  go_cut [15] (fun v15 wx => v15 = .bool (ordd x.f4) ∧ wx = w1)
  case first =>
    by_cases k46 : x.f4 = 46
    · have y1 : (x.f4 == 46) = true := beq_iff_eq.2 k46
      have HO := Aside0.mk (show ordd x.f4 = true from by unfold ordd; simp [k46])
      clear k46
      go_wp2
      go_meet
      exact ⟨by rw [HO.out], rfl⟩
    · have y1 : (x.f4 == 46) = false := beq_eq_false_iff_ne.2 k46
      by_cases k41 : x.f4 = 41
      · have y2 : (x.f4 == 41) = true := beq_iff_eq.2 k41
        have HO := Aside0.mk (show ordd x.f4 = true from by unfold ordd; simp [k41])
        clear k41 k46
        go_wp2
        go_meet
        exact ⟨by rw [HO.out], rfl⟩
      · have y2 : (x.f4 == 41) = false := beq_eq_false_iff_ne.2 k41
        have HO := Aside0.mk (show ordd x.f4 = false from by unfold ordd; simp [k46, k41])
        clear k41 k46
        go_wp2
        go_meet
        exact ⟨by rw [HO.out], rfl⟩
  case rest =>
  obtain ⟨rfl, hwx⟩ := hcut
  rw [hwx]
  clear hwx
  go_upto_if 15 with fail
  go_cut [4, 5] (fun v4 v5 wx => v4 = .string (B (lsTag x.f4)) ∧ v5 = .string (B (lsSt x.f3 x.f4)) ∧ Aside0 (Cx w0 w b m X o x A6 c6 wx))
  case first =>
    cases ho : ordd x.f4 with
    | true =>
      by_cases k1 : x.f3 = 1
      · have z1 : (x.f3 != 1) = false := by rw [k1]; rfl
        have z1' : (x.f3 == 1) = true := beq_iff_eq.2 k1
        have HT := Aside0.mk (show lsTag x.f4 = [111, 108] ∧ lsSt x.f3 x.f4 = [] from by unfold lsTag lsSt; rw [ho, k1]; exact ⟨rfl, rfl⟩)
        clear ho k1
        go_wp2
        go_meet
        exact ⟨by rw [HT.out.1]; rfl, by rw [HT.out.2]; rfl, HC1⟩
      · have z1 : (x.f3 != 1) = true := by simpa using k1
        have z1' : (x.f3 == 1) = false := beq_eq_false_iff_ne.2 k1
        have hT : lsTag x.f4 = [111, 108] ∧ lsSt x.f3 x.f4 = atr [115, 116, 97, 114, 116] (Lib.itoa (max x.f3 0)) := by unfold lsTag lsSt; rw [ho, decide_eq_true k1]; exact ⟨rfl, rfl⟩
        have hln := itoa_len (n := max x.f3 0) (by have := HN.out.1; omega) (by have := HN.out.2; omega)
        have HI := Aside0.mk (itoa_any (max x.f3 0) (by have := HN.out.1; omega) (by have := HN.out.2; omega) w1 (HLD.out.go HC1.out.wt.bel))
        have HAT := Aside0.mk (fun W => attr_calls [115, 116, 97, 114, 116] (Lib.itoa (max x.f3 0)) (by decide) (by omega) W)
        have HT := Aside0.mk hT
        clear ho k1 hT hln
        go_wp2_with fail
        refine HI.out.mono ?_
        rintro e w3 ⟨rfl, hb⟩
        have HC3 := Aside0.mk (HC1.out.step hb)
        clear hb HI HC1 d0 d1 d2 d3 d4 d5 d6
        go_wp2_with fail
        refine (HAT.out _).mono ?_
        rintro e w4 ⟨rfl, rfl⟩
        go_wp2
        go_meet
        exact ⟨by rw [HT.out.1]; rfl, by rw [HT.out.2], HC3⟩
    | false =>
      have HT := Aside0.mk (show lsTag x.f4 = [117, 108] ∧ lsSt x.f3 x.f4 = [] from by unfold lsTag lsSt; rw [ho]; exact ⟨rfl, rfl⟩)
      clear ho
      go_wp2
      go_meet
      exact ⟨by rw [HT.out.1]; rfl, by rw [HT.out.2]; rfl, HC1⟩
  case rest =>
    obtain ⟨rfl, rfl, HCX⟩ := hcut
    clear HC1 d0 d1 d2 d3 d4 d5 d6
    have HP := Aside0.mk (put_l HCX.out.wt [[60], lsTag x.f4, lsSt x.f3 x.f4, [62, 10]] (lstO x.f3 x.f4) (lstO_eq _ _) (by have := HL.out; have := HOL.out; omega) (by simp))
    go_wp2_with fail
    refine HP.out.mono ?_
    rintro e w2 hq
    have HC2 := Aside0.mk (HCX.out.wrote hq)
    obtain rfl := hq.ret
    clear hq HP HCX
    obtain ⟨d0, d1, d2, d3, d4, d5, d6⟩ := HC2.out.nd
    go_wp2_with fail
    go_loopw [6, 7, 32] (fun v6 v7 v32 wr => ∃ i : Nat, v32 = .int .i64 (i : Int) ∧ i ≤ x.f6.length ∧ Aside0 (Cx w0 w b m (X ++ lstO x.f3 x.f4 ++ itms m x.f5 (x.f6.take i)) o x A6 c6 wr)) (fun _ _ v32 _ => x.f6.length - (intOf v32).toNat)
    case atStart => exact ⟨0, rfl, by omega, ⟨by rw [List.take_zero, itms, List.append_nil]; exact HC2.out⟩⟩
    case round =>
      clear HC2 d0 d1 d2 d3 d4 d5 d6
      obtain ⟨i, rfl, hi, HC⟩ := hrel
      obtain ⟨f0, f1, f2, f3, f4, f5, f6⟩ := HC.out.nd
      have hlc := HQ.out.cap
      by_cases hlt : i < x.f6.length
      · have q1 : decide ((i : Int) < (x.f6.length : Int)) = true := decide_eq_true (by omega)
        have p0 := eq_true (show 0 ≤ (i : Int) from by omega)
        have p1 := eq_true (show (i : Int) < (x.f6.length : Int) from by omega)
        obtain ⟨ad, A7, c7, e1, hq7, hel⟩ := HQ.out.at' hlt
        cases e1
        have hone := HQ.out.one hlt
        have hsum := wt_take_at hlt
        have htn := HIL.out i
        have hst := itms_take m x.f5 hlt
        obtain ⟨y, hy⟩ : ∃ y, x.f6[i] = y := ⟨_, rfl⟩
        rw [hy] at hq7 hel hone hst hsum
        have hwy := wt1_eta y
        obtain ⟨x0, x1, x2, x3, x4, x5, x6⟩ := hel wr HC.out.wt.bel
        obtain ⟨X1, hX1⟩ : ∃ X1, X ++ lstO x.f3 x.f4 ++ itms m x.f5 (x.f6.take i) = X1 := ⟨_, rfl⟩
        have hlb : X1.length + 20 + 300 * wt1 y ≤ 70368744177664 := by
          have := HL.out
          have := HOL.out
          rw [← hX1, List.length_append, List.length_append]
          omega
        rw [hX1] at HC
        have HLB := Aside0.mk hlb
        have HST := Aside0.mk (show X ++ lstO x.f3 x.f4 ++ itms m x.f5 (x.f6.take (i + 1)) = X1 ++ itm1 m x.f5 y from by rw [hst, ← hX1, List.append_assoc (X ++ lstO x.f3 x.f4)])
        have HIT := Aside0.mk (fun (W : World) (hW : Wt w0 b m X1 W) => item_calls N HIH.out hW HLD.out y A7 c7 x.f5 hq7 (by have := HWT.out; omega) (by have := HLB.out; omega))
        have HBK := Aside0.mk (fun (W : World) (hW : Wt w0 b m X1 W) => (show Calls Tryz.prog 25 #[.pointer (some ⟨b, 0, none⟩), .slice (some (ad.add (i * 7))) 1 (c6 - i)] W (Wrote w0 b m X1 (blk1 m y) W) from by
          have hw1 : wt [y] = wt1 y := by rw [wt, wt]; rfl
          have h1 := HIH.out [y] (by rw [hw1]; have := HWT.out; omega) w0 b m X1 W (some (ad.add (i * 7))) (c6 - i) HLD.out hone hW (by rw [hw1]; have := HLB.out; omega)
          rw [blk_one] at h1
          exact h1))
        have HW1 := Aside0.mk (show IntKind.i64.wrap ((i : Int) + 1) = (i : Int) + 1 from IntWalk.i64_in _ (by omega))
        clear hy hel hsum htn hst hq7 hwy hlb hX1 hone
        obtain ⟨o2, ho2⟩ : ∃ o2, wr.heap.size = o2 := ⟨_, rfl⟩
        have hnd := ndAt (heap_alloc_new wr (.cells (ncs y A7 c7) 29))
        have hcx : Cx w0 w b m X1 o x (some ad) c6 (wr.alloc (.cells (ncs y A7 c7) 29)) := HC.out.alloc _
        obtain ⟨w4, hw4⟩ : ∃ w4, wr.alloc (.cells (ncs y A7 c7) 29) = w4 := ⟨_, rfl⟩
        rw [hw4, ho2] at hnd
        rw [hw4] at hcx
        have HC4 := Aside0.mk hcx
        obtain ⟨d0, d1, d2, d3, d4, d5, d6⟩ := hnd
        obtain ⟨g0, g1, g2, g3, g4, g5, g6⟩ := hcx.nd
        clear hcx HC f0 f1 f2 f3 f4 f5 f6
        have z1 : IntKind.i64.wrap ((i : Int) + 1) = (i : Int) + 1 := HW1.out
        have z2 := eq_true (show (i : Int) + 1 ≤ (c6 : Int) from by omega)
        have z3 := eq_true (show (i : Int) ≤ (i : Int) + 1 from by omega)
        have z5 : ((i : Int) + 1).toNat = i + 1 := rfl
        have z6 : ¬ c6 = i := by omega
        have z7 : i + 1 - i = 1 := by omega
        by_cases k4 : y.f0 = 4
        · have y4 : (y.f0 == 4) = true := beq_iff_eq.2 k4
          have HT := Aside0.mk (show itm1 m x.f5 y = itmT m x.f5 y from by unfold itm1; rw [if_pos k4])
          clear k4
          go_wp2_with fail
          refine (HIT.out _ HC4.out.wt).mono ?_
          rintro e w6 hq
          have HD9 := Aside0.mk (show Cx w0 w b m (X ++ lstO x.f3 x.f4 ++ itms m x.f5 (x.f6.take (i + 1))) o x (some ad) c6 w6 from by rw [HST.out, HT.out]; exact HC4.out.wrote hq)
          obtain rfl := hq.ret
          clear hq HC4 d0 d1 d2 d3 d4 d5 d6 g0 g1 g2 g3 g4 g5 g6
          go_wp2
          go_roundw
          case rel => exact ⟨i + 1, by simp, by omega, HD9⟩
          case measure => simp [intOf]; omega
        · have y4 : (y.f0 == 4) = false := beq_eq_false_iff_ne.2 k4
          have HT := Aside0.mk (show itm1 m x.f5 y = blk1 m y from by unfold itm1; rw [if_neg k4])
          clear k4
          go_wp2_with fail
          refine (HBK.out _ HC4.out.wt).mono ?_
          rintro e w6 hq
          have HD9 := Aside0.mk (show Cx w0 w b m (X ++ lstO x.f3 x.f4 ++ itms m x.f5 (x.f6.take (i + 1))) o x (some ad) c6 w6 from by rw [HST.out, HT.out]; exact HC4.out.wrote hq)
          obtain rfl := hq.ret
          clear hq HC4 d0 d1 d2 d3 d4 d5 d6 g0 g1 g2 g3 g4 g5 g6
          go_wp2
          go_roundw
          case rel => exact ⟨i + 1, by simp, by omega, HD9⟩
          case measure => simp [intOf]; omega
      · have q1 : decide ((i : Int) < (x.f6.length : Int)) = false := decide_eq_false (by omega)
        have htk : x.f6.take i = x.f6 := List.take_of_length_le (by omega)
        have hil := HIL.out x.f6.length
        rw [List.take_length] at hil
        rw [htk] at HC
        have HP := Aside0.mk (put_l HC.out.wt [[60, 47], lsTag x.f4, [62, 10]] (lstC x.f4) (lstC_eq _) (by have := HL.out; have := HOL.out; have := HCL.out; rw [List.length_append, List.length_append]; omega) (by simp))
        clear htk hil f0 f1 f2 f3 f4 f5 f6
        go_wp2_with fail
        refine HP.out.mono ?_
        rintro e w6 hq
        have HC6 := Aside0.mk (HC.out.wrote hq)
        obtain rfl := hq.ret
        clear hq HP HC
        go_wp2
        go_end0
        rw [← HR.out]
        exact ⟨rfl, by have := HC6.out.wt; simpa only [List.append_assoc] using this, HC6.out.oth⟩
end Go.Proofs.YtchdkiakdnanhaaGreatDoor.PA
