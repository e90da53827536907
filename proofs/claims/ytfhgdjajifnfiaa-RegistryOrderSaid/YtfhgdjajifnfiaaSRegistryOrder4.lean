/-
  Texts of the proof of RegistryOrder, part 4 of 6: contracts and plain laws. Conditions: see each statement.
-/
import Derived.Test.YtfhgdjajifnfiaaSRegistryOrder3
import Derived.Defers
import Derived.RegionCalls
set_option linter.unusedVariables false
namespace Go.Proofs.Ytfhgdjajifnfiaa.PA
open Go.RowKit Go.Maps Go.ChangeMaps Go.WideShapes Go.WideMaps Go.MuLone Go.Conc.Locks Go.Sort Go.Proofs.YtfhgdjajifnfiaaW.PrintWords Go.Proofs.YtfhgdjajifnfiaaW.PrintLast Go.Proofs.YtfhgdjajifnfiaaW.PrintMore
set_option linter.unusedVariables false

instance (x y : S27) : Decidable (ltH x y) := by unfold ltH; infer_instance
def leH (x y : S27) : Bool := !decide (ltH y x)
/-- The hooks that are on, in order. -/
def srt (m : Int) (L : List S27) : List S27 := (L.filter (onH m)).mergeSort leH
theorem srt_perm (m : Int) (L : List S27) : (srt m L).Perm (L.filter (onH m)) := List.mergeSort_perm _ _
theorem srt_pw {m : Int} {L : List S27} (U : Uniq L) : (srt m L).Pairwise ltH := by
  refine uniq_perm U (srt_perm m L) ?_
  have h := List.pairwise_mergeSort (le := leH) (fun x y z h1 h2 => ?_) (fun x y => ?_) (L.filter (onH m))
  · refine h.imp fun {x y} a => ?_
    simpa [leH] using a
  · simp only [leH, Bool.not_eq_true', decide_eq_false_iff_not] at h1 h2 ⊢
    exact ltH_ntrans h2 h1
  · simp only [leH, Bool.or_eq_true, Bool.not_eq_true', decide_eq_false_iff_not]
    exact Decidable.byContradiction fun a => by
      have a1 : ltH y x := Decidable.byContradiction fun x => a (.inl x)
      have a2 : ltH x y := Decidable.byContradiction fun x => a (.inr x)
      exact ltH_irrefl _ (ltH_trans a1 a2)
theorem srt_eq {m : Int} {L ys : List S27} (U : Uniq L) (h : ys.Perm (L.filter (onH m))) (hp : ys.Pairwise ltH) : ys = srt m L :=
  List.Perm.eq_of_pairwise (fun x y _ _ h1 h2 => absurd (ltH_trans h1 h2) (ltH_irrefl x)) hp (srt_pw U) (h.trans (srt_perm m L).symm)
/-- A registry, its sorted row told. -/
abbrev RegS (b mb : Nat) (A : Option Addr) (m : Int) (L : List S27) (sl : Bool) (st : Int) (w : World) : Prop := Reg b mb A m L sl (if sl then srt m L else []) st w
/-- '(*sync/atomic.Bool).Store(true)', entered as a deferred call. -/
theorem store_d (a : Addr) (x : Value) (u : FrameMode) (w : World) (hc : w.cell? a = some x) (hz : w.frozen? a = false) :
    CallsD Try.prog 58 #[.pointer (some a), .bool true] u w fun e u' w' => u' = u ∧ (e = .returned (.tuple #[]) ∧ w' = w.drew.setCell a (.int .u32 1)) := by
  have hc' : w.drew.cell? a = some x := by go_simp
  have hz' : w.drew.frozen? a = false := by go_simp
  have hst := run_call_store (P := Try.prog) Try.func71 (by kernel_rfl) (by kernel_rfl) (by kernel_rfl) (by kernel_rfl) (k := .u32) (y := 1) hc' hz'
  go_enter_d Try.func58, Try.ntmps58
  go_wp2
  go_region_calls
  all_goals (go_end0; exact ⟨rfl, rfl⟩)
set_option maxRecDepth 100000 in
set_option maxHeartbeats 2000000 in
theorem slow_once {b mb g : Nat} {A : Option Addr} {m : Int} {L : List S27} {st : Int} (w : World) (hr : RegS b mb A m L false st w) (hg : w.cell? ⟨g, 0, none⟩ = some (.pointer (some ⟨b, 0, none⟩))) (hgb : g ≠ b) (hL : L.length ≤ 100000) :
    Calls Try.prog 50 #[.pointer (some ⟨b, 2, none⟩), .func (.func 41) #[] #[.pointer (some ⟨g, 0, none⟩)]] w fun e w' => e = .returned (.tuple #[]) ∧ ∃ A', RegS b mb A' m L true st w' ∧ Only (fun j => j = b) w w' ∧ ∀ a, A' = some a → w.heap.size ≤ a.block := by
  obtain ⟨w1, hw1⟩ : ∃ w1, w.setCell ⟨b, 3, none⟩ (.int .i32 1) = w1 := ⟨_, rfl⟩
  have o : ∀ j, j ≠ 3 → w1.cell? ⟨b, j, none⟩ = w.cell? ⟨b, j, none⟩ := fun j hj => by rw [← hw1]; exact World.cell?_setCell_other _ ⟨b, 3, none⟩ ⟨b, j, none⟩ _ (by intro e; apply hj; have h := congrArg Addr.off e; first | exact h | exact h.symm)
  have hs1 : w1.heap.size = w.heap.size := by rw [← hw1, World.size_setCell]
  have k1 : ∀ j, j ≠ b → w1.heap[j]? = w.heap[j]? := fun j hj => by rw [← hw1]; exact Below.heap_setCell _ _ _ _ hj
  have f1 : ∀ j, w1.frozen? ⟨b, j, none⟩ = false := fun j => by rw [← hw1]; simp [hr.fz j]
  have g1 : w1.cell? ⟨g, 0, none⟩ = some (.pointer (some ⟨b, 0, none⟩)) := (World.cell?_of_block (w := w) (a := ⟨g, 0, none⟩) (k1 g hgb)).trans hg
  have ho1 : Only (fun j => j = b) w w1 := ⟨by rw [← hw1]; rfl, by rw [← hw1]; rfl, by rw [← hw1]; rfl, by omega, fun j _ hn => k1 j hn⟩
  have HO := Aside0.mk (close_loop b mb g m L w1 g1 ((o 0 (by decide)).trans hr.c0) ((o 1 (by decide)).trans hr.c1) ((o 5 (by decide)).trans hr.c5) ((o 6 (by decide)).trans (hr.un rfl)) f1 (ownsMap_keep hr.mp (k1 mb hr.ne)) hr.uq hr.ne hgb hL)
  have c21 := (o 2 (by decide)).trans hr.c2
  have c31 : w1.cell? ⟨b, 3, none⟩ = some (.int .i32 1) := by rw [← hw1]; exact World.cell?_setCell_same _ _ _ hr.c3
  have hl := run_call_load (P := Try.prog) Try.func55 (by kernel_rfl) (by kernel_rfl) (by kernel_rfl) .u32 (by kernel_rfl) (w := w1) (a := ⟨b, 2, none⟩) (x := 0) c21
  have hnot : ∀ (x : Bool) (w : World), (Op.unary .not (.bool x)).run Try.prog w = .ok (.bool (!x)) w := fun _ _ => rfl
  have hlock := Aside0.mk (lock_free muLib ⟨b, 3, none⟩ w hr.c3 (hr.fz 3))
  have HR := Aside0.mk hr
  have HO1 := Aside0.mk ho1
  have HC2 := Aside0.mk c21
  have HC3 := Aside0.mk c31
  have HOO := Aside0.mk o
  have HK1 := Aside0.mk k1
  clear hr ho1 f1 o k1 c31 c21 hg g1
  go_enter_defers Try.func50, Try.ntmps50
  go_wp2_with (first | (go_at_call 56; refine hlock.out.mono ?_; rintro e w' ⟨rfl, rfl⟩; rw [hw1]) | (go_at_call 49; go_in))
  refine HO.out.mono ?_
  rintro e w2 ⟨rfl, hcl⟩
  have d2 : w2.cell? ⟨b, 2, none⟩ = some (.int .u32 0) := (hcl.ce 2 (by decide) (by decide)).trans HC2.out
  have d3 : w2.cell? ⟨b, 3, none⟩ = some (.int .i32 1) := (hcl.ce 3 (by decide) (by decide)).trans HC3.out
  have HN := Aside0.mk hcl
  have HF := Aside0.mk hcl.fz
  clear hcl HO hl hlock
  go_wp2
  refine leaves_cons (f := 58) (args := #[.pointer (some ⟨b, 2, none⟩), .bool true]) (by simp) (by simp [go_sem]) ?_
  refine (store_d ⟨b, 2, none⟩ (.int .u32 0) .returning _ d2 (HF.out 2)).mono ?_
  rintro e u' w3 ⟨rfl, rfl, rfl⟩
  refine leaves_cons (f := 57) (args := #[.pointer (some ⟨b, 3, none⟩)]) (by simp [settle]) (by simp [go_sem]) ?_
  refine (unlock_deferred muLib ⟨b, 3, none⟩ _ _ ?_ (by simp [HF.out 3])).mono ?_
  · refine (World.cell?_setCell_other _ ⟨b, 2, none⟩ ⟨b, 3, none⟩ _ (by simp)).trans ?_
    rw [World.cell?_drew]
    exact d3
  rintro e u' w4 ⟨rfl, rfl, rfl⟩
  have hfin : ∃ A', RegS b mb A' m L true st ((w2.drew.setCell ⟨b, 2, none⟩ (.int .u32 1)).setCell ⟨b, 3, none⟩ (.int .i32 0)) ∧ Only (fun j => j = b) w ((w2.drew.setCell ⟨b, 2, none⟩ (.int .u32 1)).setCell ⟨b, 3, none⟩ (.int .i32 0)) ∧ ∀ a, A' = some a → w.heap.size ≤ a.block := by
    obtain ⟨so, A', c, h6, hc, hrow, hpm, hpw, hA⟩ := HN.out.so
    have hr := HR.out
    have heq := srt_eq hr.uq hpm hpw
    have h2 := HN.out.only.size
    have hlt := hr.lt
    have kk : ∀ j, j ≠ 2 → j ≠ 3 → ((w2.drew.setCell ⟨b, 2, none⟩ (.int .u32 1)).setCell ⟨b, 3, none⟩ (.int .i32 0)).cell? ⟨b, j, none⟩ = w2.cell? ⟨b, j, none⟩ := fun j j2 j3 => by
      rw [World.cell?_setCell_other _ ⟨b, 3, none⟩ ⟨b, j, none⟩ _ (by intro e; apply j3; have h := congrArg Addr.off e; first | exact h | exact h.symm), World.cell?_setCell_other _ ⟨b, 2, none⟩ ⟨b, j, none⟩ _ (by intro e; apply j2; have h := congrArg Addr.off e; first | exact h | exact h.symm), World.cell?_drew]
    have kb : ∀ j, j ≠ b → ((w2.drew.setCell ⟨b, 2, none⟩ (.int .u32 1)).setCell ⟨b, 3, none⟩ (.int .i32 0)).heap[j]? = w2.heap[j]? := fun j hj => by
      rw [Below.heap_setCell _ _ _ _ hj, Below.heap_setCell _ _ _ _ hj]
      rfl
    have kw : ∀ j, j ≠ 3 → j ≠ 5 → j ≠ 6 → w2.cell? ⟨b, j, none⟩ = w.cell? ⟨b, j, none⟩ := fun j j3 j5 j6 => (HN.out.ce j j5 j6).trans (HOO.out j j3)
    have hmlt := hr.mp.lt
    have hsz : ((w2.drew.setCell ⟨b, 2, none⟩ (.int .u32 1)).setCell ⟨b, 3, none⟩ (.int .i32 0)).heap.size = w2.heap.size := by simp
    have hne := hr.ne
    refine ⟨A', { lt := by omega, fz := fun j => (by simp; exact HF.out j), c0 := ((kk 0 (by decide) (by decide)).trans (kw 0 (by decide) (by decide) (by decide))).trans hr.c0, c1 := ((kk 1 (by decide) (by decide)).trans (kw 1 (by decide) (by decide) (by decide))).trans hr.c1, mp := ownsMap_keep hr.mp ((kb mb hne).trans ((HN.out.only.block mb (by omega) hne).trans (HK1.out mb hne))), uq := hr.uq, c2 := ?_, c3 := ?_, c5 := (kk 5 (by decide) (by decide)).trans HN.out.c5, c6 := ⟨c, by rw [if_pos rfl, ← heq]; exact (kk 6 (by decide) (by decide)).trans h6, by rw [if_pos rfl, ← heq]; exact hc⟩, ro := ?_, un := fun h => (by cases h), c7 := ((kk 7 (by decide) (by decide)).trans (kw 7 (by decide) (by decide) (by decide))).trans hr.c7, ne := hne, na := fun a ha => by have := hA a ha; omega }, ?_, fun a ha => by have := (hA a ha).1; omega⟩
    · rw [World.cell?_setCell_other _ ⟨b, 3, none⟩ ⟨b, 2, none⟩ _ (by simp), World.cell?_setCell_same _ _ _ (by rw [World.cell?_drew]; exact d2)]
      rfl
    · exact World.cell?_setCell_same _ _ _ ((World.cell?_setCell_other _ ⟨b, 2, none⟩ ⟨b, 3, none⟩ _ (by simp)).trans d3)
    · rw [if_pos rfl, ← heq]
      exact hrow.keep fun a ha => kb a.block (by have := hA a ha; omega)
    · exact ((HO1.out.trans HN.out.only).drew.trans (Only.set _ ⟨b, 2, none⟩ _ rfl)).trans (Only.set _ ⟨b, 3, none⟩ _ rfl)
  have HFin := Aside0.mk hfin
  clear hfin
  simp [Leaves, settle, results, Try.results50]
  exact HFin.out
end Go.Proofs.Ytfhgdjajifnfiaa.PA

namespace Go.Proofs.Ytfhgdjajifnfiaa.PA
open Go.RowKit Go.Maps Go.ChangeMaps Go.WideShapes Go.WideMaps Go.MuLone Go.Conc.Locks Go.Sort Go.Proofs.YtfhgdjajifnfiaaW.PrintWords Go.Proofs.YtfhgdjajifnfiaaW.PrintLast Go.Proofs.YtfhgdjajifnfiaaW.PrintMore
set_option linter.unusedVariables false

set_option maxRecDepth 100000 in
set_option maxHeartbeats 1600000 in
/-- Do, not yet done. -/
theorem do_first {b mb g : Nat} {A : Option Addr} {m : Int} {L : List S27} {st : Int} (w : World) (hr : RegS b mb A m L false st w) (hg : w.cell? ⟨g, 0, none⟩ = some (.pointer (some ⟨b, 0, none⟩))) (hgb : g ≠ b) (hL : L.length ≤ 100000) :
    Calls Try.prog 40 #[.pointer (some ⟨b, 2, none⟩), .func (.func 41) #[] #[.pointer (some ⟨g, 0, none⟩)]] w fun e w' => e = .returned (.tuple #[]) ∧ ∃ A', RegS b mb A' m L true st w' ∧ Only (fun j => j = b) w w' ∧ ∀ a, A' = some a → w.heap.size ≤ a.block := by
  have hl := run_call_load (P := Try.prog) Try.func55 (by kernel_rfl) (by kernel_rfl) (by kernel_rfl) .u32 (by kernel_rfl) hr.c2
  have hnot : ∀ (x : Bool) (w : World), (Op.unary .not (.bool x)).run Try.prog w = .ok (.bool (!x)) w := fun _ _ => rfl
  have HS := Aside0.mk (slow_once w hr hg hgb hL)
  clear hr
  go_enter Try.func40, Try.ntmps40
  go_wp2_with (first | (go_at_call 50; refine HS.out.mono ?_; rintro e w' ⟨rfl, hd⟩) | (go_at_call 49; go_in))
  go_end0
  exact ⟨rfl, hd⟩
set_option maxRecDepth 100000 in
/-- Do, done. -/
theorem do_again {b mb g : Nat} {A : Option Addr} {m : Int} {L : List S27} {st : Int} (f : Value) (w : World) (hr : RegS b mb A m L true st w) :
    Calls Try.prog 40 #[.pointer (some ⟨b, 2, none⟩), f] w fun e w' => e = .returned (.tuple #[]) ∧ w' = w := by
  have hl := run_call_load (P := Try.prog) Try.func55 (by kernel_rfl) (by kernel_rfl) (by kernel_rfl) .u32 (by kernel_rfl) hr.c2
  have hnot : ∀ (x : Bool) (w : World), (Op.unary .not (.bool x)).run Try.prog w = .ok (.bool (!x)) w := fun _ _ => rfl
  clear hr
  go_enter Try.func40, Try.ntmps40
  go_wp2_with (go_at_call 49; go_in)
  go_end0
  exact ⟨rfl, rfl⟩
/-- close. -/
theorem close_calls {b mb : Nat} {A : Option Addr} {m : Int} {L : List S27} {sl : Bool} {st : Int} (w : World) (hr : RegS b mb A m L sl st w) (hL : L.length ≤ 100000) :
    Calls Try.prog 36 #[.pointer (some ⟨b, 0, none⟩)] w fun e w' => e = .returned (.tuple #[]) ∧ ∃ A', RegS b mb A' m L true st w' ∧ Only (fun j => j = b) w w' ∧ ∀ a, A' = some a → A' = A ∨ w.heap.size ≤ a.block := by
  have hlt := hr.lt
  have hra : ∀ ob : Obj, RegS b mb A m L sl st (w.alloc ob) := fun ob => hr.keep_only (Only.alloc (F := fun _ => False) w ob) (fun _ _ x => x)
  have hg : ∀ v : Value, (w.alloc (.cells #[v] 28)).cell? ⟨w.heap.size, 0, none⟩ = some v := fun v => cell_at (heap_alloc_new w _) 0
  cases sl with
  | true =>
    have HD := Aside0.mk (fun ob f => do_again (g := 0) f (w.alloc ob) (hra ob))
    have HA := Aside0.mk hra
    clear hra hr hg
    go_enter Try.func36, Try.ntmps36
    go_wp2_with (go_at_call 40; refine (HD.out _ _).mono ?_; rintro e w' ⟨rfl, rfl⟩)
    go_end0
    exact ⟨rfl, A, HA.out _, Only.alloc w _, fun a ha => .inl rfl⟩
  | false =>
    have HD := Aside0.mk (do_first (g := w.heap.size) _ (hra (.cells #[.pointer (some ⟨b, 0, none⟩)] 28)) (hg _) (by omega) hL)
    clear hra hr hg
    go_enter Try.func36, Try.ntmps36
    go_wp2_with (go_at_call 40; refine HD.out.mono ?_; rintro e w' ⟨rfl, A', h1, h2, h3⟩)
    go_end0
    exact ⟨rfl, A', h1, (Only.alloc w _).trans h2, fun a ha => .inr (by have := h3 a ha; simp at this; omega)⟩
/-- The closures of the three questions. -/
theorem sorted_is (g : Nat) (p : Int) (h : S27) (W : World) (hc : W.cell? ⟨g, 0, none⟩ = some (.int .i64 p)) :
    Calls Try.prog 29 #[hv h, .pointer (some ⟨g, 0, none⟩)] W fun e w' => e = .returned (.bool (h.f1 == p)) ∧ Below W.heap.size W w' := by
  have hlt : g < W.heap.size := World.block_lt_of_cell? W _ hc
  have c0a : ∀ o : Obj, (W.alloc o).cell? ⟨g, 0, none⟩ = some (.int .i64 p) := fun o => (World.cell?_of_block (w := W) (a := ⟨g, 0, none⟩) (Below.heap_alloc _ _ _ hlt)).trans hc
  go_enter Try.func29, Try.ntmps29
  go_wp2
  go_ret
  exact ⟨rfl, (Below.refl _ _).alloc (Nat.le_refl _) _⟩
theorem has_is (g : Nat) (n : ByteArray) (h : S27) (W : World) (hc : W.cell? ⟨g, 0, none⟩ = some (.string n)) :
    Calls Try.prog 34 #[hv h, .pointer (some ⟨g, 0, none⟩)] W fun e w' => e = .returned (.bool (h.f0.toList == n.toList)) ∧ Below W.heap.size W w' := by
  have hlt : g < W.heap.size := World.block_lt_of_cell? W _ hc
  have c0a : ∀ o : Obj, (W.alloc o).cell? ⟨g, 0, none⟩ = some (.string n) := fun o => (World.cell?_of_block (w := W) (a := ⟨g, 0, none⟩) (Below.heap_alloc _ _ _ hlt)).trans hc
  go_enter Try.func34, Try.ntmps34
  go_wp2
  go_ret
  exact ⟨rfl, (Below.refl _ _).alloc (Nat.le_refl _) _⟩
end Go.Proofs.Ytfhgdjajifnfiaa.PA

namespace Go.Proofs.Ytfhgdjajifnfiaa.PA
open Go.RowKit Go.Maps Go.ChangeMaps Go.WideShapes Go.WideMaps Go.MuLone Go.Conc.Locks Go.Sort Go.Proofs.YtfhgdjajifnfiaaW.PrintWords Go.Proofs.YtfhgdjajifnfiaaW.PrintLast Go.Proofs.YtfhgdjajifnfiaaW.PrintMore
set_option linter.unusedVariables false

/-- Does a byte trigger a hook? -/
def trig (c : Int) (h : S27) : Bool := h.f3.toList.isEmpty || decide (0 ≤ Lib.indexByte h.f3.data.toList c.toNat.toUInt8)
set_option maxHeartbeats 1000000 in
theorem for_is (g g2 : Nat) (p c : Int) (h : S27) (W : World) (hc : W.cell? ⟨g, 0, none⟩ = some (.int .i64 p)) (hc2 : W.cell? ⟨g2, 0, none⟩ = some (.int .u8 c)) :
    Calls Try.prog 32 #[hv h, .pointer (some ⟨g, 0, none⟩), .pointer (some ⟨g2, 0, none⟩)] W fun e w' => e = .returned (.bool (h.f1 == p && trig c h)) ∧ Below W.heap.size W w' := by
  have hlt : g < W.heap.size := World.block_lt_of_cell? W _ hc
  have hlt2 : g2 < W.heap.size := World.block_lt_of_cell? W _ hc2
  have c0a : ∀ o : Obj, (W.alloc o).cell? ⟨g, 0, none⟩ = some (.int .i64 p) := fun o => (World.cell?_of_block (w := W) (a := ⟨g, 0, none⟩) (Below.heap_alloc _ _ _ hlt)).trans hc
  have c0b : ∀ o : Obj, (W.alloc o).cell? ⟨g2, 0, none⟩ = some (.int .u8 c) := fun o => (World.cell?_of_block (w := W) (a := ⟨g2, 0, none⟩) (Below.heap_alloc _ _ _ hlt2)).trans hc2
  unfold trig
  clear hlt hlt2
  cases e1 : h.f1 == p with
  | false =>
    go_enter Try.func32, Try.ntmps32
    go_wp2
    go_ret
    exact ⟨rfl, (Below.refl _ _).alloc (Nat.le_refl _) _⟩
  | true =>
    cases e2 : h.f3.toList.isEmpty with
    | true =>
      go_enter Try.func32, Try.ntmps32
      go_wp2
      go_ret
      exact ⟨rfl, (Below.refl _ _).alloc (Nat.le_refl _) _⟩
    | false =>
      go_enter Try.func32, Try.ntmps32
      go_wp2_with (go_at_call 33; refine (Try.strings_IndexByte _ _ _).mono ?_; rintro e w' ⟨rfl, rfl⟩)
      go_ret
      exact ⟨by simp, (Below.refl _ _).alloc (Nat.le_refl _) _⟩
end Go.Proofs.Ytfhgdjajifnfiaa.PA

namespace Go.Proofs.Ytfhgdjajifnfiaa.PA
open Go.RowKit Go.Maps Go.ChangeMaps Go.WideShapes Go.WideMaps Go.MuLone Go.Conc.Locks Go.Sort Go.Proofs.YtfhgdjajifnfiaaW.PrintWords Go.Proofs.YtfhgdjajifnfiaaW.PrintLast Go.Proofs.YtfhgdjajifnfiaaW.PrintMore
set_option linter.unusedVariables false

/-- What a question leaves: the registry sealed, a new row. -/
structure Ans (b mb : Nat) (A : Option Addr) (m : Int) (L : List S27) (st : Int) (l : List S27) (w : World) (e : Ending) (w' : World) : Prop where
  row : ∃ A2 c, e = .returned (.slice A2 l.length c) ∧ l.length ≤ c ∧ Row w' A2 l ∧ ∀ a, A2 = some a → w.heap.size ≤ a.block ∧ a.block < w'.heap.size
  reg : ∃ A', RegS b mb A' m L true st w' ∧ ∀ a, A' = some a → A' = A ∨ w.heap.size ≤ a.block
  only : Only (fun j => j = b) w w'
theorem Reg.own_lt {b mb : Nat} {A : Option Addr} {m : Int} {L : List S27} {sl : Bool} {so : List S27} {st : Int} {w : World} (h : Reg b mb A m L sl so st w) (j : Nat) (hj : Own3 b mb A j) : ¬ (w.heap.size ≤ j) := by
  rcases hj with rfl | rfl | ⟨a, ha, rfl⟩
  · have := h.lt; omega
  · have := h.mp.lt; omega
  · have := (h.na a ha).1; omega
theorem take_snoc {so : List S27} {j : Nat} {p : S27 → Bool} (hj : j < so.length) : (so.take (j + 1)).filter p = if p (so.getD j z27) then (so.take j).filter p ++ [so.getD j z27] else (so.take j).filter p := by
  rw [List.take_add_one, List.filter_append, List.getD_eq_getElem?_getD, List.getElem?_eq_getElem hj]
  simp only [Option.toList_some, Option.getD_some, List.filter_cons, List.filter_nil]
  split <;> simp
set_option maxHeartbeats 4000000 in
set_option maxRecDepth 100000 in
theorem those_calls {b mb : Nat} {A : Option Addr} {m : Int} {L : List S27} {sl : Bool} {st : Int} (w : World) (hr : RegS b mb A m L sl st w) (hL : L.length ≤ 100000) (f : Nat) (bs : Array Value) (p : S27 → Bool) (J : Nat → Prop) (hJ : ∀ j, J j → j < w.heap.size ∧ j ≠ b)
    (ef : ∀ args w, (callFunc f args).run Try.prog w = .ok (.enter f args) w)
    (hf : ∀ h W, (∀ j, J j → W.heap[j]? = w.heap[j]?) → Calls Try.prog f (#[hv h] ++ bs) W fun e W' => e = .returned (.bool (p h)) ∧ Below W.heap.size W W') :
    Calls Try.prog 28 #[.pointer (some ⟨b, 0, none⟩), .func (.func f) #[] bs] w (Ans b mb A m L st ((srt m L).filter p) w) := by
  have HC := Aside0.mk (close_calls w hr hL)
  have HF := Aside0.mk hf
  have HJ := Aside0.mk hJ
  have hsl : (srt m L).length ≤ 100000 := Nat.le_trans (Nat.le_of_eq (srt_perm m L).length_eq) (Nat.le_trans (List.length_filter_le _ _) hL)
  clear hr hf hJ
  go_enter Try.func28, Try.ntmps28
  go_wp2_with fail
  refine HC.out.mono ?_
  rintro e w1 ⟨rfl, A', hr1, ho1, hA1⟩
  obtain ⟨c6, h6, hc6⟩ := hr1.c6
  rw [if_pos rfl] at h6 hc6
  have hrow : Row w1 A' (srt m L) := by have := hr1.ro; rwa [if_pos rfl] at this
  obtain ⟨so, hso⟩ : ∃ so, srt m L = so := ⟨_, rfl⟩
  have HR1 := Aside0.mk hr1
  have HO1 := Aside0.mk ho1
  have HA1 := Aside0.mk hA1
  have HSO := Aside0.mk hso
  rw [hso] at h6 hc6 hrow hsl
  have HROW := Aside0.mk hrow
  have hap : ∀ a, A' = some a → a.block < w1.heap.size := fun a ha => (hr1.na a ha).1
  have hblt := hr1.lt
  have HAP := Aside0.mk hap
  clear hr1 ho1 hA1 HC hrow hap hso
  go_wp2_with fail
  go_loopw [5, 17] (fun v5 v17 wr => ∃ j : Nat, v17 = .int .i64 (j : Int) ∧ j ≤ so.length ∧ Aside0 (k27.R 27 wr w1.heap.size (fun _ => True) v5 ((so.take j).filter p)) ∧ Aside0 (Below w1.heap.size w1 wr)) (fun _ v17 _ => so.length - (intOf v17).toNat)
  case atStart => exact ⟨0, rfl, Nat.zero_le _, ⟨Kd.R_nil _ _ _ _ _⟩, ⟨Below.refl _ _⟩⟩
  case round =>
    obtain ⟨j, rfl, hj, HO, HB⟩ := hrel
    by_cases hlt : j < so.length
    · have q1 : decide ((j : Int) < (so.length : Int)) = true := decide_eq_true (by omega)
      have p0 : 0 ≤ (j : Int) := by omega
      have p1 : (j : Int) < (so.length : Int) := by omega
      have hrw : Row wr A' so := HROW.out.keep fun a ha => HB.out.block _ (HAP.out a ha)
      obtain ⟨ad, e1, x0, x1, x2, x3, x4⟩ := at_T27 hrw (j : Int) p0 p1
      cases e1
      have ej : rd_T27 so (j : Int) = so.getD j z27 := rfl
      have HEJ := Aside0.mk ej
      clear ej hrw
      obtain ⟨h, hh⟩ : ∃ h, rd_T27 so (j : Int) = h := ⟨_, rfl⟩
      rw [hh] at x0 x1 x2 x3 x4
      simp only [Int.toNat_natCast] at x0 x1 x2 x3 x4
      have HH := Aside0.mk hh
      clear hh
      replace p0 := eq_true p0
      replace p1 := eq_true p1
      have HC2 := Aside0.mk (HF.out h (wr.alloc (.cells #[.string h.f0, .int .i64 h.f1, .int .i64 h.f2, .string h.f3, .int .i64 h.f4] 27)) (fun i hi => by
        have h1 := HJ.out i hi
        have h2 := HO1.out.size
        have h3 := HB.out.size
        rw [Below.heap_alloc _ _ _ (by omega), HB.out.block i (by omega)]
        exact HO1.out.block i h1.1 h1.2))
      have hwn : wr.heap.size < (wr.alloc (.cells #[.string h.f0, .int .i64 h.f1, .int .i64 h.f2, .string h.f3, .int .i64 h.f4] 27)).heap.size := by simp
      have HWN := Aside0.mk hwn
      clear hwn
      go_wp2_with fail
      refine HC2.out.mono ?_
      rintro e w4 ⟨rfl, hb4⟩
      have HB4 := Aside0.mk (below_step (below_alloc HB.out _) hb4)
      have HO4 := Aside0.mk (Kd.R_below (Kd.R_alloc HO.out _) hb4)
      have hbk : w4.heap[wr.heap.size]? = some (.cells #[.string h.f0, .int .i64 h.f1, .int .i64 h.f2, .string h.f3, .int .i64 h.f4] 27 (0, 0)) := (hb4.block _ HWN.out).trans (heap_alloc_new _ _)
      have e0 : w4.cell? ⟨wr.heap.size, 0, none⟩ = some (.string h.f0) := cell_at hbk 0
      have e1 : w4.cell? ⟨wr.heap.size, 1, none⟩ = some (.int .i64 h.f1) := cell_at hbk 1
      have e2 : w4.cell? ⟨wr.heap.size, 2, none⟩ = some (.int .i64 h.f2) := cell_at hbk 2
      have e3 : w4.cell? ⟨wr.heap.size, 3, none⟩ = some (.string h.f3) := cell_at hbk 3
      have e4 : w4.cell? ⟨wr.heap.size, 4, none⟩ = some (.int .i64 h.f4) := cell_at hbk 4
      have hst := HSO.out
      have hts := take_snoc (p := p) hlt
      rw [← HEJ.out, HH.out] at hts
      have HTS := Aside0.mk hts
      clear hb4 hbk HC2 HB HO hst hts x0 x1 x2 x3 x4
      cases hp : p h with
      | false =>
        go_wp2
        go_roundw
        case rel => exact ⟨j + 1, by simp, by omega, ⟨by rw [HTS.out, hp]; exact HO4.out⟩, HB4⟩
        case measure => simp [intOf]; omega
      | true =>
        have hsz := HB4.out.size
        have hll : ((so.take j).filter p).length ≤ 100000 := Nat.le_trans (List.length_filter_le _ _) (by rw [List.length_take]; omega)
        have HSZ := Aside0.mk hsz
        have HLL := Aside0.mk hll
        clear hsz hll
        go_wp2_with (((with_reducible refine gate_builtin (b := .append) (xs := #[.tmp 24, .tmp 26]) rfl ?_); at_builtin; refine Kd.R_append k27 (w0 := w1) w1.heap.size rfl (.tmp 24) (.tmp 26) 23 27 (.agg #[(.string ⟨#[]⟩), (.int .i64 0), (.int .i64 0), (.string ⟨#[]⟩), (.int .i64 0)]) 56 rfl Try.underlying23 info27 rfl (by decide) (by omega) u5 ((so.take j).filter p) h (hcs h) (fun _ => True) (fun _ => False) rfl rfl ?aP (fun _ hk => hk.elim) ?aF ?aO ?aB ?aS ?aL ?_; (case aP => exact k27_mkM _ _ _ h); (case aB => exact HB4.out); (case aF => exact (fun _ _ => trivial)); (case aO => exact HO4.out); (case aS => exact HSZ.out); (case aL => have := HLL.out; omega); intro v6 w6 ho hb hg hat; have HO6 := Aside0.mk ho; have HB6 := Aside0.mk hb; clear ho hb hg hat))
        go_roundw
        case rel => exact ⟨j + 1, by simp, by omega, ⟨by rw [HTS.out, hp]; exact HO6.out⟩, HB6⟩
        case measure => simp [intOf]; omega
    · have hje : j = so.length := by omega
      subst hje
      have q1 : decide ((so.length : Int) < (so.length : Int)) = false := decide_eq_false (by omega)
      have q2 : so.take so.length = so := List.take_length
      have hO := HO.out
      rw [q2] at hO
      obtain ⟨A2, c2, rfl, hc2, hC2⟩ := Kd.R_reads hO
      have HO2 := Aside0.mk hO
      clear hO HO
      go_wp2
      go_ret
      rw [HSO.out]
      refine ⟨⟨A2, c2, ?_, hc2, hC2, fun a ha => ?_⟩, ⟨A', ?_, HA1.out⟩, ?_⟩
      · rfl
      · subst ha
        have h1 := Kd.R_lt HO2.out a.block rfl
        obtain ⟨inner, hown⟩ := Kd.R_own HO2.out
        exact ⟨Nat.le_trans HO1.out.size (hown.lt a.block rfl).1, h1⟩
      · exact HR1.out.keep_only (Below.only (F := fun j => w1.heap.size ≤ j) HB.out (fun j hj _ => hj)) (fun j hj hj2 => HR1.out.own_lt j hj hj2)
      · exact HO1.out.trans (Below.only HB.out (fun j hj hj2 => by omega))
end Go.Proofs.Ytfhgdjajifnfiaa.PA

namespace Go.Proofs.Ytfhgdjajifnfiaa.PA
open Go.RowKit Go.Maps Go.ChangeMaps Go.WideShapes Go.WideMaps Go.MuLone Go.Conc.Locks Go.Sort Go.Proofs.YtfhgdjajifnfiaaW.PrintWords Go.Proofs.YtfhgdjajifnfiaaW.PrintLast Go.Proofs.YtfhgdjajifnfiaaW.PrintMore
set_option linter.unusedVariables false

theorem Ans.over {b mb : Nat} {A : Option Addr} {m : Int} {L : List S27} {st : Int} {l : List S27} {w0 w : World} {e : Ending} {w' : World} (h : Ans b mb A m L st l w e w') (ho : Only (fun _ => False) w0 w) : Ans b mb A m L st l w0 e w' := by
  have hs := ho.size
  obtain ⟨A2, c, h1, h2, h3, h4⟩ := h.row
  obtain ⟨A', h5, h6⟩ := h.reg
  exact ⟨⟨A2, c, h1, h2, h3, fun a ha => ⟨Nat.le_trans hs (h4 a ha).1, (h4 a ha).2⟩⟩, ⟨A', h5, fun a ha => (h6 a ha).imp id (Nat.le_trans hs)⟩, (ho.imp fun _ _ x => x.elim).trans h.only⟩
theorem sorted_calls {b mb : Nat} {A : Option Addr} {m : Int} {L : List S27} {sl : Bool} {st : Int} (p : Int) (w : World) (hr : RegS b mb A m L sl st w) (hL : L.length ≤ 100000) :
    Calls Try.prog 16 #[.pointer (some ⟨b, 0, none⟩), .int .i64 p] w (Ans b mb A m L st ((srt m L).filter fun h => h.f1 == p) w) := by
  have hlt := hr.lt
  have h1 : RegS b mb A m L sl st (w.alloc (.cells #[.int .i64 p] 3)) := hr.keep_only (Only.alloc (F := fun _ => False) w _) (fun _ _ x => x)
  have HC := Aside0.mk (those_calls _ h1 hL 29 #[.pointer (some ⟨w.heap.size, 0, none⟩)] (fun h => h.f1 == p) (fun j => j = w.heap.size) (fun j hj => by subst hj; simp; omega) (enters_of Try.func29 (by kernel_rfl) rfl) (fun h W hW => sorted_is _ p h W ((World.cell?_of_block (a := ⟨w.heap.size, 0, none⟩) (hW _ rfl)).trans (cell_at (heap_alloc_new w _) 0))))
  clear hr h1
  go_enter Try.func16, Try.ntmps16
  go_wp2_with fail
  refine HC.out.mono ?_
  rintro e w' ha
  have hA := ha.over (Only.alloc _ _)
  obtain ⟨A2, c, rfl, -⟩ := ha.row
  have HA := Aside0.mk hA
  clear ha hA
  go_wp2
  go_ret
  exact HA.out
theorem for_calls {b mb : Nat} {A : Option Addr} {m : Int} {L : List S27} {sl : Bool} {st : Int} (p c : Int) (w : World) (hr : RegS b mb A m L sl st w) (hL : L.length ≤ 100000) :
    Calls Try.prog 19 #[.pointer (some ⟨b, 0, none⟩), .int .i64 p, .int .u8 c] w (Ans b mb A m L st ((srt m L).filter fun h => h.f1 == p && trig c h) w) := by
  have hlt := hr.lt
  have h1 : RegS b mb A m L sl st ((w.alloc (.cells #[.int .i64 p] 3)).alloc (.cells #[.int .u8 c] 5)) := hr.keep_only ((Only.alloc (F := fun _ => False) w _).trans (Only.alloc _ _)) (fun _ _ x => x)
  have HC := Aside0.mk (those_calls _ h1 hL 32 #[.pointer (some ⟨w.heap.size, 0, none⟩), .pointer (some ⟨w.heap.size + 1, 0, none⟩)] (fun h => h.f1 == p && trig c h) (fun j => j = w.heap.size ∨ j = w.heap.size + 1) (fun j hj => by rcases hj with rfl | rfl <;> simp <;> omega) (enters_of Try.func32 (by kernel_rfl) rfl) (fun h W hW => for_is _ _ p c h W ((World.cell?_of_block (a := ⟨w.heap.size, 0, none⟩) (hW _ (.inl rfl))).trans ((World.cell?_of_block (a := ⟨w.heap.size, 0, none⟩) (Below.heap_alloc _ _ _ (by simp))).trans (cell_at (heap_alloc_new w _) 0))) ((World.cell?_of_block (a := ⟨w.heap.size + 1, 0, none⟩) (hW _ (.inr rfl))).trans (by
    have h := heap_alloc_new (w.alloc (.cells #[.int .i64 p] 3)) (.cells #[.int .u8 c] 5)
    rw [World.size_alloc] at h
    exact cell_at h 0))))
  clear hr h1
  go_enter Try.func19, Try.ntmps19
  go_wp2_with fail
  refine HC.out.mono ?_
  rintro e w' ha
  have hA := ha.over ((Only.alloc _ _).trans (Only.alloc _ _))
  obtain ⟨A2, c, rfl, -⟩ := ha.row
  have HA := Aside0.mk hA
  clear ha hA
  go_wp2
  go_ret
  exact HA.out
/-- What Has leaves. -/
structure AnsB (b mb : Nat) (A : Option Addr) (m : Int) (L : List S27) (st : Int) (r : Bool) (w : World) (e : Ending) (w' : World) : Prop where
  ret : e = .returned (.bool r)
  reg : ∃ A', RegS b mb A' m L true st w' ∧ ∀ a, A' = some a → A' = A ∨ w.heap.size ≤ a.block
  only : Only (fun j => j = b) w w'
theorem has_calls {b mb : Nat} {A : Option Addr} {m : Int} {L : List S27} {sl : Bool} {st : Int} (n : ByteArray) (w : World) (hr : RegS b mb A m L sl st w) (hL : L.length ≤ 100000) :
    Calls Try.prog 20 #[.pointer (some ⟨b, 0, none⟩), .string n] w (AnsB b mb A m L st (decide (0 < ((srt m L).filter fun h => h.f0.toList == n.toList).length)) w) := by
  have hlt := hr.lt
  have h1 : RegS b mb A m L sl st (w.alloc (.cells #[.string n] 9)) := hr.keep_only (Only.alloc (F := fun _ => False) w _) (fun _ _ x => x)
  have HC := Aside0.mk (those_calls _ h1 hL 34 #[.pointer (some ⟨w.heap.size, 0, none⟩)] (fun h => h.f0.toList == n.toList) (fun j => j = w.heap.size) (fun j hj => by subst hj; simp; omega) (enters_of Try.func34 (by kernel_rfl) rfl) (fun h W hW => has_is _ n h W ((World.cell?_of_block (a := ⟨w.heap.size, 0, none⟩) (hW _ rfl)).trans (cell_at (heap_alloc_new w _) 0))))
  clear hr h1
  obtain ⟨l, hl⟩ : ∃ l, ((srt m L).filter fun h => h.f0.toList == n.toList) = l := ⟨_, rfl⟩
  rw [hl] at HC ⊢
  go_enter Try.func20, Try.ntmps20
  go_wp2_with fail
  refine HC.out.mono ?_
  rintro e w' ha
  have hA := ha.over (Only.alloc _ _)
  obtain ⟨A2, c, rfl, -⟩ := ha.row
  have HA := Aside0.mk hA
  clear ha hA
  go_wp2
  go_ret
  exact ⟨by simp, HA.out.reg, HA.out.only⟩
theorem Reg.set7 {b mb : Nat} {A : Option Addr} {m : Int} {L : List S27} {sl : Bool} {so : List S27} {st : Int} {w : World} (h : Reg b mb A m L sl so st w) (s : Int) : Reg b mb A m L sl so s (w.setCell ⟨b, 7, none⟩ (.int .i64 s)) := by
  have o : ∀ j, j ≠ 7 → (w.setCell ⟨b, 7, none⟩ (.int .i64 s)).cell? ⟨b, j, none⟩ = w.cell? ⟨b, j, none⟩ := fun j hj => World.cell?_setCell_other _ ⟨b, 7, none⟩ ⟨b, j, none⟩ _ (by intro e; apply hj; have h := congrArg Addr.off e; first | exact h | exact h.symm)
  have k1 : ∀ j, j ≠ b → (w.setCell ⟨b, 7, none⟩ (.int .i64 s)).heap[j]? = w.heap[j]? := fun j hj => Below.heap_setCell _ _ _ _ hj
  have hs : (w.setCell ⟨b, 7, none⟩ (.int .i64 s)).heap.size = w.heap.size := World.size_setCell _ _ _
  exact { lt := (by rw [hs]; exact h.lt), fz := fun j => (by simp; exact h.fz j), c0 := (o 0 (by decide)).trans h.c0, c1 := (o 1 (by decide)).trans h.c1, mp := ownsMap_keep h.mp (k1 mb h.ne), uq := h.uq, c2 := (o 2 (by decide)).trans h.c2, c3 := (o 3 (by decide)).trans h.c3, c5 := (o 5 (by decide)).trans h.c5, c6 := (by obtain ⟨c, e, hc⟩ := h.c6; exact ⟨c, (o 6 (by decide)).trans e, hc⟩), ro := h.ro.keep fun a ha => k1 a.block (h.na a ha).2.1, un := fun x => (o 6 (by decide)).trans (h.un x), c7 := World.cell?_setCell_same _ _ _ h.c7, ne := h.ne, na := fun a ha => (by rw [hs]; exact h.na a ha) }
def stp (st n : Int) : Int := if 0 < n then st + min n (4611686018427387904 - st) else st
set_option maxHeartbeats 1000000 in
set_option maxRecDepth 100000 in
/-- Step. -/
theorem step_calls {b mb : Nat} {A : Option Addr} {m : Int} {L : List S27} {sl : Bool} {so : List S27} {st : Int} (n : Int) (w : World) (hr : Reg b mb A m L sl so st w) (h0 : 0 ≤ st) (h1 : st ≤ 4611686018427387904) :
    Calls Try.prog 17 #[.pointer (some ⟨b, 0, none⟩), .int .i64 n] w fun e w' => e = .returned (.tuple #[]) ∧ Reg b mb A m L sl so (stp st n) w' ∧ Only (fun j => j = b) w w' := by
  unfold stp
  by_cases hn : 0 < n
  · have q : decide (0 < n) = true := decide_eq_true hn
    rw [if_pos hn]
    have hl := run_call_load (P := Try.prog) Try.func38 (by kernel_rfl) (by kernel_rfl) (by kernel_rfl) .i64 (by kernel_rfl) (w := w.drew) (a := ⟨b, 7, none⟩) (x := st) hr.c7
    have hadd := fun y => run_call_add (P := Try.prog) Try.func37 (by kernel_rfl) (by kernel_rfl) (by kernel_rfl) .i64 (by kernel_rfl) (w := w.drew) (a := ⟨b, 7, none⟩) (x := st) (y := y) (s := IntKind.i64.wrap (st + y)) hr.c7 (hr.fz 7) rfl
    have HR := Aside0.mk hr
    clear hr
    go_enter Try.func17, Try.ntmps17
    go_wp2
    go_region_calls
    all_goals
      go_end0
      exact ⟨rfl, (HR.out.set7 _).drew, (Only.set (F := fun j => j = b) w ⟨b, 7, none⟩ _ rfl).drew⟩
  · have q : decide (0 < n) = false := decide_eq_false hn
    rw [if_neg hn]
    have HR := Aside0.mk hr
    clear hr
    go_enter Try.func17, Try.ntmps17
    go_wp2
    go_end0
    exact ⟨rfl, HR.out, Only.refl _ _⟩
end Go.Proofs.Ytfhgdjajifnfiaa.PA

namespace Go.Proofs.Ytfhgdjajifnfiaa.PA
open Go.RowKit Go.Maps Go.ChangeMaps Go.WideShapes Go.WideMaps Go.MuLone Go.Conc.Locks Go.Sort Go.Proofs.YtfhgdjajifnfiaaW.PrintWords Go.Proofs.YtfhgdjajifnfiaaW.PrintLast Go.Proofs.YtfhgdjajifnfiaaW.PrintMore
set_option linter.unusedVariables false

theorem add_calls' {b mb : Nat} {A : Option Addr} {m : Int} {L : List S27} {st : Int} (h : S27) (w : World) (hr : RegS b mb A m L false st w) (hh : h.f0.size ≤ maxLen) (hL : L.length < maxLen) :
    Calls Try.prog 15 #[.pointer (some ⟨b, 0, none⟩), hv h] w fun e w' => e = .returned (.bool (addOk L h)) ∧ RegS b mb A m (if addOk L h then L ++ [h] else L) false st w' ∧ Only (Own3 b mb none) w w' := add_calls h w hr hh hL
theorem new_calls' (m : Int) (w : World) :
    Calls Try.prog 14 #[.int .i64 m] w fun e w' => e = .returned (.pointer (some ⟨w.heap.size + 1, 0, none⟩)) ∧ RegS (w.heap.size + 1) w.heap.size none (bits .and .i64 m 127) [] false 0 w' ∧ Below w.heap.size w w' := new_calls m w
abbrev hB1 : S27 := ⟨⟨#[98]⟩, 1, 1, ⟨#[]⟩, 0⟩
abbrev hA1 : S27 := ⟨⟨#[97]⟩, 1, 1, ⟨#[]⟩, 0⟩
abbrev hC1 : S27 := ⟨⟨#[99]⟩, 1, 0, ⟨#[]⟩, 0⟩
theorem awake_srt {L : List S27} (hL : L = [hB1, hA1, hC1]) (U : Uniq L) : (srt 0 L).filter (fun h => h.f1 == 1) = [hC1, hA1, hB1] := by
  subst hL
  have e : [hC1, hA1, hB1] = srt 0 [hB1, hA1, hC1] := by
    refine srt_eq U ?_ ?_
    · show List.Perm _ [hB1, hA1, hC1]
      exact (List.Perm.swap hA1 hC1 [hB1]).trans (((List.Perm.swap hB1 hC1 []).cons hA1).trans (List.Perm.swap hB1 hA1 [hC1]))
    · have h1 : ltH hC1 hA1 := .inl (by decide)
      have h2 : ltH hC1 hB1 := .inl (by decide)
      have h3 : ltH hA1 hB1 := .inr ⟨rfl, by rw [Lib.toList_data, Lib.toList_data]; decide⟩
      exact List.pairwise_cons.2 ⟨fun x hx => by rcases List.mem_cons.1 hx with rfl | hx; exact h1; rw [List.mem_singleton.1 hx]; exact h2, List.pairwise_cons.2 ⟨fun x hx => by rw [List.mem_singleton.1 hx]; exact h3, List.pairwise_singleton _ _⟩⟩
  rw [← e]
  rfl
set_option maxHeartbeats 2000000 in
set_option maxRecDepth 100000 in
theorem awake_calls (w : World) : Calls Try.prog 10 #[] w fun e w' => e = .returned (.bool true) ∧ Below w.heap.size w w' := by
  have hn := new_calls' 0 w
  have hb0 : bits .and .i64 0 127 = 0 := by decide
  rw [hb0] at hn
  have HN := Aside0.mk hn
  clear hn hb0
  go_enter Try.func10, Try.ntmps10
  go_wp2_with fail
  refine HN.out.mono ?_
  rintro e w1 ⟨rfl, hr1, hb1⟩
  have HB1 := Aside0.mk hb1
  have ha1 := add_calls' hB1 w1 hr1 (by decide) (by decide)
  rw [show addOk [] hB1 = true from by unfold addOk; rw [Lib.toList_data]; decide] at ha1
  have HA1 := Aside0.mk ha1
  clear ha1 hr1 hb1 HN
  go_wp2_with fail
  refine HA1.out.mono ?_
  rintro e w2 ⟨rfl, hr2, ho2⟩
  have hr2' : RegS (w.heap.size + 1) w.heap.size none 0 [hB1] false 0 w2 := hr2
  have HO2 := Aside0.mk ho2
  have ha2 := add_calls' hA1 w2 hr2' (by decide) (by decide)
  rw [show addOk [hB1] hA1 = true from by unfold addOk; rw [Lib.toList_data]; decide] at ha2
  have HA2 := Aside0.mk ha2
  clear ha2 hr2 hr2' ho2 HA1
  go_wp2_with fail
  refine HA2.out.mono ?_
  rintro e w3 ⟨rfl, hr3, ho3⟩
  have hr3' : RegS (w.heap.size + 1) w.heap.size none 0 [hB1, hA1] false 0 w3 := hr3
  have HO3 := Aside0.mk ho3
  have ha3 := add_calls' hC1 w3 hr3' (by decide) (by decide)
  rw [show addOk [hB1, hA1] hC1 = true from by unfold addOk; rw [Lib.toList_data]; decide] at ha3
  have HA3 := Aside0.mk ha3
  clear ha3 hr3 hr3' ho3 HA2
  go_wp2_with fail
  refine HA3.out.mono ?_
  rintro e w4 ⟨rfl, hr4, ho4⟩
  have hr4' : RegS (w.heap.size + 1) w.heap.size none 0 [hB1, hA1, hC1] false 0 w4 := hr4
  have HO4 := Aside0.mk ho4
  have hs := sorted_calls 1 w4 hr4' (by decide)
  rw [awake_srt rfl hr4'.uq] at hs
  have HS := Aside0.mk hs
  clear hs hr4 hr4' ho4 HA3
  go_wp2_with fail
  refine HS.out.mono ?_
  rintro e w5 ha
  obtain ⟨A2, c, rfl, hc, hrow, -⟩ := ha.row
  have HO5 := Aside0.mk ha.only
  obtain ⟨ad, e0, x0, -⟩ := at_T27 hrow 0 (by decide) (by decide)
  cases e0
  obtain ⟨ad', e0, x1, -⟩ := at_T27 hrow 1 (by decide) (by decide)
  cases e0
  obtain ⟨ad', e0, x2, -⟩ := at_T27 hrow 2 (by decide) (by decide)
  cases e0
  have y0 : w5.cell? ad = some (.string ⟨#[99]⟩) := by have h := x0; rw [show (Int.toNat 0) * 5 = 0 from rfl, show ad.add 0 = ad from rfl] at h; exact h
  have y1 : w5.cell? ⟨ad.block, ad.off + 5, none⟩ = some (.string ⟨#[97]⟩) := x1
  have y2 : w5.cell? ⟨ad.block, ad.off + 10, none⟩ = some (.string ⟨#[98]⟩) := x2
  have HC := Aside0.mk (fun W => registry_Core.calls _ W rfl)
  have hsz := HB1.out.size
  have HF := Aside0.mk (show Below w.heap.size w w5 from by
    have o2 := HO2.out.below (B := w.heap.size) hsz (fun j hj => by rcases hj with rfl | rfl | ⟨a, ha, _⟩; omega; omega; cases ha)
    have s2 := o2.size
    have o3 := HO3.out.below (B := w.heap.size) (by omega) (fun j hj => by rcases hj with rfl | rfl | ⟨a, ha, _⟩; omega; omega; cases ha)
    have s3 := o3.size
    have o4 := HO4.out.below (B := w.heap.size) (by omega) (fun j hj => by rcases hj with rfl | rfl | ⟨a, ha, _⟩; omega; omega; cases ha)
    have s4 := o4.size
    have o5 := HO5.out.below (B := w.heap.size) (by omega) (fun j hj => by rw [hj]; omega)
    exact (((HB1.out.trans o2).trans o3).trans o4).trans o5)
  clear ha hrow x0 x1 x2 HS hsz
  go_wp2_with fail
  refine (HC.out _).mono ?_
  rintro e w6 ⟨v0, rfl, hR, hb6⟩
  obtain ⟨A6, c6, rfl⟩ := Kd.R_slice hR
  have HF6 := Aside0.mk (below_step HF.out hb6)
  clear hR hb6 HC
  go_wp2
  go_ret
  exact ⟨rfl, HF6.out⟩
end Go.Proofs.Ytfhgdjajifnfiaa.PA

namespace Go.Proofs.Ytfhgdjajifnfiaa.PA
open Go.RowKit Go.Maps Go.ChangeMaps Go.WideShapes Go.WideMaps Go.MuLone Go.Conc.Locks Go.Sort Go.Proofs.YtfhgdjajifnfiaaW.PrintWords Go.Proofs.YtfhgdjajifnfiaaW.PrintLast Go.Proofs.YtfhgdjajifnfiaaW.PrintMore
set_option linter.unusedVariables false

theorem wrap_nat64 (n : Nat) (h : n < 18446744073709551616) : IntKind.i64.wrap (n : Int) = if n < 9223372036854775808 then (n : Int) else (n : Int) - 18446744073709551616 := by
  rw [IntKind.wrap_i64]
  split <;> omega
theorem bits_and_le (x m : Int) (h0 : 0 ≤ m) (h1 : m < 9223372036854775808) : 0 ≤ bits .and .i64 x m ∧ bits .and .i64 x m ≤ m := by
  have hm : (BitVec.ofInt 64 m).toNat = m.toNat := by
    rw [BitVec.toNat_ofInt]
    simp only [Nat.reducePow]
    omega
  have hle : (BitVec.ofInt 64 x &&& BitVec.ofInt 64 m).toNat ≤ m.toNat := by
    rw [BitVec.toNat_and, hm]
    exact Nat.and_le_right
  show 0 ≤ IntKind.i64.wrap ((BitVec.ofInt 64 x &&& BitVec.ofInt 64 m).toNat : Int) ∧ IntKind.i64.wrap ((BitVec.ofInt 64 x &&& BitVec.ofInt 64 m).toNat : Int) ≤ m
  rw [wrap_nat64 _ (by omega), if_pos (by omega)]
  omega
end Go.Proofs.Ytfhgdjajifnfiaa.PA

namespace Go.Proofs.Ytfhgdjajifnfiaa.PA
open Go.RowKit Go.Proofs.YtfhgdjajifnfiaaW.PrintWords Go.Proofs.YtfhgdjajifnfiaaW.PrintLast Go.Proofs.YtfhgdjajifnfiaaW.PrintMore
set_option linter.unusedVariables false

theorem toList_inj {a b : ByteArray} (h : a.toList = b.toList) : a = b := by
  rw [Lib.toList_data, Lib.toList_data] at h
  exact bytes_inj h
theorem s27_ext {x y : S27} (h0 : x.f0.toList = y.f0.toList) (h1 : x.f1 = y.f1) (h2 : x.f2 = y.f2) (h3 : x.f3.toList = y.f3.toList) (h4 : x.f4 = y.f4) : x = y := by
  cases x; cases y
  simp only at h0 h1 h2 h3 h4
  rw [toList_inj h0, toList_inj h3, h1, h2, h4]
theorem same_loop (l l' : List S27) (hl : l.length = l'.length) (hm : l.length < 4611686018427387904) : ∀ n i : Nat, i + n = l.length → ∃ r, incipitref07_Same.l0 (n + 1) l l' (i : Int) = some r ∧ (r = true ↔ l.drop i = l'.drop i)
  | 0, i, h => by
    refine ⟨true, ?_, ?_⟩
    · rw [incipitref07_Same.l0, if_neg (by omega)]
    · rw [List.drop_eq_nil_of_le (by omega), List.drop_eq_nil_of_le (by omega)]
      simp
  | n + 1, i, h => by
    have hi : i < l.length := by omega
    have hi' : i < l'.length := by omega
    have e1 : rd_T27 l (i : Int) = l[i] := by unfold rd_T27; rw [Int.toNat_natCast, List.getD_eq_getElem?_getD, List.getElem?_eq_getElem hi]; rfl
    have e2 : rd_T27 l' (i : Int) = l'[i] := by unfold rd_T27; rw [Int.toNat_natCast, List.getD_eq_getElem?_getD, List.getElem?_eq_getElem hi']; rfl
    have hw : wrap64 ((i : Int) + 1) = ((i + 1 : Nat) : Int) := by unfold wrap64; omega
    obtain ⟨r, h1, h2⟩ := same_loop l l' hl hm n (i + 1) (by omega)
    rw [incipitref07_Same.l0, if_pos (by omega), if_pos (by omega), if_pos (by omega), e1, e2, hw, List.drop_eq_getElem_cons hi, List.drop_eq_getElem_cons hi']
    by_cases c0 : l[i].f0.toList = l'[i].f0.toList
    · rw [if_pos c0]
      by_cases c1 : l[i].f1 = l'[i].f1
      · rw [if_pos c1]
        by_cases c2 : l[i].f2 = l'[i].f2
        · rw [if_pos c2]
          by_cases c3 : l[i].f3.toList = l'[i].f3.toList
          · rw [if_pos c3]
            by_cases c4 : l[i].f4 = l'[i].f4
            · rw [if_pos c4]
              refine ⟨r, h1, h2.trans ?_⟩
              rw [s27_ext c0 c1 c2 c3 c4]
              exact ⟨fun e => by rw [e], fun e => (List.cons.inj e).2⟩
            · rw [if_neg c4]
              exact ⟨false, rfl, ⟨fun e => (by cases e), fun e => absurd (congrArg S27.f4 (List.cons.inj e).1) c4⟩⟩
          · rw [if_neg c3]
            exact ⟨false, rfl, ⟨fun e => (by cases e), fun e => absurd (congrArg (fun z : S27 => z.f3.toList) (List.cons.inj e).1) c3⟩⟩
        · rw [if_neg c2]
          exact ⟨false, rfl, ⟨fun e => (by cases e), fun e => absurd (congrArg S27.f2 (List.cons.inj e).1) c2⟩⟩
      · rw [if_neg c1]
        exact ⟨false, rfl, ⟨fun e => (by cases e), fun e => absurd (congrArg S27.f1 (List.cons.inj e).1) c1⟩⟩
    · rw [if_neg c0]
      exact ⟨false, rfl, ⟨fun e => (by cases e), fun e => absurd (congrArg (fun z : S27 => z.f0.toList) (List.cons.inj e).1) c0⟩⟩
theorem same_ev (l l' : List S27) (hm : l.length < 4611686018427387904) : ∃ k r, incipitlaw07_same.f k l l' = some r ∧ (r = true ↔ l = l') := by
  by_cases hl : l.length = l'.length
  · obtain ⟨r, h1, h2⟩ := same_loop l l' hl hm l.length 0 (by omega)
    refine ⟨l.length + 1, r, ?_, by simpa using h2⟩
    unfold incipitlaw07_same.f incipitref07_Same.f
    rw [if_pos (by omega)]
    show (incipitref07_Same.l0 _ l l' ((0 : Nat) : Int)).bind _ = _
    rw [h1]
    rfl
  · refine ⟨0, false, ?_, by simp; intro e; exact hl (by rw [e])⟩
    unfold incipitlaw07_same.f incipitref07_Same.f
    rw [if_neg (by omega)]
    rfl
/-- same, at two rows. -/
theorem same_calls {A0 A1 : Option Addr} {c0 c1 : Nat} {l0 l1 : List S27} (w : World) (h0 : Row w A0 l0) (hc0 : l0.length ≤ c0) (h1 : Row w A1 l1) (hc1 : l1.length ≤ c1) (hm : l0.length < 4611686018427387904) :
    Calls Try.prog 12 #[.slice A0 l0.length c0, .slice A1 l1.length c1] w fun e w' => ∃ r, e = .returned (.bool r) ∧ (r = true ↔ l0 = l1) ∧ Drawn0 w w' := by
  obtain ⟨k, r, h, hr⟩ := same_ev l0 l1 hm
  refine (incipitlaw07_same.calls k A0 c0 l0 A1 c1 l1 r w h0 hc0 h1 hc1 h).mono ?_
  rintro e w' ⟨rfl, hd⟩
  exact ⟨r, rfl, hr, hd⟩
theorem same_true {A0 A1 : Option Addr} {c0 c1 : Nat} {l0 l1 : List S27} (w : World) (h0 : Row w A0 l0) (hc0 : l0.length ≤ c0) (h1 : Row w A1 l1) (hc1 : l1.length ≤ c1) (hm : l0.length < 4611686018427387904) (he : l0 = l1) :
    Calls Try.prog 12 #[.slice A0 l0.length c0, .slice A1 l1.length c1] w fun e w' => e = .returned (.bool true) ∧ Drawn0 w w' := by
  refine (same_calls w h0 hc0 h1 hc1 hm).mono ?_
  rintro e w' ⟨r, rfl, hr, hd⟩
  rw [hr.2 he]
  exact ⟨rfl, hd⟩
end Go.Proofs.Ytfhgdjajifnfiaa.PA

namespace Go.Proofs.Ytfhgdjajifnfiaa.PA
open Go.RowKit Go.Maps Go.ChangeMaps Go.WideShapes Go.WideMaps Go.MuLone Go.Conc.Locks Go.Sort Go.Proofs.YtfhgdjajifnfiaaW.PrintWords Go.Proofs.YtfhgdjajifnfiaaW.PrintLast Go.Proofs.YtfhgdjajifnfiaaW.PrintMore
set_option linter.unusedVariables false

theorem Only.bel {B b : Nat} {w0 w w' : World} (h : Below B w0 w) (ho : Only (fun j => j = b) w w') (hb : B ≤ b) (hB : B ≤ w0.heap.size) : Below B w0 w' :=
  h.trans (ho.below (Nat.le_trans hB h.size) (fun j hj => by rw [hj]; exact hb))
theorem Only.bel3 {B b mb : Nat} {w0 w w' : World} (h : Below B w0 w) (ho : Only (Own3 b mb none) w w') (hb : B ≤ b) (hm : B ≤ mb) (hB : B ≤ w0.heap.size) : Below B w0 w' :=
  h.trans (ho.below (Nat.le_trans hB h.size) (fun j hj => by rcases hj with rfl | rfl | ⟨_, x, _⟩; exact hb; exact hm; cases x))
theorem Drawn0.bel {B : Nat} {w0 w w' : World} (h : Below B w0 w) (hd : Drawn0 w w') : Below B w0 w' := by
  obtain ⟨m, rfl⟩ := hd
  exact ⟨h.os, h.tape, h.output, h.size, h.block⟩
/-- A registry whose blocks are not another's is not turned with it. -/
theorem Reg.apart {b mb b2 mb2 : Nat} {A : Option Addr} {m : Int} {L : List S27} {sl : Bool} {so : List S27} {st : Int} {w w' : World} (h : Reg b mb A m L sl so st w) (ho : Only (Own3 b2 mb2 none) w w') (h1 : b ≠ b2) (h2 : b ≠ mb2) (h3 : mb ≠ b2) (h4 : mb ≠ mb2) (h5 : ∀ a, A = some a → a.block ≠ b2 ∧ a.block ≠ mb2) : Reg b mb A m L sl so st w' :=
  h.keep_only ho fun j hj hj2 => by
    rcases hj with rfl | rfl | ⟨a, ha, rfl⟩ <;> rcases hj2 with x | x | ⟨_, x, _⟩
    · exact h1 x
    · exact h2 x
    · cases x
    · exact h3 x
    · exact h4 x
    · cases x
    · exact (h5 a ha).1 x
    · exact (h5 a ha).2 x
    · cases x
theorem Reg.apart1 {b mb b2 : Nat} {A : Option Addr} {m : Int} {L : List S27} {sl : Bool} {so : List S27} {st : Int} {w w' : World} (h : Reg b mb A m L sl so st w) (ho : Only (fun j => j = b2) w w') (h1 : b ≠ b2) (h3 : mb ≠ b2) (h5 : ∀ a, A = some a → a.block ≠ b2) : Reg b mb A m L sl so st w' :=
  h.keep_only ho fun j hj hj2 => by
    rcases hj with rfl | rfl | ⟨a, ha, rfl⟩
    · exact h1 hj2
    · exact h3 hj2
    · exact h5 a ha hj2
end Go.Proofs.Ytfhgdjajifnfiaa.PA

namespace Go.Proofs.Ytfhgdjajifnfiaa.PA
open Go.RowKit Go.Maps Go.ChangeMaps Go.WideShapes Go.WideMaps Go.MuLone Go.Conc.Locks Go.Sort Go.Proofs.YtfhgdjajifnfiaaW.PrintWords Go.Proofs.YtfhgdjajifnfiaaW.PrintLast Go.Proofs.YtfhgdjajifnfiaaW.PrintMore
set_option linter.unusedVariables false

theorem Reg.drewN {b mb : Nat} {A : Option Addr} {m : Int} {L : List S27} {sl : Bool} {so : List S27} {st : Int} {w : World} (h : Reg b mb A m L sl so st w) (n : Nat) : Reg b mb A m L sl so st (w.drewN n) := h.keep (Nat.le_refl _) fun _ _ => rfl
theorem Row.drewN {w : World} {A : Option Addr} {l : List S27} (h : Row w A l) (n : Nat) : Row (w.drewN n) A l := h.keep fun _ _ => rfl
theorem below_drewN {B : Nat} {w0 w : World} (h : Below B w0 w) (n : Nat) : Below B w0 (w.drewN n) := ⟨h.os, h.tape, h.output, h.size, h.block⟩
theorem rd_get {l : List S27} {j : Nat} (hj : j < l.length) : rd_T27 l (j : Int) = l[j] := by
  unfold rd_T27
  rw [Int.toNat_natCast, List.getD_eq_getElem?_getD, List.getElem?_eq_getElem hj]
  rfl
/-- A sealed registry, two rows beside it. -/
structure Hld (b mb : Nat) (m : Int) (L : List S27) (A2 A3 : Option Addr) (s f : List S27) (w0 w : World) : Prop where
  reg : ∃ Aq, RegS b mb Aq m L true 0 w
  bel : Below w0.heap.size w0 w
  r2 : Row w A2 s
  r3 : Row w A3 f
  n2 : ∀ a, A2 = some a → b < a.block ∧ a.block < w.heap.size
  n3 : ∀ a, A3 = some a → b < a.block ∧ a.block < w.heap.size
theorem Hld.drewN {b mb : Nat} {m : Int} {L : List S27} {A2 A3 : Option Addr} {s f : List S27} {w0 w : World} (h : Hld b mb m L A2 A3 s f w0 w) (n : Nat) : Hld b mb m L A2 A3 s f w0 (w.drewN n) :=
  ⟨by obtain ⟨Aq, hq⟩ := h.reg; exact ⟨Aq, hq.drewN n⟩, below_drewN h.bel n, h.r2.drewN n, h.r3.drewN n, h.n2, h.n3⟩
theorem Hld.only {b mb : Nat} {m : Int} {L : List S27} {A2 A3 : Option Addr} {s f : List S27} {w0 w w' : World} (h : Hld b mb m L A2 A3 s f w0 w) (hr : ∃ Aq, RegS b mb Aq m L true 0 w') (ho : Only (fun j => j = b) w w') (hb : w0.heap.size ≤ b) : Hld b mb m L A2 A3 s f w0 w' :=
  ⟨hr, Only.bel h.bel ho hb (Nat.le_refl _), h.r2.keep fun a h2 => ho.block _ (h.n2 a h2).2 (by have := h.n2 a h2; omega), h.r3.keep fun a h2 => ho.block _ (h.n3 a h2).2 (by have := h.n3 a h2; omega),
   fun a h2 => ⟨(h.n2 a h2).1, Nat.lt_of_lt_of_le (h.n2 a h2).2 ho.size⟩, fun a h2 => ⟨(h.n3 a h2).1, Nat.lt_of_lt_of_le (h.n3 a h2).2 ho.size⟩⟩
end Go.Proofs.Ytfhgdjajifnfiaa.PA

namespace Go.Proofs.Ytfhgdjajifnfiaa.PA
open Go.RowKit Go.Maps Go.ChangeMaps Go.WideShapes Go.WideMaps Go.MuLone Go.Conc.Locks Go.Sort Go.Proofs.YtfhgdjajifnfiaaW.PrintWords Go.Proofs.YtfhgdjajifnfiaaW.PrintLast Go.Proofs.YtfhgdjajifnfiaaW.PrintMore
set_option linter.unusedVariables false

/-- Add, sealed. -/
theorem add_sealed {b mb : Nat} {A : Option Addr} {m : Int} {L : List S27} {so : List S27} {st : Int} (h : S27) (w : World) (hr : Reg b mb A m L true so st w) :
    Calls Try.prog 15 #[.pointer (some ⟨b, 0, none⟩), hv h] w fun e w' => e = .returned (.bool false) ∧ Below w.heap.size w w' := by
  have hlt := hr.lt
  have k5 : ∀ o : Obj, (w.alloc o).cell? ⟨b, 5, none⟩ = some (.bool true) := fun o => (World.cell?_of_block (w := w) (a := ⟨b, 5, none⟩) (Below.heap_alloc _ _ _ hlt)).trans hr.c5
  clear hr
  go_enter Try.func15, Try.ntmps15
  go_wp2
  go_ret
  exact ⟨rfl, (Below.refl _ _).alloc (Nat.le_refl _) _⟩
/-- A row of one's own survives what turns only older blocks. -/
theorem R_only {F : Nat → Prop} {w w' : World} {base : Nat} {v : Value} {xs : List S27} (h : k27.R 27 w base (fun k => base ≤ k) v xs) (ho : Only F w w') (hF : ∀ j, F j → j < base) : k27.R 27 w' base (fun k => base ≤ k) v xs :=
  Kd.R_step h fun k hk hlt => ho.block k hlt fun x => by have := hF k x; have hk2 : base ≤ k := hk; omega
theorem Row.only {F : Nat → Prop} {w w' : World} {A : Option Addr} {l : List S27} (h : Row w A l) (ho : Only F w w') (hF : ∀ a, A = some a → a.block < w.heap.size ∧ ¬ F a.block) : Row w' A l := h.keep fun a ha => ho.block a.block (hF a ha).1 (hF a ha).2
/-- A hook that may be added next. -/
theorem addOk_next {L Lt M : List S27} (U : Uniq L) (hne : ∀ x ∈ L, x.f0.toList.isEmpty = false) (hp : (Lt ++ M).Perm L) {p : Nat} (hlt : p < M.length) : addOk Lt M[p] = true := by
  have hm : M[p] ∈ L := hp.mem_iff.1 (List.mem_append.2 (.inr (List.getElem_mem hlt)))
  have hu : (Lt ++ M).Pairwise fun x y => x.f0 ≠ y.f0 := (hp.pairwise_iff (fun {x y} a => Ne.symm a)).2 U.ne
  have h2 := (List.pairwise_append.1 hu).2.2
  unfold addOk
  rw [hne _ hm]
  have h3 : (Lt.any fun x => decide (x.f0 = M[p].f0)) = false := List.any_eq_false.2 fun x hx => by
    have := h2 x hx M[p] (List.getElem_mem hlt)
    simp [this]
  rw [h3]
  rfl
theorem perm_next {L Lt M : List S27} (hp : (Lt ++ M).Perm L) {p : Nat} (hlt : p < M.length) : ((Lt ++ [M[p]]) ++ (M.take p ++ M.drop (p + 1))).Perm L := by
  refine List.Perm.trans ?_ hp
  rw [List.append_assoc]
  refine List.Perm.append_left Lt ?_
  have h1 : M = M.take p ++ (M[p] :: M.drop (p + 1)) := by
    rw [← List.drop_eq_getElem_cons hlt, List.take_append_drop]
  refine List.Perm.trans ?_ (List.Perm.of_eq h1.symm)
  exact (List.perm_middle (a := M[p]) (l₁ := M.take p) (l₂ := M.drop (p + 1))).symm
theorem perm_uniq {L Lt : List S27} (U : Uniq L) (hp : Lt.Perm L) : Uniq Lt := ⟨(hp.pairwise_iff (fun {x y} a => Ne.symm a)).2 U.ne, fun h hh => U.le h (hp.mem_iff.1 hh)⟩
theorem srt_same {m : Int} {L Lt : List S27} (U : Uniq L) (hp : Lt.Perm L) : srt m Lt = srt m L :=
  srt_eq U ((srt_perm m Lt).trans (hp.filter _)) (srt_pw (perm_uniq U hp))
end Go.Proofs.Ytfhgdjajifnfiaa.PA

namespace Go.Proofs.Ytfhgdjajifnfiaa.PA
open Go.RowKit Go.Maps Go.ChangeMaps Go.WideShapes Go.WideMaps Go.MuLone Go.Conc.Locks Go.Sort Go.Proofs.YtfhgdjajifnfiaaW.PrintWords Go.Proofs.YtfhgdjajifnfiaaW.PrintLast Go.Proofs.YtfhgdjajifnfiaaW.PrintMore
set_option linter.unusedVariables false

/-- Where two registries lie. -/
structure Lie (b mb b2 mb2 : Nat) (w0 : World) : Prop where
  g1 : w0.heap.size ≤ mb
  g2 : mb < b
  g3 : b < mb2
  g4 : mb2 < b2
structure Two (b mb b2 mb2 : Nat) (mk : Int) (L Lt : List S27) (s1 s2 : Bool) (w0 W : World) : Prop where
  r : ∃ Ar, RegS b mb Ar mk L s1 0 W ∧ ∀ a, Ar = some a → b2 < a.block
  t : ∃ At, RegS b2 mb2 At mk Lt s2 0 W ∧ ∀ a, At = some a → b2 < a.block
  bel : Below w0.heap.size w0 W
/-- What a question at one of two leaves. -/
structure TwoA (b mb b2 mb2 : Nat) (mk : Int) (L Lt : List S27) (s1 s2 : Bool) (l : List S27) (w0 W : World) (e : Ending) (w' : World) : Prop where
  row : ∃ A2 c, e = .returned (.slice A2 l.length c) ∧ l.length ≤ c ∧ Row w' A2 l ∧ ∀ a, A2 = some a → b2 < a.block ∧ a.block < w'.heap.size
  two : Two b mb b2 mb2 mk L Lt s1 s2 w0 w'
  only : Only (fun j => j = b ∨ j = b2) W w'
structure TwoB (b mb b2 mb2 : Nat) (mk : Int) (L Lt : List S27) (s1 s2 : Bool) (x : Bool) (w0 W : World) (e : Ending) (w' : World) : Prop where
  ret : e = .returned (.bool x)
  two : Two b mb b2 mb2 mk L Lt s1 s2 w0 w'
  only : Only (fun j => j = b ∨ j = b2) W w'
section
variable {b mb b2 mb2 : Nat} {mk : Int} {L Lt : List S27} {s1 s2 : Bool} {w0 W : World}
theorem Two.same (h : Two b mb b2 mb2 mk L Lt s1 s2 w0 W) {W' : World} (ho : W'.os = W.os) (ht : W'.tape = W.tape) (hu : W'.output = W.output) (hh : W'.heap = W.heap) : Two b mb b2 mb2 mk L Lt s1 s2 w0 W' := by
  obtain ⟨Ar, h1, h2⟩ := h.r
  obtain ⟨At, h3, h4⟩ := h.t
  have hk : ∀ j : Nat, W'.heap[j]? = W.heap[j]? := fun j => by rw [hh]
  exact ⟨⟨Ar, h1.keep (by rw [hh]; exact Nat.le_refl _) fun j _ => hk j, h2⟩, ⟨At, h3.keep (by rw [hh]; exact Nat.le_refl _) fun j _ => hk j, h4⟩, ⟨ho.trans h.bel.os, ht.trans h.bel.tape, hu.trans h.bel.output, by rw [hh]; exact h.bel.size, fun j hj => (hk j).trans (h.bel.block j hj)⟩⟩
theorem Two.drewN (h : Two b mb b2 mb2 mk L Lt s1 s2 w0 W) (n : Nat) : Two b mb b2 mb2 mk L Lt s1 s2 w0 (W.drewN n) := h.same rfl rfl rfl rfl
theorem Two.drew (h : Two b mb b2 mb2 mk L Lt s1 s2 w0 W) : Two b mb b2 mb2 mk L Lt s1 s2 w0 W.drew := h.same rfl rfl rfl rfl
theorem two_r (hl : Lie b mb b2 mb2 w0) (h : Two b mb b2 mb2 mk L Lt s1 s2 w0 W) {Ar : Option Addr} (hA : ∀ a, Ar = some a → b2 < a.block) (hs : b2 < W.heap.size) {A' : Option Addr} {w' : World} (hr : RegS b mb A' mk L true 0 w') (hA' : ∀ a, A' = some a → A' = Ar ∨ W.heap.size ≤ a.block) (ho : Only (fun j => j = b) W w') : Two b mb b2 mb2 mk L Lt true s2 w0 w' := by
  obtain ⟨At, h3, h4⟩ := h.t
  have g1 := hl.g1; have g2 := hl.g2; have g3 := hl.g3; have g4 := hl.g4
  refine ⟨⟨A', hr, fun a ha => ?_⟩, ⟨At, h3.apart1 ho (by omega) (by omega) fun a ha => by have := h4 a ha; omega, h4⟩, Only.bel h.bel ho (by omega) (Nat.le_refl _)⟩
  rcases hA' a ha with e | e
  · exact hA a (e ▸ ha)
  · omega
theorem two_t (hl : Lie b mb b2 mb2 w0) (h : Two b mb b2 mb2 mk L Lt s1 s2 w0 W) {At : Option Addr} (hA : ∀ a, At = some a → b2 < a.block) (hs : b2 < W.heap.size) {A' : Option Addr} {w' : World} (hr : RegS b2 mb2 A' mk Lt true 0 w') (hA' : ∀ a, A' = some a → A' = At ∨ W.heap.size ≤ a.block) (ho : Only (fun j => j = b2) W w') : Two b mb b2 mb2 mk L Lt s1 true w0 w' := by
  obtain ⟨Ar, h3, h4⟩ := h.r
  have g1 := hl.g1; have g2 := hl.g2; have g3 := hl.g3; have g4 := hl.g4
  refine ⟨⟨Ar, h3.apart1 ho (by omega) (by omega) fun a ha => by have := h4 a ha; omega, h4⟩, ⟨A', hr, fun a ha => ?_⟩, Only.bel h.bel ho (by omega) (Nat.le_refl _)⟩
  rcases hA' a ha with e | e
  · exact hA a (e ▸ ha)
  · omega
theorem two_ansR (hl : Lie b mb b2 mb2 w0) (h : Two b mb b2 mb2 mk L Lt s1 s2 w0 W) {Ar : Option Addr} (hA : ∀ a, Ar = some a → b2 < a.block) {l : List S27} {e : Ending} {w' : World} (ha : Ans b mb Ar mk L 0 l W e w') : TwoA b mb b2 mb2 mk L Lt true s2 l w0 W e w' := by
  obtain ⟨At, h3, _⟩ := h.t
  have hs := h3.lt
  obtain ⟨A', hr, hA'⟩ := ha.reg
  obtain ⟨A2, c, e1, e2, e3, e4⟩ := ha.row
  exact ⟨⟨A2, c, e1, e2, e3, fun a h2 => by have := e4 a h2; omega⟩, two_r hl h hA hs hr hA' ha.only, ha.only.imp fun j _ x => .inl x⟩
theorem two_ansT (hl : Lie b mb b2 mb2 w0) (h : Two b mb b2 mb2 mk L Lt s1 s2 w0 W) {At : Option Addr} (hA : ∀ a, At = some a → b2 < a.block) {l : List S27} {e : Ending} {w' : World} (ha : Ans b2 mb2 At mk Lt 0 l W e w') : TwoA b mb b2 mb2 mk L Lt s1 true l w0 W e w' := by
  obtain ⟨A0, h3, _⟩ := h.t
  have hs := h3.lt
  obtain ⟨A', hr, hA'⟩ := ha.reg
  obtain ⟨A2, c, e1, e2, e3, e4⟩ := ha.row
  exact ⟨⟨A2, c, e1, e2, e3, fun a h2 => by have := e4 a h2; omega⟩, two_t hl h hA hs hr hA' ha.only, ha.only.imp fun j _ x => .inr x⟩
theorem sorted_r (hl : Lie b mb b2 mb2 w0) (h : Two b mb b2 mb2 mk L Lt s1 s2 w0 W) (hL : L.length ≤ 100000) (p : Int) : Calls Try.prog 16 #[.pointer (some ⟨b, 0, none⟩), .int .i64 p] W (TwoA b mb b2 mb2 mk L Lt true s2 ((srt mk L).filter fun h => h.f1 == p) w0 W) := by
  obtain ⟨Ar, h1, h2⟩ := h.r
  exact (sorted_calls p W h1 hL).mono fun e w' ha => two_ansR hl h h2 ha
theorem sorted_t (hl : Lie b mb b2 mb2 w0) (h : Two b mb b2 mb2 mk L Lt s1 s2 w0 W) (hL : Lt.length ≤ 100000) (p : Int) : Calls Try.prog 16 #[.pointer (some ⟨b2, 0, none⟩), .int .i64 p] W (TwoA b mb b2 mb2 mk L Lt s1 true ((srt mk Lt).filter fun h => h.f1 == p) w0 W) := by
  obtain ⟨Ar, h1, h2⟩ := h.t
  exact (sorted_calls p W h1 hL).mono fun e w' ha => two_ansT hl h h2 ha
theorem for_r (hl : Lie b mb b2 mb2 w0) (h : Two b mb b2 mb2 mk L Lt s1 s2 w0 W) (hL : L.length ≤ 100000) (p c : Int) : Calls Try.prog 19 #[.pointer (some ⟨b, 0, none⟩), .int .i64 p, .int .u8 c] W (TwoA b mb b2 mb2 mk L Lt true s2 ((srt mk L).filter fun h => h.f1 == p && trig c h) w0 W) := by
  obtain ⟨Ar, h1, h2⟩ := h.r
  exact (for_calls p c W h1 hL).mono fun e w' ha => two_ansR hl h h2 ha
theorem for_t (hl : Lie b mb b2 mb2 w0) (h : Two b mb b2 mb2 mk L Lt s1 s2 w0 W) (hL : Lt.length ≤ 100000) (p c : Int) : Calls Try.prog 19 #[.pointer (some ⟨b2, 0, none⟩), .int .i64 p, .int .u8 c] W (TwoA b mb b2 mb2 mk L Lt s1 true ((srt mk Lt).filter fun h => h.f1 == p && trig c h) w0 W) := by
  obtain ⟨Ar, h1, h2⟩ := h.t
  exact (for_calls p c W h1 hL).mono fun e w' ha => two_ansT hl h h2 ha
theorem has_r (hl : Lie b mb b2 mb2 w0) (h : Two b mb b2 mb2 mk L Lt s1 s2 w0 W) (hL : L.length ≤ 100000) (n : ByteArray) : Calls Try.prog 20 #[.pointer (some ⟨b, 0, none⟩), .string n] W (TwoB b mb b2 mb2 mk L Lt true s2 (decide (0 < ((srt mk L).filter fun h => h.f0.toList == n.toList).length)) w0 W) := by
  obtain ⟨Ar, h1, h2⟩ := h.r
  obtain ⟨At, h3, _⟩ := h.t
  have hs := h3.lt
  refine (has_calls n W h1 hL).mono fun e w' ha => ?_
  obtain ⟨A', hr, hA'⟩ := ha.reg
  exact ⟨ha.ret, two_r hl h h2 hs hr hA' ha.only, ha.only.imp fun j _ x => .inl x⟩
theorem has_t (hl : Lie b mb b2 mb2 w0) (h : Two b mb b2 mb2 mk L Lt s1 s2 w0 W) (hL : Lt.length ≤ 100000) (n : ByteArray) : Calls Try.prog 20 #[.pointer (some ⟨b2, 0, none⟩), .string n] W (TwoB b mb b2 mb2 mk L Lt s1 true (decide (0 < ((srt mk Lt).filter fun h => h.f0.toList == n.toList).length)) w0 W) := by
  obtain ⟨Ar, h1, h2⟩ := h.t
  have hs := h1.lt
  refine (has_calls n W h1 hL).mono fun e w' ha => ?_
  obtain ⟨A', hr, hA'⟩ := ha.reg
  exact ⟨ha.ret, two_t hl h h2 hs hr hA' ha.only, ha.only.imp fun j _ x => .inr x⟩
/-- A row told before is there yet. -/
theorem row_on {A : Option Addr} {l : List S27} {w w' : World} (hl : Lie b mb b2 mb2 w0) (h : Row w A l) (hA : ∀ a, A = some a → b2 < a.block ∧ a.block < w.heap.size) (ho : Only (fun j => j = b ∨ j = b2) w w') : Row w' A l ∧ ∀ a, A = some a → b2 < a.block ∧ a.block < w'.heap.size := by
  have g3 := hl.g3; have g4 := hl.g4
  refine ⟨h.keep fun a ha => ho.block a.block (hA a ha).2 fun x => ?_, fun a ha => ⟨(hA a ha).1, Nat.lt_of_lt_of_le (hA a ha).2 ho.size⟩⟩
  have := (hA a ha).1
  rcases x with x | x <;> omega
end
end Go.Proofs.Ytfhgdjajifnfiaa.PA
