/-
  Texts of the proof of RegistryOrder, part 3 of 6: contracts and plain laws. Conditions: see each statement.
-/
import Derived.Test.YtfhgdjajifnfiaaSRegistryOrder2
import Derived.Maps.OwnSet
import Derived.Maps.OwnOps
import Derived.Maps.RangeWalk
import Derived.Sort.KeysCollected
import Derived.Carry
import Derived.StringKeys
import Derived.RegionTactic
import Derived.ChangeAlike
import Derived.BigRegion
import Derived.Deep.QuietTactic
import Derived.BigQuiet
import Derived.Laws.LoneSync
import Derived.Conc.MuLone
import Derived.Shelf.SlSortCmp.WholeK
import Derived.Test.YtfhgdjajifnfiaaProg
import Derived.KernelRfl
import Derived.Ground.SlsfProg
import Derived.Shelf.Small.Bits
import Derived.Shelf.Small.Strs
import Derived.Shelf.Small.Wraps
import Derived.Shelf.Strconv.Itoa0
import Derived.Shelf.Strings.Search1
import Derived.Shelf.Lays
import Derived.Laws.Cover1
import Derived.Sort.Walk0
import Derived.Deep.RegionWith
import Derived.StillTailTactics
import Derived.Deep.RegionLaw
import Derived.Deep.AppendLies
set_option linter.unusedVariables false
namespace Go.Proofs.Ytfhgdjajifnfiaa.PA
open Go.RowKit Go.Maps Go.ChangeMaps Go.WideShapes Go.WideMaps Go.Proofs.YtfhgdjajifnfiaaW.PrintWords Go.Proofs.YtfhgdjajifnfiaaW.PrintLast Go.Proofs.YtfhgdjajifnfiaaW.PrintMore
set_option linter.unusedVariables false

/-- A hook as a value; as a map's element. -/
abbrev hv (h : S27) : Value := .agg #[.string h.f0, .int .i64 h.f1, .int .i64 h.f2, .string h.f3, .int .i64 h.f4]
abbrev hcs (h : S27) : List Value := [.string h.f0, .int .i64 h.f1, .int .i64 h.f2, .string h.f3, .int .i64 h.f4]
def hookD (h : S27) : DataW Unit := .agg [.lit (.string h.f0.data.toList), .lit (.int .i64 h.f1), .lit (.int .i64 h.f2), .lit (.string h.f3.data.toList), .lit (.int .i64 h.f4)]
def hookR : Value → Option (DataW Unit × List MemPlace)
  | .agg cs => match cs.toList with
    | [.string a, .int q1 b, .int q2 c, .string d, .int q3 e] => if q1 = .i64 ∧ q2 = .i64 ∧ q3 = .i64 then some (hookD ⟨a, b, c, d, e⟩, []) else none
    | _ => none
  | _ => none
theorem hookR_mk (h : S27) : hookR (hv h) = some (hookD h, []) := rfl
theorem hookR_inv {v : Value} {y : DataW Unit × List MemPlace} (hy : hookR v = some y) : ∃ h, v = hv h ∧ y = (hookD h, []) := by
  unfold hookR at hy
  split at hy
  · rename_i cs
    split at hy
    · rename_i a q1 b q2 c d q3 e he
      split at hy
      · rename_i hq
        obtain ⟨rfl, rfl, rfl⟩ := hq
        cases hy
        refine ⟨⟨a, b, c, d, e⟩, ?_, rfl⟩
        rw [← Array.toArray_toList (xs := cs), he]
      · cases hy
    · cases hy
  · cases hy
theorem bytes_inj {a b : ByteArray} (h : a.data.toList = b.data.toList) : a = b := by
  cases a; cases b
  simp at h
  rw [h]
theorem hookD_inj {h h' : S27} (e : hookD h = hookD h') : h = h' := by
  unfold hookD at e
  injection e with e
  simp at e
  obtain ⟨e0, e1, e2, e3, e4⟩ := e
  cases h; cases h'
  simp at e0 e1 e2 e3 e4
  rw [ByteArray.ext e0, ByteArray.ext e3, e1, e2, e4]
abbrev keyL (h : S27) : Lit := .string h.f0.data.toList
def entsL (L : List S27) : List (Lit × DataW Unit) := L.map fun h => (keyL h, hookD h)
def mapD (L : List S27) : DataW Unit := .map ((entsL L).foldr DataW.insert [])
/-- No name twice, none too long. -/
structure Uniq (L : List S27) : Prop where
  ne : L.Pairwise fun x y => x.f0 ≠ y.f0
  le : ∀ h ∈ L, h.f0.size ≤ maxLen
theorem keyOf_name (h : S27) (hl : h.f0.size ≤ maxLen) : keyOf Try.prog 9 (.string h.f0) = some (keyL h) := keyOf_string_mk Try.underlying9 hl
theorem Uniq.keys {L : List S27} (U : Uniq L) : Keys (KeysOf Try.prog 9) (entsL L) := by
  intro p hp
  obtain ⟨h, hh, rfl⟩ := List.mem_map.1 hp
  exact ⟨_, keyOf_name h (U.le h hh)⟩
theorem Uniq.apart {L : List S27} (U : Uniq L) : (entsL L).Pairwise fun p q => p.1 ≠ q.1 := by
  refine List.pairwise_map.2 (U.ne.imp fun {x y} hne e => hne ?_)
  injection e with e
  exact bytes_inj e
theorem has_mapD (L : List S27) (n : ByteArray) : Maps.has (mapD L) (.string n.data.toList) = L.any fun x => decide (x.f0 = n) := by
  unfold mapD
  rw [has_eq, Bool.eq_iff_iff, List.any_eq_true, List.any_eq_true]
  constructor
  · rintro ⟨p, hp, hs⟩
    obtain ⟨h, hh, rfl⟩ := List.mem_map.1 (mem_sorted.1 hp)
    refine ⟨h, hh, decide_eq_true ?_⟩
    exact bytes_inj (by simpa [Lit.sameKey] using hs)
  · rintro ⟨h, hh, hs⟩
    refine ⟨(keyL h, hookD h), mem_sorted.2 (List.mem_map.2 ⟨h, hh, rfl⟩), ?_⟩
    have e := of_decide_eq_true hs
    simp [Lit.sameKey, e]
theorem put_mapD {L : List S27} (U : Uniq L) (h : S27) (hl : h.f0.size ≤ maxLen) (hn : ∀ x ∈ L, x.f0 ≠ h.f0) : (mapD L).put (keyL h) (hookD h) = mapD (L ++ [h]) := by
  unfold mapD
  rw [DataW.put_eq]
  refine congrArg DataW.map ?_
  refine (sorted_put (string_keyed Try.underlying9).one ⟨_, keyOf_name h hl⟩ U.keys U.apart ?_).symm
  have e : (entsL L).filter (notKey (keyL h)) = entsL L := by
    refine List.filter_eq_self.2 fun p hp => ?_
    obtain ⟨x, hx, rfl⟩ := List.mem_map.1 hp
    refine (notKey_iff ((string_keyed Try.underlying9).key (keyOf_name h hl))).2 fun e => hn x hx ?_
    injection e with e
    exact bytes_inj e
  rw [e]
  unfold entsL
  rw [List.map_append]
  exact List.perm_append_comm
theorem Uniq.snoc {L : List S27} (U : Uniq L) (h : S27) (hl : h.f0.size ≤ maxLen) (hn : ∀ x ∈ L, x.f0 ≠ h.f0) : Uniq (L ++ [h]) where
  ne := List.pairwise_append.2 ⟨U.ne, List.pairwise_singleton _ _, fun x hx y hy => by rw [List.mem_singleton.1 hy]; exact hn x hx⟩
  le := fun x hx => by
    rcases List.mem_append.1 hx with h1 | h1
    · exact U.le x h1
    · rw [List.mem_singleton.1 h1]; exact hl
/-- Nothing that was there has turned, but for the blocks of F. -/
structure Only (F : Nat → Prop) (w w' : World) : Prop where
  os : w'.os = w.os
  tape : w'.tape = w.tape
  output : w'.output = w.output
  size : w.heap.size ≤ w'.heap.size
  block : ∀ j, j < w.heap.size → ¬ F j → w'.heap[j]? = w.heap[j]?
section
variable {F G : Nat → Prop} {w w' w'' : World}
theorem Only.refl (F : Nat → Prop) (w : World) : Only F w w := ⟨rfl, rfl, rfl, Nat.le_refl _, fun _ _ _ => rfl⟩
theorem Only.trans (h : Only F w w') (k : Only F w' w'') : Only F w w'' := ⟨k.os.trans h.os, k.tape.trans h.tape, k.output.trans h.output, Nat.le_trans h.size k.size, fun j hj hf => (k.block j (Nat.lt_of_lt_of_le hj h.size) hf).trans (h.block j hj hf)⟩
theorem Only.imp (h : Only F w w') (hf : ∀ j, j < w.heap.size → F j → G j) : Only G w w' := ⟨h.os, h.tape, h.output, h.size, fun j hj hg => h.block j hj fun x => hg (hf j hj x)⟩
theorem Only.below {B : Nat} (h : Only F w w') (hB : B ≤ w.heap.size) (hf : ∀ j, F j → B ≤ j) : Below B w w' := ⟨h.os, h.tape, h.output, h.size, fun j hj => h.block j (by omega) fun x => by have := hf j x; omega⟩
theorem Below.only {B : Nat} (h : Below B w w') (hf : ∀ j, B ≤ j → j < w.heap.size → F j) : Only F w w' := ⟨h.os, h.tape, h.output, h.size, fun j hj hn => h.block j (Nat.lt_of_not_le fun x => hn (hf j x hj))⟩
theorem Only.drew (h : Only F w w') : Only F w w'.drew := ⟨h.os, h.tape, h.output, h.size, h.block⟩
theorem Only.grown {row : Option Nat} (h : w.grownBy w' row) (hr : ∀ j, row = some j → j < w.heap.size → F j) : Only F w w' := ⟨h.os, h.tape, h.output, h.size, fun j hj hn => h.block j hj fun e => hn (hr j e.symm hj)⟩
end
theorem block_add (ad : Addr) (n : Nat) : (ad.add n).block = ad.block := by
  unfold Addr.add
  split <;> rfl
/-- A row of hooks reads as l. -/
def Row (w : World) (A : Option Addr) (l : List S27) : Prop := Kd.C k27 w A l.length l
theorem Row.keep {w w' : World} {A : Option Addr} {l : List S27} (h : Row w A l) (hk : ∀ a, A = some a → w'.heap[a.block]? = w.heap[a.block]?) : Row w' A l := by
  refine ⟨h.1, h.2.1, fun hl => ?_⟩
  obtain ⟨ad, e, hc⟩ := h.2.2 hl
  refine ⟨ad, e, fun j p hp => ?_⟩
  obtain ⟨c, h1, h2, h3⟩ := hc j p hp
  have e2 := k27_open h2
  refine ⟨c, h1, e2 ▸ k27_mk w' p, fun i u hu => (World.cell?_of_block (w := w) (a := ad.add (j * k27.sz + i)) (by rw [block_add]; exact hk ad e)).trans (h3 i u hu)⟩
theorem Row.nil (w : World) (A : Option Addr) : Row w A [] := ⟨rfl, by simp, fun h => by simp at h⟩
/-- The registry in block b: its mask m, its hooks L (map mb), sealed or not, its sorted row, its steps. -/
structure Reg (b mb : Nat) (A : Option Addr) (m : Int) (L : List S27) (sl : Bool) (so : List S27) (st : Int) (w : World) : Prop where
  lt : b < w.heap.size
  fz : ∀ j, w.frozen? ⟨b, j, none⟩ = false
  c0 : w.cell? ⟨b, 0, none⟩ = some (.int .i64 m)
  c1 : w.cell? ⟨b, 1, none⟩ = some (.map (some mb))
  mp : w.ownsMap Try.prog 9 hookR mb L.length (mapD L)
  uq : Uniq L
  c2 : w.cell? ⟨b, 2, none⟩ = some (.int .u32 (if sl then 1 else 0))
  c3 : w.cell? ⟨b, 3, none⟩ = some (.int .i32 0)
  c5 : w.cell? ⟨b, 5, none⟩ = some (.bool sl)
  c6 : ∃ c, w.cell? ⟨b, 6, none⟩ = some (.slice A so.length c) ∧ so.length ≤ c
  ro : Row w A so
  un : sl = false → w.cell? ⟨b, 6, none⟩ = some (.slice none 0 0)
  c7 : w.cell? ⟨b, 7, none⟩ = some (.int .i64 st)
  ne : mb ≠ b
  na : ∀ a, A = some a → a.block < w.heap.size ∧ a.block ≠ b ∧ a.block ≠ mb
/-- The registry's blocks. -/
def Own3 (b mb : Nat) (A : Option Addr) (j : Nat) : Prop := j = b ∨ j = mb ∨ ∃ a, A = some a ∧ j = a.block
section
variable {b mb : Nat} {A : Option Addr} {m : Int} {L : List S27} {sl : Bool} {so : List S27} {st : Int} {w w' : World}
theorem ownsMap_keep {n : Nat} {D : DataW Unit} (h : w.ownsMap Try.prog 9 hookR mb n D) (hk : w'.heap[mb]? = w.heap[mb]?) : w'.ownsMap Try.prog 9 hookR mb n D := by
  obtain ⟨es, clock, hb, r⟩ := h
  exact ⟨es, clock, hk.trans hb, r⟩
theorem Reg.keep (h : Reg b mb A m L sl so st w) (hs : w.heap.size ≤ w'.heap.size) (hk : ∀ j, Own3 b mb A j → w'.heap[j]? = w.heap[j]?) : Reg b mb A m L sl so st w' := by
  have kb : ∀ i, w'.cell? ⟨b, i, none⟩ = w.cell? ⟨b, i, none⟩ := fun i => World.cell?_of_block (w := w) (a := ⟨b, i, none⟩) (hk b (.inl rfl))
  have fb : ∀ i, w'.frozen? ⟨b, i, none⟩ = w.frozen? ⟨b, i, none⟩ := fun i => World.frozen?_of_block (w := w) (a := ⟨b, i, none⟩) (hk b (.inl rfl))
  have h1 := h.lt
  exact { lt := by omega, fz := fun j => (fb j).trans (h.fz j), c0 := (kb 0).trans h.c0, c1 := (kb 1).trans h.c1, mp := ownsMap_keep h.mp (hk mb (.inr (.inl rfl))), uq := h.uq, c2 := (kb 2).trans h.c2, c3 := (kb 3).trans h.c3, c5 := (kb 5).trans h.c5,
          c6 := (by obtain ⟨c, e, hc⟩ := h.c6; exact ⟨c, (kb 6).trans e, hc⟩), ro := h.ro.keep fun a ha => hk a.block (.inr (.inr ⟨a, ha, rfl⟩)), un := fun x => (kb 6).trans (h.un x), c7 := (kb 7).trans h.c7, ne := h.ne, na := fun a ha => by have := h.na a ha; omega }
theorem Reg.keep_only {F : Nat → Prop} (h : Reg b mb A m L sl so st w) (ho : Only F w w') (hf : ∀ j, Own3 b mb A j → ¬ F j) : Reg b mb A m L sl so st w' := by
  refine h.keep ho.size fun j hj => ho.block j ?_ (hf j hj)
  rcases hj with rfl | rfl | ⟨a, ha, rfl⟩
  · exact h.lt
  · exact h.mp.lt
  · exact (h.na a ha).1
theorem Reg.drew (h : Reg b mb A m L sl so st w) : Reg b mb A m L sl so st w.drew := h.keep (Nat.le_refl _) fun _ _ => rfl
end
end Go.Proofs.Ytfhgdjajifnfiaa.PA

namespace Go.Proofs.Ytfhgdjajifnfiaa.PA
open Go.RowKit Go.Maps Go.ChangeMaps Go.WideShapes Go.WideMaps Go.MuLone Go.Conc.Locks Go.Proofs.YtfhgdjajifnfiaaW.PrintWords Go.Proofs.YtfhgdjajifnfiaaW.PrintLast Go.Proofs.YtfhgdjajifnfiaaW.PrintMore
set_option linter.unusedVariables false

theorem cell_at {W : World} {b : Nat} {cs : Array Value} {e : TypeId} (h : W.heap[b]? = some (.cells cs e (0, 0))) (i : Nat) : W.cell? ⟨b, i, none⟩ = cs[i]? := by
  unfold World.cell?
  simp only [h]
  simp
theorem frozen_at {W : World} {b : Nat} {cs : Array Value} {e : TypeId} (h : W.heap[b]? = some (.cells cs e (0, 0))) (i : Nat) : W.frozen? ⟨b, i, none⟩ = false := by
  unfold World.frozen?
  simp only [h]
  simp
theorem Only.alloc {F : Nat → Prop} (w : World) (o : Obj) : Only F w (w.alloc o) := ⟨rfl, rfl, rfl, by simp, fun j hj _ => Below.heap_alloc _ _ _ hj⟩
theorem Only.set {F : Nat → Prop} (w : World) (a : Addr) (v : Value) (h : F a.block) : Only F w (w.setCell a v) := ⟨rfl, rfl, rfl, by simp, fun j _ hn => Below.heap_setCell _ _ _ _ fun e => hn (e ▸ h)⟩
set_option maxHeartbeats 2000000 in
set_option maxRecDepth 100000 in
theorem new_calls (m : Int) (w : World) :
    Calls Try.prog 14 #[.int .i64 m] w fun e w' => e = .returned (.pointer (some ⟨w.heap.size + 1, 0, none⟩)) ∧ Reg (w.heap.size + 1) w.heap.size none (bits .and .i64 m 127) [] false [] 0 w' ∧ Below w.heap.size w w' := by
  have hmm := @run_makeMap Try.prog
  go_enter Try.func14, Try.ntmps14
  go_wp2
  go_ret
  generalize bits .and .i64 m 127 = m'
  have hs : (w.alloc (.map #[] 0)).heap.size = w.heap.size + 1 := by simp
  have hg : ∀ o : Obj, ((w.alloc (.map #[] 0)).alloc o).heap[w.heap.size + 1]? = some o := fun o => by rw [← hs]; exact heap_alloc_new _ _
  refine ⟨rfl, ?_, (Below.refl _ _).alloc (Nat.le_refl _) _ |>.alloc (by simp) _⟩
  exact { lt := by simp, fz := frozen_at (hg _), c0 := cell_at (hg _) 0, c1 := cell_at (hg _) 1, mp := (World.ownsMap_made w Try.prog 9 hookR).alloc _, uq := ⟨List.Pairwise.nil, fun _ h => by simp at h⟩,
          c2 := cell_at (hg _) 2, c3 := cell_at (hg _) 3, c5 := cell_at (hg _) 5, c6 := ⟨0, cell_at (hg _) 6, Nat.le_refl _⟩, ro := Row.nil _ _, un := fun _ => cell_at (hg _) 6, c7 := cell_at (hg _) 7, ne := by omega, na := fun a ha => by cases ha }
end Go.Proofs.Ytfhgdjajifnfiaa.PA

namespace Go.Proofs.Ytfhgdjajifnfiaa.PA
open Go.RowKit Go.Maps Go.ChangeMaps Go.WideShapes Go.WideMaps Go.MuLone Go.Conc.Locks Go.Proofs.YtfhgdjajifnfiaaW.PrintWords Go.Proofs.YtfhgdjajifnfiaaW.PrintLast Go.Proofs.YtfhgdjajifnfiaaW.PrintMore
set_option linter.unusedVariables false

/-- What Add answers. -/
def addOk (L : List S27) (h : S27) : Bool := !h.f0.toList.isEmpty && !(L.any fun x => decide (x.f0 = h.f0))
theorem zero27 (w : World) : (zeroValue 27).run Try.prog w = .ok (hv z27) w := by kernel_rfl
theorem look_map {mb n : Nat} {L : List S27} {w : World} (hm : w.ownsMap Try.prog 9 hookR mb n (mapD L)) (h : S27) (hh : h.f0.size ≤ maxLen) :
    ∃ x, ∀ W : World, W.heap[mb]? = w.heap[mb]? → (Instr.lookup 51 (.map (some mb)) (.string h.f0) true).run Try.prog W = .ok (.tuple #[hv x, .bool (L.any fun x => decide (x.f0 = h.f0))]) W := by
  have hz : hookR (hv z27) = some (hookD z27, []) := rfl
  obtain ⟨v, ps, h1, h2⟩ := hm.look_ok (string_keyed Try.underlying9) Try.underlying51 (zero27 w) hz (keyOf_name h hh)
  obtain ⟨x, rfl, hx⟩ := hookR_inv h2
  refine ⟨x, fun W hW => ?_⟩
  obtain ⟨v', ps', h1', h2'⟩ := (ownsMap_keep hm hW).look_ok (string_keyed Try.underlying9) Try.underlying51 (zero27 W) hz (keyOf_name h hh)
  obtain ⟨x', rfl, hx'⟩ := hookR_inv h2'
  have e : x' = x := hookD_inj (by
    have e1 := congrArg Prod.fst hx
    have e2 := congrArg Prod.fst hx'
    exact e2.symm.trans e1)
  rw [h1', e, has_mapD]
set_option maxHeartbeats 4000000 in
set_option maxRecDepth 100000 in
theorem add_calls {b mb : Nat} {A : Option Addr} {m : Int} {L : List S27} {so : List S27} {st : Int} (h : S27) (w : World) (hr : Reg b mb A m L false so st w) (hh : h.f0.size ≤ maxLen) (hL : L.length < maxLen) :
    Calls Try.prog 15 #[.pointer (some ⟨b, 0, none⟩), hv h] w fun e w' => e = .returned (.bool (addOk L h)) ∧ Reg b mb A m (if addOk L h then L ++ [h] else L) false so st w' ∧ Only (Own3 b mb none) w w' := by
  obtain ⟨w1, hw1⟩ : ∃ w1, w.alloc (.cells #[.string h.f0, .int .i64 h.f1, .int .i64 h.f2, .string h.f3, .int .i64 h.f4] 27) = w1 := ⟨_, rfl⟩
  have hr1 : Reg b mb A m L false so st w1 := hw1 ▸ hr.keep_only (Only.alloc (F := fun _ => False) w _) (fun _ _ x => x)
  have ho1 : Only (Own3 b mb none) w w1 := hw1 ▸ Only.alloc w _
  have hs1 : w1.heap.size = w.heap.size + 1 := by rw [← hw1]; simp
  have hg : w1.heap[w.heap.size]? = some (.cells #[.string h.f0, .int .i64 h.f1, .int .i64 h.f2, .string h.f3, .int .i64 h.f4] 27 (0, 0)) := by rw [← hw1]; exact heap_alloc_new _ _
  have d0 : w1.cell? ⟨w.heap.size, 0, none⟩ = some (.string h.f0) := cell_at hg 0
  have k5 : w1.cell? ⟨b, 5, none⟩ = some (.bool false) := hr1.c5
  have k1 : w1.cell? ⟨b, 1, none⟩ = some (.map (some mb)) := hr1.c1
  have k1a : ∀ o : Obj, (w1.alloc o).cell? ⟨b, 1, none⟩ = some (.map (some mb)) := fun o => (World.cell?_of_block (w := w1) (a := ⟨b, 1, none⟩) (Below.heap_alloc _ _ _ hr1.lt)).trans k1
  have d0a : ∀ o : Obj, (w1.alloc o).cell? ⟨w.heap.size, 0, none⟩ = some (.string h.f0) := fun o => (World.cell?_of_block (w := w1) (a := ⟨w.heap.size, 0, none⟩) (Below.heap_alloc _ _ _ (by show w.heap.size < w1.heap.size; omega))).trans d0
  obtain ⟨x, hlk⟩ := look_map hr1.mp h hh
  have hl1 := hlk w1.drew rfl
  have hl2 := fun o => hlk (w1.drew.alloc o) (by have := hr1.mp.lt; exact Below.heap_alloc _ _ _ this)
  have hl3 := fun o => hlk (w1.alloc o).drew (by have := hr1.mp.lt; exact Below.heap_alloc _ _ _ this)
  have HR := Aside0.mk hr1
  have HO := Aside0.mk ho1
  have HG := Aside0.mk hg
  clear hg hr1 ho1 hr hlk
  cases hE : h.f0.toList.isEmpty with
  | true =>
    have ha : addOk L h = false := by simp [addOk, hE]
    rw [ha]
    go_enter Try.func15, Try.ntmps15
    go_wp2
    go_ret
    exact ⟨rfl, HR.out, HO.out⟩
  | false =>
    cases hT : L.any fun x => decide (x.f0 = h.f0) with
    | true =>
      have ha : addOk L h = false := by simp [addOk, hT]
      rw [ha]
      rw [hT] at hl1
      simp only [hT] at hl2 hl3
      go_enter Try.func15, Try.ntmps15
      go_wp2
      go_region
      go_wp2
      go_ret
      exact ⟨rfl, HR.out.keep_only (Only.alloc (F := fun _ => False) _ _).drew (fun _ _ x => x), HO.out.trans (Only.alloc _ _).drew⟩
    | false =>
      have ha : addOk L h = true := by simp [addOk, hT, hE]
      rw [ha]
      rw [hT] at hl1
      simp only [hT] at hl2 hl3
      have hnew : ∀ x ∈ L, x.f0 ≠ h.f0 := fun x hx e => by
        have := List.any_eq_false.1 hT x hx
        simp [e] at this
      obtain ⟨w3, hw3⟩ : ∃ w3, (w1.alloc (.cells #[.string x.f0, .int .i64 x.f1, .int .i64 x.f2, .string x.f3, .int .i64 x.f4] 27)).drew = w3 := ⟨_, rfl⟩
      have hr3 : Reg b mb A m L false so st w3 := hw3 ▸ HR.out.keep_only (Only.alloc (F := fun _ => False) _ _).drew (fun _ _ x => x)
      have ho3 : Only (Own3 b mb none) w w3 := hw3 ▸ HO.out.trans (Only.alloc _ _).drew
      have hg3 : w3.heap[w.heap.size]? = some (.cells #[.string h.f0, .int .i64 h.f1, .int .i64 h.f2, .string h.f3, .int .i64 h.f4] 27 (0, 0)) := by
        rw [← hw3]
        exact (Below.heap_alloc _ _ _ (by omega)).trans HG.out
      have e0 : w3.cell? ⟨w.heap.size, 0, none⟩ = some (.string h.f0) := cell_at hg3 0
      have e1 : w3.cell? ⟨w.heap.size, 1, none⟩ = some (.int .i64 h.f1) := cell_at hg3 1
      have e2 : w3.cell? ⟨w.heap.size, 2, none⟩ = some (.int .i64 h.f2) := cell_at hg3 2
      have e3 : w3.cell? ⟨w.heap.size, 3, none⟩ = some (.string h.f3) := cell_at hg3 3
      have e4 : w3.cell? ⟨w.heap.size, 4, none⟩ = some (.int .i64 h.f4) := cell_at hg3 4
      have e5 : w3.cell? ⟨b, 1, none⟩ = some (.map (some mb)) := hr3.c1
      obtain ⟨w4, hrun, hown, hturn⟩ := hr3.drew.mp.store (string_keyed Try.underlying9) Try.underlying51 hL (keyOf_name h hh) (hookR_mk h)
      rw [put_mapD hr3.uq h hh hnew] at hown
      have HF := Aside0.mk (show Reg b mb A m (L ++ [h]) false so st w4 ∧ Only (Own3 b mb none) w w4 from by
        have hgr := hturn.grown
        have hr4 := hr3.drew
        have kb : ∀ j, j < w3.heap.size → j ≠ mb → w4.heap[j]? = w3.heap[j]? := fun j hj hn => hgr.block j hj (by simp; exact hn)
        have kc : ∀ i, w4.cell? ⟨b, i, none⟩ = w3.cell? ⟨b, i, none⟩ := fun i => World.cell?_of_block (w := w3) (a := ⟨b, i, none⟩) (kb b hr3.lt (Ne.symm hr3.ne))
        have hsz := hgr.size
        have hsz' : w3.heap.size ≤ w4.heap.size := hsz
        have hlt := hr3.lt
        refine ⟨{ lt := (by omega), fz := fun j => (World.frozen?_of_block (w := w3) (a := ⟨b, j, none⟩) (kb b hr3.lt (Ne.symm hr3.ne))).trans (hr3.fz j), c0 := (kc 0).trans hr3.c0, c1 := (kc 1).trans hr3.c1, mp := (by rw [List.length_append]; exact hown), uq := hr3.uq.snoc h hh hnew, c2 := (kc 2).trans hr3.c2, c3 := (kc 3).trans hr3.c3, c5 := (kc 5).trans hr3.c5, c6 := (by obtain ⟨c, e, hc⟩ := hr3.c6; exact ⟨c, (kc 6).trans e, hc⟩), ro := hr3.ro.keep fun a ha => kb a.block (hr3.na a ha).1 (hr3.na a ha).2.2, un := fun x => (kc 6).trans (hr3.un x), c7 := (kc 7).trans hr3.c7, ne := hr3.ne, na := fun a ha => by have := hr3.na a ha; exact ⟨by omega, this.2.1, this.2.2⟩ }, ?_⟩
        exact ho3.drew.trans (Only.grown hgr (fun j hj _ => by cases hj; exact .inr (.inl rfl))))
      clear hown hturn hr3 ho3 hg3
      go_enter Try.func15, Try.ntmps15
      go_wp2
      go_region
      clear hw3 hl1 hl2 hl3 k1 k1a d0 d0a k5 hs1
      go_wp2
      go_region
      go_wp2
      go_ret
      exact ⟨rfl, HF.out⟩
end Go.Proofs.Ytfhgdjajifnfiaa.PA

namespace Go.Proofs.Ytfhgdjajifnfiaa.PA
open Go.Shelf
def sortHook_ren : Go.Shelf.Ren := ⟨fun | 6 => 43 | 14 => 51 | 15 => 52 | 20 => 59 | 21 => 60 | 22 => 61 | 23 => 62 | 24 => 63 | 25 => 64 | 26 => 65 | 27 => 66 | 28 => 67 | 29 => 68 | 46 => 73 | 47 => 74 | 48 => 75 | 49 => 76 | 50 => 77 | 57 => 86 | n => n, fun | 0 => 0 | 3 => 3 | 4 => 4 | 5 => 5 | 9 => 9 | 22 => 23 | 24 => 27 | 25 => 83 | 39 => 87 | 45 => 93 | 46 => 94 | 50 => 98 | 53 => 55 | 55 => 102 | 66 => 106 | 70 => 110 | 76 => 119 | 77 => 120 | n => n, fun n => n⟩
theorem sortHook : Go.Proofs.SlLaysF0.n6 Try.prog sortHook_ren := {
  mixed := by kernel_rfl,
  f6 := ⟨"slices.SortFunc[[]incipit/api.Hook,incipit/api.Hook]", by decide, Try.func43.trans (congrArg some (by kernel_rfl))⟩,
  f14 := ⟨"slices.pdqsortCmpFunc[incipit/api.Hook]", by decide, Try.func51.trans (congrArg some (by kernel_rfl))⟩,
  f15 := Try.func52.trans (congrArg some (by kernel_rfl)),
  f20 := ⟨"slices.insertionSortCmpFunc[incipit/api.Hook]", by decide, Try.func59.trans (congrArg some (by kernel_rfl))⟩,
  f21 := ⟨"slices.heapSortCmpFunc[incipit/api.Hook]", by decide, Try.func60.trans (congrArg some (by kernel_rfl))⟩,
  f22 := ⟨"slices.breakPatternsCmpFunc[incipit/api.Hook]", by decide, Try.func61.trans (congrArg some (by kernel_rfl))⟩,
  f23 := ⟨"slices.choosePivotCmpFunc[incipit/api.Hook]", by decide, Try.func62.trans (congrArg some (by kernel_rfl))⟩,
  f24 := ⟨"slices.reverseRangeCmpFunc[incipit/api.Hook]", by decide, Try.func63.trans (congrArg some (by kernel_rfl))⟩,
  f25 := ⟨"slices.partialInsertionSortCmpFunc[incipit/api.Hook]", by decide, Try.func64.trans (congrArg some (by kernel_rfl))⟩,
  f26 := ⟨"slices.partitionEqualCmpFunc[incipit/api.Hook]", by decide, Try.func65.trans (congrArg some (by kernel_rfl))⟩,
  f27 := ⟨"slices.partitionCmpFunc[incipit/api.Hook]", by decide, Try.func66.trans (congrArg some (by kernel_rfl))⟩,
  f28 := Try.func67.trans (congrArg some (by kernel_rfl)),
  f29 := Try.func68.trans (congrArg some (by kernel_rfl)),
  f46 := ⟨"slices.siftDownCmpFunc[incipit/api.Hook]", by decide, Try.func73.trans (congrArg some (by kernel_rfl))⟩,
  f47 := Try.func74.trans (congrArg some (by kernel_rfl)),
  f48 := Try.func75.trans (congrArg some (by kernel_rfl)),
  f49 := ⟨"slices.medianAdjacentCmpFunc[incipit/api.Hook]", by decide, Try.func76.trans (congrArg some (by kernel_rfl))⟩,
  f50 := ⟨"slices.medianCmpFunc[incipit/api.Hook]", by decide, Try.func77.trans (congrArg some (by kernel_rfl))⟩,
  f57 := ⟨"slices.order2CmpFunc[incipit/api.Hook]", by decide, Try.func86.trans (congrArg some (by kernel_rfl))⟩,
  t0 := Try.underlying0,
  a0 := Try.isAgg0,
  z0 := Try.sizeOf0,
  v0 := Try.zeroValue0,
  t3 := Try.underlying3,
  a3 := Try.isAgg3,
  z3 := Try.sizeOf3,
  v3 := Try.zeroValue3,
  t4 := Try.underlying4,
  a4 := Try.isAgg4,
  z4 := Try.sizeOf4,
  v4 := Try.zeroValue4,
  t5 := Try.underlying5,
  a5 := Try.isAgg5,
  z5 := Try.sizeOf5,
  v5 := Try.zeroValue5,
  t9 := Try.underlying9,
  a9 := Try.isAgg9,
  z9 := Try.sizeOf9,
  v9 := Try.zeroValue9,
  t22 := Try.underlying23,
  a22 := Try.isAgg23,
  z22 := Try.sizeOf23,
  v22 := Try.zeroValue23,
  t25 := Try.underlying83,
  a25 := Try.isAgg83,
  z25 := Try.sizeOf83,
  v25 := Try.zeroValue83,
  t39 := Try.underlying87,
  a39 := Try.isAgg87,
  z39 := Try.sizeOf87,
  v39 := Try.zeroValue87,
  t45 := Try.underlying93,
  a45 := Try.isAgg93,
  z45 := Try.sizeOf93,
  v45 := Try.zeroValue93,
  t46 := Try.underlying94,
  a46 := Try.isAgg94,
  z46 := Try.sizeOf94,
  v46 := Try.zeroValue94,
  t50 := Try.underlying98,
  a50 := Try.isAgg98,
  z50 := Try.sizeOf98,
  v50 := Try.zeroValue98,
  t53 := Try.underlying55,
  a53 := Try.isAgg55,
  z53 := Try.sizeOf55,
  v53 := Try.zeroValue55,
  t55 := Try.underlying102,
  a55 := Try.isAgg102,
  z55 := Try.sizeOf102,
  v55 := Try.zeroValue102,
  t66 := Try.underlying106,
  a66 := Try.isAgg106,
  z66 := Try.sizeOf106,
  v66 := Try.zeroValue106,
  t70 := Try.underlying110,
  a70 := Try.isAgg110,
  z70 := Try.sizeOf110,
  v70 := Try.zeroValue110,
  t76 := Try.underlying119,
  a76 := Try.isAgg119,
  z76 := Try.sizeOf119,
  v76 := Try.zeroValue119,
  t77 := Try.underlying120,
  a77 := Try.isAgg120,
  z77 := Try.sizeOf120,
  v77 := Try.zeroValue120 }
end Go.Proofs.Ytfhgdjajifnfiaa.PA

set_option linter.unusedVariables false
namespace Go.Proofs
open Go.Shelf
def Try.lays125_ren : Go.Shelf.Ren := ⟨fun | 125 => 52 | 128 => 67 | 129 => 68 | n => n, fun | 3 => 3 | 4 => 4 | 5 => 5 | 9 => 9 | 46 => 87 | 51 => 55 | 53 => 102 | n => n, fun | 1 => 0 | n => n⟩
theorem Try.lays125 : Go.Proofs.Lays.n125 Try.prog Try.lays125_ren := {
  mixed := by kernel_rfl,
  f125 := Try.func52.trans (congrArg some (by kernel_rfl)),
  f128 := Try.func67.trans (congrArg some (by kernel_rfl)),
  f129 := Try.func68.trans (congrArg some (by kernel_rfl)),
  t3 := Try.underlying3,
  a3 := Try.isAgg3,
  z3 := Try.sizeOf3,
  v3 := Try.zeroValue3,
  t4 := Try.underlying4,
  a4 := Try.isAgg4,
  z4 := Try.sizeOf4,
  v4 := Try.zeroValue4,
  t5 := Try.underlying5,
  a5 := Try.isAgg5,
  z5 := Try.sizeOf5,
  v5 := Try.zeroValue5,
  t9 := Try.underlying9,
  a9 := Try.isAgg9,
  z9 := Try.sizeOf9,
  v9 := Try.zeroValue9,
  t46 := Try.underlying87,
  a46 := Try.isAgg87,
  z46 := Try.sizeOf87,
  v46 := Try.zeroValue87,
  t51 := Try.underlying55,
  a51 := Try.isAgg55,
  z51 := Try.sizeOf55,
  v51 := Try.zeroValue55,
  t53 := Try.underlying102,
  a53 := Try.isAgg102,
  z53 := Try.sizeOf102,
  v53 := Try.zeroValue102 }
theorem Try.bits_Len (x : Int) (w : World) (h0 : 0 ≤ x) (h1 : x ≤ 18446744073709551615) :
    Calls Try.prog 52 #[.int .u64 x] w fun e w' => e = .returned (.int .i64 (Lib.bitLen x.toNat)) ∧ w' = w := Any.bits_Len Try.lays125 x w h0 h1
def Try.lays137_ren : Go.Shelf.Ren := ⟨fun | 137 => 33 | 217 => 39 | 266 => 48 | n => n, fun | 3 => 3 | 5 => 5 | 9 => 9 | n => n, fun | 1 => 0 | n => n⟩
theorem Try.lays137 : Go.Proofs.Lays.n137 Try.prog Try.lays137_ren := {
  mixed := by kernel_rfl,
  f137 := Try.func33.trans (congrArg some (by kernel_rfl)),
  f217 := Try.func39.trans (congrArg some (by kernel_rfl)),
  f266 := Try.func48.trans (congrArg some (by kernel_rfl)),
  t3 := Try.underlying3,
  a3 := Try.isAgg3,
  z3 := Try.sizeOf3,
  v3 := Try.zeroValue3,
  t5 := Try.underlying5,
  a5 := Try.isAgg5,
  z5 := Try.sizeOf5,
  v5 := Try.zeroValue5,
  t9 := Try.underlying9,
  a9 := Try.isAgg9,
  z9 := Try.sizeOf9,
  v9 := Try.zeroValue9 }
open Go.RowKit in
theorem Try.strings_IndexByte (s : ByteArray) (c : Int) (w : World) :
    Calls Try.prog 33 #[.string s, .int .u8 c] w fun e w' => e = .returned (.int .i64 (Lib.indexByte s.data.toList c.toNat.toUInt8)) ∧ w' = w := Any.strings_IndexByte Try.lays137 s c w
def Try.lays122_ren : Go.Shelf.Ren := ⟨fun | 122 => 46 | 215 => 53 | n => n, fun | 3 => 3 | 4 => 4 | n => n, fun | 1 => 0 | n => n⟩
theorem Try.lays122 : Go.Proofs.Lays.n122 Try.prog Try.lays122_ren := {
  mixed := by kernel_rfl,
  f122 := Try.func46.trans (congrArg some (by kernel_rfl)),
  f215 := Try.func53.trans (congrArg some (by kernel_rfl)),
  t3 := Try.underlying3,
  a3 := Try.isAgg3,
  z3 := Try.sizeOf3,
  v3 := Try.zeroValue3,
  t4 := Try.underlying4,
  a4 := Try.isAgg4,
  z4 := Try.sizeOf4,
  v4 := Try.zeroValue4 }
open Go.RowKit in
theorem Try.cmp_Compare_int (x y : Int) (w : World) :
    Calls Try.prog 46 #[.int .i64 x, .int .i64 y] w fun e w' => e = .returned (.int .i64 (Lib.compareInt x y)) ∧ w' = w := Any.cmp_Compare_int Try.lays122 x y w
end Go.Proofs

namespace Go.Proofs.Ytfhgdjajifnfiaa.PA
open Go.RowKit Go.Maps Go.ChangeMaps Go.WideShapes Go.WideMaps Go.MuLone Go.Conc.Locks Go.Sort Go.Proofs.YtfhgdjajifnfiaaW.PrintWords Go.Proofs.YtfhgdjajifnfiaaW.PrintLast Go.Proofs.YtfhgdjajifnfiaaW.PrintMore
set_option linter.unusedVariables false

theorem isNaN_s (a : ByteArray) (w : World) : Calls Try.prog 54 #[.string a] w fun e w' => e = .returned (.bool false) ∧ w' = w := by
  go_enter Try.func54, Try.ntmps54
  go_wp2
  go_ret
  exact ⟨rfl, rfl⟩
/-- cmp.Compare at two texts. -/
def cmpS (a b : ByteArray) : Int := if Op.bytesLess a.toList b.toList then -1 else if Op.bytesLess a.toList b.toList || a.toList == b.toList then 0 else 1
theorem cmp_s (a b : ByteArray) (w : World) : Calls Try.prog 47 #[.string a, .string b] w fun e w' => e = .returned (.int .i64 (cmpS a b)) ∧ w' = w := by
  have h := fun a W => isNaN_s a W
  unfold cmpS
  cases h1 : Op.bytesLess a.toList b.toList <;> cases h2 : a.toList == b.toList
  all_goals
    go_enter Try.func47, Try.ntmps47
    go_wp2_with (go_at_call 54; refine (h _ _).mono ?_; rintro e w' ⟨rfl, rfl⟩)
    go_ret
    exact ⟨rfl, rfl⟩
set_option maxHeartbeats 1000000 in
theorem or_calls (g c : Nat) (x y : Int) (w : World) (h0 : w.cell? ⟨g, 0, none⟩ = some (.int .i64 x)) (h1 : w.cell? ⟨g, 1, none⟩ = some (.int .i64 y)) :
    Calls Try.prog 45 #[.slice (some ⟨g, 0, none⟩) 2 c] w fun e w' => e = .returned (.int .i64 (if x = 0 then y else x)) ∧ w' = w := by
  by_cases hx : x = 0
  · subst hx
    have e1 : ((0 : Int) != 0) = false := rfl
    by_cases hy : y = 0
    · subst hy
      rw [if_pos rfl]
      go_enter Try.func45, Try.ntmps45
      go_wp2
      go_loopw [8] (fun vi wr => ∃ j : Nat, vi = .int .i64 j ∧ j ≤ 2 ∧ wr = w) (fun vi _ => 2 - (intOf vi).toNat)
      case atStart => exact ⟨0, rfl, by omega, rfl⟩
      case round =>
        obtain ⟨j, rfl, hj, rfl⟩ := hrel
        have hj3 : j = 0 ∨ j = 1 ∨ j = 2 := by omega
        rcases hj3 with rfl | rfl | rfl
        · go_wp2
          go_roundw
          case rel => exact ⟨1, rfl, by omega, by simp⟩
          case measure => simp [intOf]
        · go_wp2
          go_roundw
          case rel => exact ⟨2, rfl, by omega, by simp⟩
          case measure => simp [intOf]
        · go_wp2
          go_ret
          exact ⟨rfl, rfl⟩
    · have y1 : (y == 0) = false := beq_eq_false_iff_ne.2 hy
      have y2 : (y != 0) = true := by simp [bne, y1]
      rw [if_pos rfl]
      go_enter Try.func45, Try.ntmps45
      go_wp2
      go_loopw [8] (fun vi wr => ∃ j : Nat, vi = .int .i64 j ∧ j ≤ 1 ∧ wr = w) (fun vi _ => 2 - (intOf vi).toNat)
      case atStart => exact ⟨0, rfl, by omega, rfl⟩
      case round =>
        obtain ⟨j, rfl, hj, rfl⟩ := hrel
        have hj3 : j = 0 ∨ j = 1 := by omega
        rcases hj3 with rfl | rfl
        · go_wp2
          go_roundw
          case rel => exact ⟨1, rfl, by omega, by simp⟩
          case measure => simp [intOf]
        · go_wp2
          go_ret
          exact ⟨rfl, rfl⟩
  · have x1 : (x == 0) = false := beq_eq_false_iff_ne.2 hx
    have x2 : (x != 0) = true := by simp [bne, x1]
    rw [if_neg hx]
    go_enter Try.func45, Try.ntmps45
    go_wp2
    go_loopw [8] (fun vi wr => vi = .int .i64 0 ∧ wr = w) (fun vi _ => 2 - (intOf vi).toNat)
    case atStart => exact ⟨rfl, rfl⟩
    case round =>
      obtain ⟨rfl, rfl⟩ := hrel
      go_wp2
      go_ret
      exact ⟨rfl, rfl⟩
theorem third (w : World) (o1 o2 : Obj) (cs : Array Value) (e : TypeId) (i : Nat) : (((w.alloc o1).alloc o2).alloc (.cells cs e)).cell? ⟨w.heap.size + 1 + 1, i, none⟩ = cs[i]? := by
  refine cell_at (e := e) ?_ i
  have h := heap_alloc_new ((w.alloc o1).alloc o2) (.cells cs e)
  rw [World.size_alloc, World.size_alloc] at h
  exact h
/-- The order of hooks. -/
def cfH (x y : S27) : Int := if Lib.compareInt x.f2 y.f2 = 0 then cmpS x.f0 y.f0 else Lib.compareInt x.f2 y.f2
set_option maxHeartbeats 4000000 in
set_option maxRecDepth 100000 in
theorem closure44 (x y : S27) (W : World) : Calls Try.prog 44 #[hv x, hv y] W fun e w' => e = .returned (.int .i64 (cfH x y)) ∧ ∃ q os', w' = grow (W.drewN q) os' := by
  have hc := fun W' => Try.cmp_Compare_int x.f2 y.f2 W'
  have hs := fun W' => cmp_s x.f0 y.f0 W'
  have ho := fun g c W' h0 h1 => or_calls g c (Lib.compareInt x.f2 y.f2) (cmpS x.f0 y.f0) W' h0 h1
  have e : cfH x y = if Lib.compareInt x.f2 y.f2 = 0 then cmpS x.f0 y.f0 else Lib.compareInt x.f2 y.f2 := rfl
  rw [e]
  clear e
  generalize Lib.compareInt x.f2 y.f2 = r at hc ho ⊢
  generalize cmpS x.f0 y.f0 = s at hs ho ⊢
  obtain ⟨v, hv'⟩ : ∃ v, (if r = 0 then s else r) = v := ⟨_, rfl⟩
  simp only [hv'] at ho ⊢
  clear hv'
  go_enter Try.func44, Try.ntmps44
  go_wp2
  refine wp_region_still_tail 10 (by kernel_rfl) (by kernel_rfl) ?_
  simp only [List.take_succ_cons, List.take_zero, List.drop_succ_cons, List.drop_zero]
  change wpStill _ _ (World.drew _) _ _ _
  still_step
  still_step
  still_step
  still_step
  still_call (hc _)
  still_step
  still_step
  still_step
  still_step
  still_call (hs _)
  refine wpStill_nil ?_
  change wpList _ _ _ _ _ (World.drew _)
  go_wp2_with (go_at_call 45; refine (ho _ _ _ (by simp only [World.cell?_drew]; exact third _ _ _ _ _ 0) (by simp only [World.cell?_drew]; exact third _ _ _ _ _ 1)).mono ?_; rintro e w' ⟨rfl, rfl⟩)
  go_ret
  exact ⟨rfl, 1, _, by rw [alloc_eq_grow, alloc_eq_grow, alloc_eq_grow, grow_grow, grow_grow]; rfl⟩
end Go.Proofs.Ytfhgdjajifnfiaa.PA

namespace Go.Proofs.Ytfhgdjajifnfiaa.PA
open Go.RowKit Go.Maps Go.ChangeMaps Go.WideShapes Go.WideMaps Go.MuLone Go.Conc.Locks Go.Sort Go.Proofs.YtfhgdjajifnfiaaW.PrintWords Go.Proofs.YtfhgdjajifnfiaaW.PrintLast Go.Proofs.YtfhgdjajifnfiaaW.PrintMore
set_option linter.unusedVariables false

instance : Inhabited S27 := ⟨z27⟩
/-- Ahead of another: by priority, then by name. -/
def ltH (x y : S27) : Prop := x.f2 < y.f2 ∨ (x.f2 = y.f2 ∧ x.f0.toList < y.f0.toList)
theorem cmpS_neg (a b : ByteArray) : cmpS a b < 0 ↔ a.toList < b.toList := by
  unfold cmpS
  rw [bytesLess_eq]
  by_cases h : a.toList < b.toList
  · simp [h]
  · simp only [h, decide_false, Bool.false_or, Bool.false_eq_true, if_false, iff_false]
    split <;> omega
theorem cfH_neg (x y : S27) : cfH x y < 0 ↔ ltH x y := by
  unfold cfH ltH Lib.compareInt
  by_cases h1 : x.f2 < y.f2
  · simp [h1]
  · by_cases h2 : y.f2 < x.f2
    · have : ¬ x.f2 = y.f2 := by omega
      simp [h1, h2, this]
    · have : x.f2 = y.f2 := by omega
      simp [this, cmpS_neg]
theorem ltOf_iff (x y : S27) : ltOf cfH x y = true ↔ ltH x y := by
  unfold ltOf
  rw [decide_eq_true_eq, cfH_neg]
theorem ltH_irrefl (x : S27) : ¬ ltH x x := by
  rintro (h | ⟨_, h⟩)
  · omega
  · exact List.lt_irrefl _ h
theorem ltH_trans {x y z : S27} (h1 : ltH x y) (h2 : ltH y z) : ltH x z := by
  rcases h1 with h1 | ⟨h1, h1'⟩ <;> rcases h2 with h2 | ⟨h2, h2'⟩
  · exact .inl (by omega)
  · exact .inl (by omega)
  · exact .inl (by omega)
  · exact .inr ⟨by omega, List.lt_trans h1' h2'⟩
theorem ltH_ntrans {x y z : S27} (h1 : ¬ ltH x y) (h2 : ¬ ltH y z) : ¬ ltH x z := by
  have a1 : ¬ x.f2 < y.f2 := fun a => h1 (.inl a)
  have a2 : ¬ y.f2 < z.f2 := fun a => h2 (.inl a)
  rintro (h | ⟨h, h'⟩)
  · omega
  · have l1 : ¬ x.f0.toList < y.f0.toList := fun a => h1 (.inr ⟨by omega, a⟩)
    have l2 : ¬ y.f0.toList < z.f0.toList := fun a => h2 (.inr ⟨by omega, a⟩)
    exact List.not_lt.2 (List.le_trans (List.not_lt.1 l2) (List.not_lt.1 l1)) h'
theorem swoH : SWO (ltOf cfH) where
  irrefl x := Bool.eq_false_iff.2 fun h => ltH_irrefl x ((ltOf_iff x x).1 h)
  trans x y z h1 h2 := (ltOf_iff x z).2 (ltH_trans ((ltOf_iff x y).1 h1) ((ltOf_iff y z).1 h2))
  ntrans x y z h1 h2 := Bool.eq_false_iff.2 fun h => ltH_ntrans (fun a => Bool.eq_false_iff.1 h1 ((ltOf_iff x y).2 a)) (fun a => Bool.eq_false_iff.1 h2 ((ltOf_iff y z).2 a)) ((ltOf_iff x z).1 h)
set_option maxHeartbeats 1000000 in
theorem sort_calls (blk cap : Nat) (d : Array S27) (w : World) (hH : HoldsK hcs 5 w blk 0 d) (hblk : blk < w.heap.size) (hsz : d.size < 4611686018427387904) :
    Calls Try.prog 43 #[.slice (some ⟨blk, 0, none⟩) d.size cap, .func (.func 44) #[] #[]] w fun e w' => e = .returned (.tuple #[]) ∧ ∃ d' n os, PermIn 0 d.size d d' ∧ SortedIn (ltOf cfH) 0 d.size d' ∧ w' = sortWorldK hcs 5 w blk 0 n d' os := by
  have eg : ∀ args w, (callFunc 44 args).run Try.prog w = .ok (.enter 44 args) w := enters_of Try.func44 (by kernel_rfl) rfl
  have hcon := AnyQ.slices_SortFunc sortHook 5 Try.isAgg27 Try.sizeOf27 hcs (fun _ => rfl) (fun x v hv => by simp [hcs] at hv; rcases hv with rfl | rfl | rfl | rfl | rfl <;> rfl) cfH swoH 44 #[] blk 0 cap d w eg (fun _ _ _ _ x y => closure44 x y _) hH hblk hsz
  change Calls Try.prog 43 _ _ _ at hcon
  exact hcon
/-- Is a hook on? -/
def onH (m : Int) (h : S27) : Bool := h.f4 == 0 || bits .and .i64 h.f4 m != 0
set_option maxHeartbeats 1000000 in
theorem on_calls (b : Nat) (m : Int) (h : S27) (W : World) (c0 : W.cell? ⟨b, 0, none⟩ = some (.int .i64 m)) :
    Calls Try.prog 42 #[.pointer (some ⟨b, 0, none⟩), hv h] W fun e w' => e = .returned (.bool (onH m h)) ∧ Below W.heap.size W w' := by
  have hlt : b < W.heap.size := World.block_lt_of_cell? W _ c0
  have c0a : ∀ o : Obj, (W.alloc o).cell? ⟨b, 0, none⟩ = some (.int .i64 m) := fun o => (World.cell?_of_block (w := W) (a := ⟨b, 0, none⟩) (Below.heap_alloc _ _ _ hlt)).trans c0
  have hB := Aside0.mk (fun (o : Obj) (n : Nat) => (((Below.refl W.heap.size W).alloc (Nat.le_refl _) o).trans (show Below W.heap.size (W.alloc o) ((W.alloc o).drewN n) from ⟨rfl, rfl, rfl, Nat.le_refl _, fun _ _ => rfl⟩)))
  unfold onH
  generalize hr : bits .and .i64 h.f4 m = r
  by_cases h0 : h.f4 = 0
  · have e0 : (h.f4 == 0) = true := beq_iff_eq.2 h0
    rw [e0, Bool.true_or]
    clear hr
    go_enter Try.func42, Try.ntmps42
    go_wp2
    go_quiet (fail)
    go_wp2
    go_ret
    exact ⟨rfl, hB.out _ _⟩
  · have e0 : (h.f4 == 0) = false := beq_eq_false_iff_ne.2 h0
    rw [e0, Bool.false_or]
    go_enter Try.func42, Try.ntmps42
    go_wp2
    go_quiet (fail)
    go_wp2
    go_ret
    exact ⟨rfl, hB.out _ _⟩
end Go.Proofs.Ytfhgdjajifnfiaa.PA

namespace Go.Proofs.Ytfhgdjajifnfiaa.PA
open Go.RowKit Go.Maps Go.ChangeMaps Go.WideShapes Go.WideMaps Go.Sort Go.Proofs.YtfhgdjajifnfiaaW.PrintWords Go.Proofs.YtfhgdjajifnfiaaW.PrintLast Go.Proofs.YtfhgdjajifnfiaaW.PrintMore
set_option linter.unusedVariables false

/-- The hooks met so far. -/
def Met (L : List S27) (left : Lit → Bool) (ss : List S27) : Prop := ss.Nodup ∧ ∀ h, h ∈ ss ↔ (h ∈ L ∧ left (keyL h) = false)
theorem met_start (L : List S27) : Met L (Maps.has (mapD L)) [] := by
  refine ⟨List.nodup_nil, fun h => ⟨fun x => by simp at x, fun ⟨h1, h2⟩ => ?_⟩⟩
  rw [has_mapD] at h2
  have := List.any_eq_false.1 h2 h h1
  simp at this
theorem sameKey_iff (x y : S27) : (keyL x).sameKey (keyL y) = decide (x.f0 = y.f0) := by
  rw [Bool.eq_iff_iff, decide_eq_true_eq]
  constructor
  · intro h
    exact bytes_inj (by simpa [Lit.sameKey] using h)
  · intro h
    simp [Lit.sameKey, h]
theorem at_mapD {L : List S27} {x : List UInt8} {c : S27} (h : ∀ zd, (mapD L).atKey (.string x) zd = hookD c) : c ∈ L ∧ x = c.f0.data.toList := by
  have hh := has_true_of_atKey h
  have e := h .nil
  unfold mapD DataW.atKey at e
  simp only at e
  cases hf : ((entsL L).foldr DataW.insert []).find? (fun p => p.1.sameKey (.string x)) with
  | none =>
    rw [hf] at e
    simp only at e
    unfold hookD at e
    cases e
  | some p =>
    rw [hf] at e
    simp only at e
    have hp := mem_sorted.1 (List.mem_of_find?_eq_some hf)
    have hs := List.find?_some hf
    obtain ⟨y, hy, rfl⟩ := List.mem_map.1 hp
    simp only at e hs
    have hc := hookD_inj e
    subst hc
    refine ⟨hy, ?_⟩
    have : y.f0.data.toList = x := by simpa [Lit.sameKey] using hs
    exact this.symm
theorem pw_eq : ∀ {L : List S27}, L.Pairwise (fun x y => x.f0 ≠ y.f0) → ∀ {x y : S27}, x ∈ L → y ∈ L → x.f0 = y.f0 → x = y
  | [], _, _, _, hx, _, _ => by simp at hx
  | a :: r, hp, x, y, hx, hy, h => by
    obtain ⟨h1, h2⟩ := List.pairwise_cons.1 hp
    rcases List.mem_cons.1 hx with ex | hx'
    · rcases List.mem_cons.1 hy with ey | hy'
      · rw [ex, ey]
      · exact absurd (ex ▸ h) (h1 y hy')
    · rcases List.mem_cons.1 hy with ey | hy'
      · exact absurd (ey ▸ h).symm (h1 x hx')
      · exact pw_eq h2 hx' hy' h
theorem uniq_eq {L : List S27} (U : Uniq L) {x y : S27} (hx : x ∈ L) (hy : y ∈ L) (h : x.f0 = y.f0) : x = y := pw_eq U.ne hx hy h
theorem met_step {L : List S27} (U : Uniq L) {left : Lit → Bool} {ss : List S27} (h : Met L left ss) {c : S27} (hc : c ∈ L) (hl : left (keyL c) = true) : Met L (fun z => left z && !z.sameKey (keyL c)) (ss ++ [c]) := by
  have hnew : c ∉ ss := fun hx => by have := ((h.2 c).1 hx).2; rw [hl] at this; cases this
  refine ⟨List.nodup_append.2 ⟨h.1, by simp, fun a ha b hb => by simp at hb; subst hb; exact fun e => hnew (e ▸ ha)⟩, fun y => ?_⟩
  rw [List.mem_append, List.mem_singleton, h.2 y]
  show _ ↔ y ∈ L ∧ (left (keyL y) && !(keyL y).sameKey (keyL c)) = false
  rw [sameKey_iff]
  constructor
  · rintro (⟨h1, h2⟩ | rfl)
    · exact ⟨h1, by rw [h2, Bool.false_and]⟩
    · exact ⟨hc, by simp⟩
  · rintro ⟨h1, h2⟩
    by_cases e : y.f0 = c.f0
    · exact .inr (uniq_eq U h1 hc e)
    · refine .inl ⟨h1, ?_⟩
      simpa [e] using h2
theorem uniq_nodup {L : List S27} (U : Uniq L) : L.Nodup := U.ne.imp fun {x y} hne e => hne (by rw [e])
theorem met_end {L : List S27} (U : Uniq L) {left : Lit → Bool} {ss : List S27} (h : Met L left ss) (hl : ∀ kl, left kl = false) : ss.Perm L := by
  refine (List.perm_ext_iff_of_nodup h.1 (uniq_nodup U)).2 fun y => ?_
  rw [h.2 y]
  exact ⟨fun a => a.1, fun a => ⟨a, hl _⟩⟩
theorem size_mapD (L : List S27) : Maps.size (mapD L) = L.length := by
  unfold mapD
  rw [size_eq, length_sorted]
  simp [entsL]
theorem flatH_at : ∀ (l : List S27) (n : Nat) (u : Value), (l.flatMap hcs)[n]? = some u → ∃ j i x, n = j * 5 + i ∧ l[j]? = some x ∧ (hcs x)[i]? = some u
  | [], n, u, h => by simp at h
  | x :: l, n, u, h => by
    rw [List.flatMap_cons] at h
    by_cases hn : n < 5
    · rw [List.getElem?_append_left hn] at h
      exact ⟨0, n, x, by omega, rfl, h⟩
    · rw [List.getElem?_append_right (show (hcs x).length ≤ n from by show 5 ≤ n; omega)] at h
      obtain ⟨j, i, y, h1, h2, h3⟩ := flatH_at l (n - 5) u h
      exact ⟨j + 1, i, y, by omega, h2, h3⟩
theorem flatH_len : ∀ (l : List S27), (l.flatMap hcs).length = l.length * 5
  | [] => rfl
  | x :: l => by rw [List.flatMap_cons, List.length_append, flatH_len l]; show 5 + l.length * 5 = (l.length + 1) * 5; omega
end Go.Proofs.Ytfhgdjajifnfiaa.PA

namespace Go.Proofs.Ytfhgdjajifnfiaa.PA
open Go.RowKit Go.Sort
set_option linter.unusedVariables false

theorem ins_nil (f : Value) (w : World) : Calls Try.prog 59 #[.slice none 0 0, .int .i64 0, .int .i64 0, f] w fun e w' => e = .returned (.tuple #[]) ∧ w' = w := by
  go_enter Try.func59, Try.ntmps59
  go_wp2
  go_loopw [8] (fun vi wr => vi = .int .i64 1 ∧ wr = w) (fun _ _ => 0)
  case atStart => exact ⟨rfl, rfl⟩
  case round =>
    obtain ⟨rfl, rfl⟩ := hrel
    go_wp2
    go_end0
    exact ⟨rfl, rfl⟩
set_option maxHeartbeats 1000000 in
theorem pdq_nil (f : Value) (w : World) : Calls Try.prog 51 #[.slice none 0 0, .int .i64 0, .int .i64 0, .int .i64 0, f] w fun e w' => e = .returned (.tuple #[]) ∧ w' = w := by
  have h := fun W => ins_nil f W
  go_enter Try.func51, Try.ntmps51
  go_wp2
  go_loopw [1, 2, 3] (fun v1 v2 v3 wr => v1 = .int .i64 0 ∧ v2 = .int .i64 0 ∧ v3 = .int .i64 0 ∧ wr = w) (fun _ _ _ _ => 0)
  case atStart => exact ⟨rfl, rfl, rfl, rfl⟩
  case round =>
    obtain ⟨rfl, rfl, rfl, rfl⟩ := hrel
    go_wp2_with (go_at_call 59; refine (h _).mono ?_; rintro e w' ⟨rfl, rfl⟩)
    refine bodyPost_ret (results_none rfl _ _ _) rfl ?_
    exact ⟨rfl, rfl⟩
theorem sort_nil (f : Value) (w : World) : Calls Try.prog 43 #[.slice none 0 0, f] w fun e w' => e = .returned (.tuple #[]) ∧ w' = w := by
  have h := fun W => pdq_nil f W
  have hl := fun W => Try.bits_Len 0 W (by omega) (by omega)
  go_enter Try.func43, Try.ntmps43
  go_wp2_with (first | (go_at_call 52; refine (hl _).mono ?_; rintro e w' ⟨rfl, rfl⟩) | (go_at_call 51; refine (h _).mono ?_; rintro e w' ⟨rfl, rfl⟩))
  go_end0
  exact ⟨rfl, rfl⟩
end Go.Proofs.Ytfhgdjajifnfiaa.PA

namespace Go.Proofs.Ytfhgdjajifnfiaa.PA
open Go.RowKit Go.Maps Go.ChangeMaps Go.WideShapes Go.WideMaps Go.Sort Go.Proofs.YtfhgdjajifnfiaaW.PrintWords Go.Proofs.YtfhgdjajifnfiaaW.PrintLast Go.Proofs.YtfhgdjajifnfiaaW.PrintMore
set_option linter.unusedVariables false

theorem add0 (g n : Nat) : (⟨g, 0, none⟩ : Addr).add n = ⟨g, n, none⟩ := by
  unfold Addr.add
  split
  · rename_i h0
    subst h0
    rfl
  · simp
theorem row_of {w : World} {g : Nat} {ys : List S27} (hl : ys.length ≤ 9223372036854775807) (h : ∀ j x, ys[j]? = some x → ∀ i u, (hcs x)[i]? = some u → w.cell? ⟨g, j * 5 + i, none⟩ = some u) : Row w (some ⟨g, 0, none⟩) ys := by
  refine ⟨rfl, hl, fun _ => ⟨_, rfl, fun j p hp => ⟨hcs p, rfl, k27_mk w p, fun i u hu => ?_⟩⟩⟩
  rw [add0]
  exact h j p hp i u hu
theorem flatH_some (xs : List S27) (t : Nat) (ht : t < xs.length * 5) : (xs.flatMap hcs)[t]? = some ((hcs xs.toArray[t / 5]!)[t % 5]!) := by
  obtain ⟨u, hu⟩ : ∃ u, (xs.flatMap hcs)[t]? = some u := ⟨_, List.getElem?_eq_getElem (by rw [flatH_len]; exact ht)⟩
  obtain ⟨j, i, x, rfl, hx, hi⟩ := flatH_at xs t u hu
  have hi5 : i < 5 := (List.getElem?_eq_some_iff.1 hi).1
  have e1 : (j * 5 + i) / 5 = j := by omega
  have e2 : (j * 5 + i) % 5 = i := by omega
  have e3 : xs.toArray[j]! = x := by
    obtain ⟨h1, h2⟩ := List.getElem?_eq_some_iff.1 hx
    rw [getElem!_pos xs.toArray j (by simpa using h1)]
    simpa using h2
  rw [hu, e1, e2, e3, List.getElem!_eq_getElem?_getD, hi]
  rfl
theorem heap_putRow (w : World) (g n : Nat) (F : Array Value) (os : Array Obj) {j : Nat} (hj : j < w.heap.size) (hn : j ≠ g) : (grow (putRow id (Sort.ahead w n) g 0 F) os).heap[j]? = w.heap[j]? := by
  rw [heap_grow_old _ _ (by simp [putRow, mapBlock]; exact hj)]
  simp [putRow, mapBlock, Sort.ahead, Array.getElem?_modify, Ne.symm hn]
set_option maxHeartbeats 1000000 in
theorem sort_own {base : Nat} {v : Value} {xs : List S27} {w : World} (h : w.ownsRow base 27 5 v xs.length (xs.flatMap hcs)) (hl : xs.length ≤ 100000) :
    Calls Try.prog 43 #[v, .func (.func 44) #[] #[]] w fun e w' => e = .returned (.tuple #[]) ∧ ∃ A c ys, v = .slice A ys.length c ∧ ys.length ≤ c ∧ ys.Perm xs ∧ ys.Pairwise (fun x y => ¬ ltH y x) ∧ Row w' A ys ∧ (∀ a, A = some a → base ≤ a.block ∧ a.block < w.heap.size) ∧ Only (fun j => some j = v.ownBlock) w w' := by
  obtain ⟨h1, h2⟩ := h
  rcases h2 with ⟨rfl, h0⟩ | ⟨g, cap, cur, rfl, hg, hh, hn, hcap, hcsz, htk⟩
  · obtain rfl : xs = [] := List.eq_nil_of_length_eq_zero h0
    refine (sort_nil _ w).mono ?_
    rintro e w' ⟨rfl, rfl⟩
    exact ⟨rfl, none, 0, [], rfl, Nat.le_refl _, .refl _, .nil, Row.nil _ _, fun a ha => (by cases ha), Only.refl _ _⟩
  · have hlt : g < w.heap.size := (Array.getElem?_eq_some_iff.1 hh).1
    have hH : HoldsK hcs 5 w g 0 xs.toArray := by
      intro t ht
      rw [size_flatK, List.size_toArray] at ht
      refine ⟨?_, frozen_at hh _⟩
      rw [cell_at hh, get_flatK _ _ _ _ (by rw [List.size_toArray]; exact ht), Nat.zero_add]
      show cur[t]? = some ((hcs xs.toArray[t / 5]!)[t % 5]!)
      rw [← flatH_some xs t ht, ← htk, List.getElem?_take_of_lt ht, Array.getElem?_toList]
    have hs := sort_calls g cap xs.toArray w hH hlt (by rw [List.size_toArray]; omega)
    rw [List.size_toArray] at hs
    refine hs.mono ?_
    rintro e w' ⟨rfl, d', n, os, hp, hso, rfl⟩
    have hsz : d'.size = xs.length := hp.1.trans List.size_toArray
    have hperm : d'.toList.Perm xs := by
      have := hp.2.2
      rw [← hsz] at this
      have e1 : d'.extract 0 d'.size = d' := by simp
      have e2 : xs.toArray.extract 0 d'.size = xs.toArray := by rw [hsz]; simp
      rw [e1, e2] at this
      simpa using this
    have hH2 : HoldsK hcs 5 (sortWorldK hcs 5 w g 0 n d' os) g 0 d' := by
      unfold sortWorldK
      refine holdsK_grow hcs 5 _ os g 0 d' (by simp [putRowK, putRow, mapBlock]; exact hlt) ?_
      exact holdsK_putRowK hcs 5 _ g 0 xs.toArray d' (holdsK_ahead hcs 5 w n g 0 _ hH) (by rw [hsz, List.size_toArray])
    refine ⟨rfl, some ⟨g, 0, none⟩, cap, d'.toList, congrArg (fun q : Nat => Value.slice (some ⟨g, 0, none⟩) q cap) (Array.length_toList.trans hsz).symm, by rw [Array.length_toList, hsz]; exact hn, hperm, ?_, ?_, ?_, ?_⟩
    · refine List.pairwise_iff_getElem.2 fun i j hi hj hij => ?_
      rw [Array.length_toList] at hi hj
      have := hso i j (Nat.zero_le _) hij (by omega)
      rw [getElem!_pos d' i hi, getElem!_pos d' j hj] at this
      simp only [Array.getElem_toList]
      exact fun hx => by rw [(ltOf_iff _ _).2 hx] at this; cases this
    · refine row_of (by rw [Array.length_toList]; omega) fun j x hx i u hu => ?_
      rw [Array.getElem?_toList] at hx
      obtain ⟨hj, hx⟩ := Array.getElem?_eq_some_iff.1 hx
      have hi : i < 5 := (List.getElem?_eq_some_iff.1 hu).1
      have := (hH2.cell hj hi).1
      rw [getElem!_pos d' j hj, hx, List.getElem!_eq_getElem?_getD, hu, Nat.zero_add] at this
      exact this
    · rintro a ha
      cases ha
      exact ⟨hg, hlt⟩
    · refine ⟨rfl, rfl, rfl, by simp [sortWorldK, putRowK, putRow, mapBlock], fun j hj hne => ?_⟩
      exact heap_putRow w g n _ os hj fun e => hne (by rw [e]; rfl)
end Go.Proofs.Ytfhgdjajifnfiaa.PA

namespace Go.Proofs.Ytfhgdjajifnfiaa.PA
open Go.RowKit Go.Maps Go.ChangeMaps Go.WideShapes Go.WideMaps Go.Sort Go.Proofs.YtfhgdjajifnfiaaW.PrintWords Go.Proofs.YtfhgdjajifnfiaaW.PrintLast Go.Proofs.YtfhgdjajifnfiaaW.PrintMore
set_option linter.unusedVariables false

/-- What the loop keeps of the registry's block and of the captured variable. -/
structure Kp (b g : Nat) (w0 w : World) : Prop where
  only : Only (fun j => j = b) w0 w
  ce : ∀ j, j ≠ 6 → w.cell? ⟨b, j, none⟩ = w0.cell? ⟨b, j, none⟩
  fz : ∀ j, w.frozen? ⟨b, j, none⟩ = w0.frozen? ⟨b, j, none⟩
theorem Kp.refl (b g : Nat) (w : World) : Kp b g w w := ⟨Only.refl _ _, fun _ _ => rfl, fun _ => rfl⟩
theorem Kp.grown {b g : Nat} {w0 w w' : World} {row : Option Nat} (h : Kp b g w0 w) (hb : b < w0.heap.size) (hg : w.grownBy w' row) (hr : ∀ j, row = some j → w0.heap.size ≤ j) : Kp b g w0 w' := by
  have hk : w'.heap[b]? = w.heap[b]? := hg.block b (Nat.lt_of_lt_of_le hb h.only.size) fun e => by have := hr b e.symm; omega
  exact ⟨⟨hg.os.trans h.only.os, hg.tape.trans h.only.tape, hg.output.trans h.only.output, Nat.le_trans h.only.size hg.size, fun j hj hn => (hg.block j (Nat.lt_of_lt_of_le hj h.only.size) fun e => by have := hr j e.symm; omega).trans (h.only.block j hj hn)⟩,
    fun j hj => (World.cell?_of_block (w := w) (a := ⟨b, j, none⟩) hk).trans (h.ce j hj), fun j => (World.frozen?_of_block (w := w) (a := ⟨b, j, none⟩) hk).trans (h.fz j)⟩
theorem Kp.below {b g : Nat} {w0 w w' : World} (h : Kp b g w0 w) (hb : b < w0.heap.size) (hg : Below w.heap.size w w') : Kp b g w0 w' :=
  h.grown hb (row := none) ⟨hg.os, hg.tape, hg.output, hg.size, fun j hj _ => hg.block j hj⟩ fun j e => by cases e
theorem grown_set (w : World) (a : Addr) (v : Value) : w.grownBy (w.setCell a v) (some a.block) := ⟨rfl, rfl, rfl, by simp, fun k _ hn => Below.heap_setCell _ _ _ _ fun e => hn (by rw [e])⟩
theorem Kp.set {b g : Nat} {w0 w : World} (h : Kp b g w0 w) (v : Value) : Kp b g w0 (w.setCell ⟨b, 6, none⟩ v) :=
  ⟨h.only.trans (Only.set w ⟨b, 6, none⟩ v rfl), fun j hj => (World.cell?_setCell_other _ ⟨b, 6, none⟩ ⟨b, j, none⟩ _ (by intro e; apply hj; have h := congrArg Addr.off e; first | exact h | exact h.symm)).trans (h.ce j hj), fun j => by simp; exact h.fz j⟩
theorem new_cells (w : World) (cs : List Value) (e : TypeId) : ∀ j u, cs[j]? = some u → (w.alloc (.cells cs.toArray e)).cell? ((⟨w.heap.size, 0, none⟩ : Addr).add j) = some u := by
  intro j u h
  have hA : (⟨w.heap.size, 0, none⟩ : Addr).add j = ⟨w.heap.size, j, none⟩ := by
    unfold Addr.add
    split
    · rename_i h0
      subst h0
      rfl
    · simp
  rw [hA, cell_at (heap_alloc_new w (.cells cs.toArray e)) j]
  simpa using h
/-- What the closure leaves: sealed, and the hooks that are on, in order. -/
structure Cl (b : Nat) (m : Int) (L : List S27) (w w' : World) : Prop where
  only : Only (fun j => j = b) w w'
  ce : ∀ j, j ≠ 5 → j ≠ 6 → w'.cell? ⟨b, j, none⟩ = w.cell? ⟨b, j, none⟩
  fz : ∀ j, w'.frozen? ⟨b, j, none⟩ = false
  c5 : w'.cell? ⟨b, 5, none⟩ = some (.bool true)
  so : ∃ so A c, w'.cell? ⟨b, 6, none⟩ = some (.slice A so.length c) ∧ so.length ≤ c ∧ Row w' A so ∧ so.Perm (L.filter (onH m)) ∧ so.Pairwise ltH ∧ ∀ a, A = some a → w.heap.size ≤ a.block ∧ a.block < w'.heap.size
theorem ltH_total {x y : S27} (h : ¬ ltH y x) (hne : x.f0 ≠ y.f0) : ltH x y := by
  by_cases h1 : x.f2 < y.f2
  · exact .inl h1
  · have h2 : ¬ y.f2 < x.f2 := fun a => h (.inl a)
    refine .inr ⟨by omega, ?_⟩
    have h3 : ¬ y.f0.toList < x.f0.toList := fun a => h (.inr ⟨by omega, a⟩)
    refine Decidable.byContradiction fun h4 => hne ?_
    have e := List.le_antisymm (List.not_lt.1 h3) (List.not_lt.1 h4)
    rw [Lib.toList_data, Lib.toList_data] at e
    exact bytes_inj e
theorem uniq_perm {L ys : List S27} (U : Uniq L) {p : S27 → Bool} (h : ys.Perm (L.filter p)) (hp : ys.Pairwise fun x y => ¬ ltH y x) : ys.Pairwise ltH := by
  have h1 : ys.Pairwise fun x y => x.f0 ≠ y.f0 := (h.pairwise_iff (fun {x y} a => Ne.symm a)).2 (U.ne.filter p)
  exact (hp.and h1).imp fun {x y} a => ltH_total a.1 a.2
theorem cl_mk {b g : Nat} {m : Int} {L ss ys : List S27} {w w1 wr w' : World} {A : Option Addr} {v6 : Value} {c : Nat} (hb : b < w.heap.size) (hk1 : Only (fun j => j = b) w w1) (o : ∀ j, j ≠ 5 → w1.cell? ⟨b, j, none⟩ = w.cell? ⟨b, j, none⟩) (f1 : ∀ j, w1.frozen? ⟨b, j, none⟩ = false) (a5 : w1.cell? ⟨b, 5, none⟩ = some (.bool true)) (hs1 : w1.heap.size = w.heap.size)
    (hk : Kp b g w1 wr) (h6 : wr.cell? ⟨b, 6, none⟩ = some v6) (hper : ss.Perm L) (U : Uniq L) (hv : v6 = .slice A ys.length c) (hc : ys.length ≤ c) (hpm : ys.Perm (ss.filter (onH m))) (hpw : ys.Pairwise (fun x y => ¬ ltH y x)) (hrow : Row w' A ys) (hA : ∀ a, A = some a → w1.heap.size + 1 ≤ a.block ∧ a.block < wr.heap.size) (hon : Only (fun j => some j = v6.ownBlock) wr w') : Cl b m L w w' := by
  have hnb : ¬ (some b = v6.ownBlock) := fun e => by
    subst hv
    cases A with
    | none => cases e
    | some a =>
      have h1 := hA a rfl
      have h2 : b = a.block := Option.some.inj e
      omega
  have hbr : b < wr.heap.size := Nat.lt_of_lt_of_le hb (Nat.le_trans hk1.size hk.only.size)
  have hkb : w'.heap[b]? = wr.heap[b]? := hon.block b hbr hnb
  have kc : ∀ j, w'.cell? ⟨b, j, none⟩ = wr.cell? ⟨b, j, none⟩ := fun j => World.cell?_of_block (w := wr) (a := ⟨b, j, none⟩) hkb
  have kf : ∀ j, w'.frozen? ⟨b, j, none⟩ = wr.frozen? ⟨b, j, none⟩ := fun j => World.frozen?_of_block (w := wr) (a := ⟨b, j, none⟩) hkb
  have hpm2 : ys.Perm (L.filter (onH m)) := hpm.trans (hper.filter _)
  refine ⟨⟨hon.os.trans (hk.only.os.trans hk1.os), hon.tape.trans (hk.only.tape.trans hk1.tape), hon.output.trans (hk.only.output.trans hk1.output), Nat.le_trans hk1.size (Nat.le_trans hk.only.size hon.size), fun j hj hn => ?_⟩, fun j h5 h6' => ((kc j).trans (hk.ce j h6')).trans (o j h5), fun j => ((kf j).trans (hk.fz j)).trans (f1 j), ((kc 5).trans (hk.ce 5 (by decide))).trans a5, ys, A, c, ?_, hc, hrow, hpm2, uniq_perm U hpm2 hpw, fun a ha => ?_⟩
  · have h1 := hk1.size
    have h2 := hk.only.size
    refine (hon.block j (by omega) fun e => ?_).trans ((hk.only.block j (by omega) hn).trans (hk1.block j hj hn))
    subst hv
    cases A with
    | none => cases e
    | some a =>
      have h3 := hA a rfl
      have h4 : j = a.block := Option.some.inj e
      omega
  · rw [kc 6, h6, hv]
  · have h1 := hA a ha
    have h2 := hon.size
    exact ⟨by omega, by omega⟩
end Go.Proofs.Ytfhgdjajifnfiaa.PA

namespace Go.Proofs.Ytfhgdjajifnfiaa.PA
open Go.RowKit Go.Maps Go.ChangeMaps Go.WideShapes Go.WideMaps Go.Sort Go.Proofs.YtfhgdjajifnfiaaW.PrintWords Go.Proofs.YtfhgdjajifnfiaaW.PrintLast Go.Proofs.YtfhgdjajifnfiaaW.PrintMore
set_option linter.unusedVariables false

set_option maxHeartbeats 4000000 in
set_option maxRecDepth 100000 in
theorem close_loop (b mb g : Nat) (m : Int) (L : List S27) (w : World) (hg : w.cell? ⟨g, 0, none⟩ = some (.pointer (some ⟨b, 0, none⟩))) (c0 : w.cell? ⟨b, 0, none⟩ = some (.int .i64 m)) (c1 : w.cell? ⟨b, 1, none⟩ = some (.map (some mb)))
    (c5 : w.cell? ⟨b, 5, none⟩ = some (.bool false)) (c6 : w.cell? ⟨b, 6, none⟩ = some (.slice none 0 0)) (fz : ∀ j, w.frozen? ⟨b, j, none⟩ = false) (mp : w.ownsMap Try.prog 9 hookR mb L.length (mapD L)) (U : Uniq L) (hbm : mb ≠ b) (hgb : g ≠ b) (hL : L.length ≤ 100000) :
    Calls Try.prog 41 #[.pointer (some ⟨g, 0, none⟩)] w fun e w' => e = .returned (.tuple #[]) ∧ Cl b m L w w' := by
  obtain ⟨i0, hi, hi0, hi1, hi2⟩ := info_parts info27
  have hb : b < w.heap.size := World.block_lt_of_cell? w _ c0
  have hgl : g < w.heap.size := World.block_lt_of_cell? w _ hg
  have f5 := fz 5
  obtain ⟨w1, hw1⟩ : ∃ w1, w.setCell ⟨b, 5, none⟩ (.bool true) = w1 := ⟨_, rfl⟩
  have hs1 : w1.heap.size = w.heap.size := by rw [← hw1, World.size_setCell]
  have k1 : ∀ j, j ≠ b → w1.heap[j]? = w.heap[j]? := fun j hj => by rw [← hw1]; exact Below.heap_setCell _ _ _ _ hj
  have o : ∀ j, j ≠ 5 → w1.cell? ⟨b, j, none⟩ = w.cell? ⟨b, j, none⟩ := fun j hj => by rw [← hw1]; exact World.cell?_setCell_other _ ⟨b, 5, none⟩ ⟨b, j, none⟩ _ (by intro e; apply hj; have h := congrArg Addr.off e; first | exact h | exact h.symm)
  have f1 : ∀ j, w1.frozen? ⟨b, j, none⟩ = false := fun j => by rw [← hw1]; simp [fz j]
  have g1 : w1.cell? ⟨g, 0, none⟩ = some (.pointer (some ⟨b, 0, none⟩)) := (World.cell?_of_block (w := w) (a := ⟨g, 0, none⟩) (k1 g hgb)).trans hg
  have a0 := (o 0 (by decide)).trans c0
  have a1 := (o 1 (by decide)).trans c1
  have a6 := (o 6 (by decide)).trans c6
  have a5 : w1.cell? ⟨b, 5, none⟩ = some (.bool true) := by rw [← hw1]; exact World.cell?_setCell_same _ _ _ c5
  have mp1 := ownsMap_keep mp (k1 mb hbm)
  have hb1 : b < w1.heap.size := by omega
  have hgl1 : g < w1.heap.size := by omega
  have HS1 := Aside0.mk hs1
  have ho1 : Only (fun j => j = b) w w1 := ⟨by rw [← hw1]; rfl, by rw [← hw1]; rfl, by rw [← hw1]; rfl, by omega, fun j _ hn => k1 j hn⟩
  have HO1 := Aside0.mk ho1
  have HOO := Aside0.mk o
  have HA5 := Aside0.mk a5
  have HU := Aside0.mk U
  clear ho1
  have MP := Aside0.mk mp1
  have F1 := Aside0.mk f1
  have A0 := Aside0.mk a0
  have A6 := Aside0.mk a6
  have G1 := Aside0.mk g1
  clear mp mp1 f1 o k1 c0 c1 c6 a0 a6 hs1
  go_enter Try.func41, Try.ntmps41
  go_wp2_with (at_range; refine wpList_range_own _ rfl _ 51 rfl 9 27 (string_keyed Try.underlying9) Try.underlying51 hookR mb L.length (mapD L) rfl MP.out ?_; intro w2 hrg2 hg2 hs2)
  go_frame
  have HRG2 := Aside0.mk hrg2
  have HG2 := Aside0.mk hg2
  clear hrg2 hg2 hs2
  go_loopw [2] (fun v2 wr => ∃ left cnt ss v6, Aside0 (wr.ranges Try.prog 9 hookR mb w1.heap.size L.length (mapD L) left cnt) ∧ Aside0 (Met L left ss) ∧ ss.length + cnt ≤ L.length ∧ Aside0 (wr.cell? ⟨b, 6, none⟩ = some v6) ∧ Aside0 (wr.ownsRow (w1.heap.size + 1) 27 5 v6 (ss.filter (onH m)).length ((ss.filter (onH m)).flatMap hcs)) ∧ Aside0 (Kp b g w1 wr) ∧ w1.heap.size + 1 ≤ wr.heap.size) (fun _ wr => wr.rangeLeft mb w1.heap.size)
  case atStart =>
    have hk := (Kp.refl b g w1).grown (by omega) HG2.out (fun j e => by cases e)
    have h6 : w2.cell? ⟨b, 6, none⟩ = some (.slice none 0 0) := (World.cell?_of_block (w := w1) (a := ⟨b, 6, none⟩) (HG2.out.block b (by omega) (by simp))).trans A6.out
    exact ⟨_, _, [], _, HRG2, ⟨met_start L⟩, by rw [size_mapD]; simp, ⟨h6⟩, ⟨World.ownsRow_nil _ _ _ _⟩, ⟨hk⟩, HRG2.out.lt⟩
  case round =>
    clear HRG2 HG2
    obtain ⟨left, cnt, ss, v6, HRG, HM, hcn, H6, HOW, HK, hsz⟩ := hrel
    have hrg := HRG.out
    go_wp2_with (at_next; refine wpList_next_ranges _ rfl _ rfl 9 (string_keyed Try.underlying9) hookR Go.Proofs.encStr hv (fun key kl hk => by obtain ⟨x, hx, _⟩ := Maps.keyOf_str Try.underlying9 hk; exact ⟨x, hx⟩) (fun v y hv => by obtain ⟨c, rfl, _⟩ := hookR_inv hv; exact ⟨c, rfl⟩) mb w1.heap.size L.length (mapD L) left cnt rfl hrg ?_ ?_)
    · intro hc0 hl0
      have hper := met_end U HM.out hl0
      have h6 := H6.out
      have hg6 : wr.cell? ⟨g, 0, none⟩ = some (.pointer (some ⟨b, 0, none⟩)) := (World.cell?_of_block (w := w1) (a := ⟨g, 0, none⟩) (HK.out.only.block g hgl1 hgb)).trans G1.out
      have HPER := Aside0.mk hper
      clear hper hrg hl0
      have HFL := Aside0.mk (show (ss.filter (onH m)).length ≤ 100000 from Nat.le_trans (List.length_filter_le _ _) (by omega))
      go_wp2_with fail
      refine (sort_own HOW.out HFL.out).mono ?_
      rintro e w9 ⟨rfl, A, c9, ys, hv6, hc9, hpm, hpw, hrow, hA, hon⟩
      have HFIN := Aside0.mk (cl_mk (by omega) HO1.out HOO.out F1.out HA5.out HS1.out HK.out H6.out HPER.out HU.out hv6 hc9 hpm hpw hrow hA hon)
      clear hv6 hc9 hpm hpw hrow hA hon
      go_wp2
      go_end0
      exact ⟨rfl, HFIN.out⟩
    · intro x c kl yd yp w3 cnt3 hkey hlk hvv hat hrg3 hlt hg3 hs3 hen
      obtain ⟨x', ex, rfl, _⟩ := Maps.keyOf_str Try.underlying9 hkey
      obtain rfl : x = x' := encStr_inj ex
      obtain ⟨rfl, rfl⟩ : hookD c = yd ∧ [] = yp := by
        have := Option.some.inj (show some (hookD c, []) = some (yd, yp) from hvv)
        exact ⟨congrArg Prod.fst this, congrArg Prod.snd this⟩
      obtain ⟨hcL, hx⟩ := at_mapD hat
      have hM3 : Met L (fun z => left z && !z.sameKey (.string x)) (ss ++ [c]) := by
        rw [hx]
        exact met_step U HM.out hcL (by rw [hx] at hlk; exact hlk)
      have hbr := HK.out.only.size
      have hK3 := HK.out.grown (by omega) hg3 (fun j e => by cases e; omega)
      have h63 : w3.cell? ⟨b, 6, none⟩ = some v6 := (World.cell?_of_block (w := wr) (a := ⟨b, 6, none⟩) (hg3.block b (by omega) (by intro e; cases e; omega))).trans H6.out
      have hOW3 : w3.ownsRow (w1.heap.size + 1) 27 5 v6 (ss.filter (onH m)).length ((ss.filter (onH m)).flatMap hcs) := HOW.out.kept hg3 (.inr fun e => by have := (HOW.out.lt _ e).1; omega)
      have hg3' : w3.cell? ⟨g, 0, none⟩ = some (.pointer (some ⟨b, 0, none⟩)) := (World.cell?_of_block (w := w1) (a := ⟨g, 0, none⟩) (hK3.only.block g (by omega) hgb)).trans G1.out
      have hc3 : w3.cell? ⟨b, 0, none⟩ = some (.int .i64 m) := (hK3.ce 0 (by decide)).trans A0.out
      have hs3' : w1.heap.size + 1 ≤ w3.heap.size := by have := hg3.size; omega
      have HON := Aside0.mk (on_calls b m c (w3.alloc (.cells #[.string c.f0, .int .i64 c.f1, .int .i64 c.f2, .string c.f3, .int .i64 c.f4] 27)) ((World.cell?_of_block (w := w3) (a := ⟨b, 0, none⟩) (Below.heap_alloc _ _ _ (by show b < w3.heap.size; omega))).trans hc3))
      have g3a : ∀ ob : Obj, (w3.alloc ob).cell? ⟨g, 0, none⟩ = some (.pointer (some ⟨b, 0, none⟩)) := fun ob => (World.cell?_of_block (w := w3) (a := ⟨g, 0, none⟩) (Below.heap_alloc _ _ _ (by show g < w3.heap.size; omega))).trans hg3'
      have HRG3 := Aside0.mk hrg3
      have HM3 := Aside0.mk hM3
      have HK3 := Aside0.mk hK3
      have H63 := Aside0.mk h63
      have HOW3 := Aside0.mk hOW3
      have HC3 := Aside0.mk hc3
      have HLT := Aside0.mk hlt
      have HLE := Aside0.mk (hrg.left_eq)
      clear hrg3 hM3 hK3 h63 hOW3 hc3 hs3 hrg HRG HM H6 HOW HK hg3 hg3' hat hvv hlk hkey hx hbr
      cases hp : onH m c with
      | false =>
        rw [hp] at HON
        go_wp2_with (go_at_call 42; refine HON.out.mono ?_; rintro e w4 ⟨rfl, hb4⟩)
        have hgr4 : w3.grownBy w4 none := by
          have hb5 := ((Below.refl w3.heap.size w3).alloc (Nat.le_refl _) (.cells #[.string c.f0, .int .i64 c.f1, .int .i64 c.f2, .string c.f3, .int .i64 c.f4] 27)).trans (hb4.mono (by simp))
          exact ⟨hb5.os, hb5.tape, hb5.output, hb5.size, fun j hj _ => hb5.block j hj⟩
        have hrg4 := HRG3.out.kept hgr4 (by simp) (by simp)
        have h64 : w4.cell? ⟨b, 6, none⟩ = some v6 := (World.cell?_of_block (w := w3) (a := ⟨b, 6, none⟩) (hgr4.block b (by omega) (by simp))).trans H63.out
        have hOW4 := HOW3.out.kept hgr4 (by cases v6.ownBlock <;> simp)
        have hK4 := HK3.out.grown (by omega) hgr4 (fun j e => by cases e)
        have hsz4 := hgr4.size
        have hfil : (ss ++ [c]).filter (onH m) = ss.filter (onH m) := by simp [List.filter_append, hp]
        have HRG4 := Aside0.mk hrg4
        clear hrg4
        go_roundw
        case rel => exact ⟨_, cnt3, ss ++ [c], v6, HRG4, HM3, by rw [List.length_append, List.length_singleton]; omega, ⟨h64⟩, ⟨by rw [hfil]; exact hOW4⟩, ⟨hK4⟩, by omega⟩
        case measure =>
          have e1 := HRG4.out.left_eq
          have e2 := HLE.out
          rw [e1, e2]
          exact HLT.out
      | true =>
        rw [hp] at HON
        go_wp2_with (go_at_call 42; refine HON.out.mono ?_; rintro e w4 ⟨rfl, hb4⟩)
        have hwn : w3.heap.size < (w3.alloc (.cells #[.string c.f0, .int .i64 c.f1, .int .i64 c.f2, .string c.f3, .int .i64 c.f4] 27)).heap.size := by simp
        have hgr4 : w3.grownBy w4 none := by
          have hb5 := ((Below.refl w3.heap.size w3).alloc (Nat.le_refl _) (.cells #[.string c.f0, .int .i64 c.f1, .int .i64 c.f2, .string c.f3, .int .i64 c.f4] 27)).trans (hb4.mono (by simp))
          exact ⟨hb5.os, hb5.tape, hb5.output, hb5.size, fun j hj _ => hb5.block j hj⟩
        have hbk : w4.heap[w3.heap.size]? = some (.cells #[.string c.f0, .int .i64 c.f1, .int .i64 c.f2, .string c.f3, .int .i64 c.f4] 27 (0, 0)) := (hb4.block _ hwn).trans (heap_alloc_new _ _)
        have e0 : w4.cell? ⟨w3.heap.size, 0, none⟩ = some (.string c.f0) := cell_at hbk 0
        have e1 : w4.cell? ⟨w3.heap.size, 1, none⟩ = some (.int .i64 c.f1) := cell_at hbk 1
        have e2 : w4.cell? ⟨w3.heap.size, 2, none⟩ = some (.int .i64 c.f2) := cell_at hbk 2
        have e3 : w4.cell? ⟨w3.heap.size, 3, none⟩ = some (.string c.f3) := cell_at hbk 3
        have e4 : w4.cell? ⟨w3.heap.size, 4, none⟩ = some (.int .i64 c.f4) := cell_at hbk 4
        have hrg4 := HRG3.out.kept hgr4 (by simp) (by simp)
        have h64 : w4.cell? ⟨b, 6, none⟩ = some v6 := (World.cell?_of_block (w := w3) (a := ⟨b, 6, none⟩) (hgr4.block b (by omega) (by simp))).trans H63.out
        have hOW4 := HOW3.out.kept hgr4 (by cases v6.ownBlock <;> simp)
        have hK4 := HK3.out.grown (by omega) hgr4 (fun j e => by cases e)
        have hsz4 := hgr4.size
        have g4 : w4.cell? ⟨g, 0, none⟩ = some (.pointer (some ⟨b, 0, none⟩)) := (World.cell?_of_block (w := w1) (a := ⟨g, 0, none⟩) (hK4.only.block g hgl1 hgb)).trans G1.out
        have f64 : w4.frozen? ⟨b, 6, none⟩ = false := (hK4.fz 6).trans (F1.out 6)
        have hfil : (ss ++ [c]).filter (onH m) = ss.filter (onH m) ++ [c] := by simp [List.filter_append, hp]
        have hfl : (ss.filter (onH m)).length ≤ ss.length := List.length_filter_le _ _
        obtain ⟨out, hout⟩ : ∃ out, ss.filter (onH m) = out := ⟨_, rfl⟩
        rw [hout] at hOW4 hfil hfl
        have HRG4 := Aside0.mk hrg4
        have HOW4 := Aside0.mk hOW4
        have HK4 := Aside0.mk hK4
        have HFIL := Aside0.mk hfil
        have HGR4 := Aside0.mk hgr4
        have hnb : some b ≠ v6.ownBlock := fun e => by have := (hOW4.lt b e.symm).1; omega
        have h64a : ∀ ob : Obj, (w4.alloc ob).cell? ⟨b, 6, none⟩ = some v6 := fun ob => (World.cell?_of_block (w := w4) (a := ⟨b, 6, none⟩) (Below.heap_alloc _ _ _ (by show b < w4.heap.size; omega))).trans h64
        have f64a : ∀ ob : Obj, (w4.alloc ob).frozen? ⟨b, 6, none⟩ = false := fun ob => (World.frozen?_of_block (w := w4) (a := ⟨b, 6, none⟩) (Below.heap_alloc _ _ _ (by show b < w4.heap.size; omega))).trans f64
        have hng : some g ≠ v6.ownBlock := fun e => by have := (hOW4.lt g e.symm).1; omega
        have g4a : ∀ ob : Obj, (w4.alloc ob).cell? ⟨g, 0, none⟩ = some (.pointer (some ⟨b, 0, none⟩)) := fun ob => (World.cell?_of_block (w := w4) (a := ⟨g, 0, none⟩) (Below.heap_alloc _ _ _ (by show g < w4.heap.size; omega))).trans g4
        have HNG := Aside0.mk hng
        have G4A := Aside0.mk g4a
        have HNB := Aside0.mk hnb
        have H64A := Aside0.mk h64a
        have F64A := Aside0.mk f64a
        clear hrg4 hOW4 hK4 hfil hbk hb4 hwn HON hgr4 HOW3 hout hnb hng f64a
        go_region_law (refine step_append_lies _ rfl _ _ 23 rfl (w1.heap.size + 1) 27 i0 (hv z27) 5 56 Try.underlying23 hi hi0 hi1 hi2 rfl (by decide) _ _ _ rfl (HOW4.out.alloc (.cells (hcs c).toArray 27)) ⟨w4.heap.size, 0, none⟩ 1 1 (hcs c) rfl rfl (new_cells w4 (hcs c) 27) (by simp [hcs, Value.oneCell']) (by omega) (by simp only [maxLen]; omega) (by omega) (by simp; omega) (w4.heap.size + 1) (by simp) ?_; intro gg cap w5 hown5 hgrow5 hloc5 hlt5; have hbk5 := hgrow5.block b (by simp; omega) HNB.out; have n6 := (World.cell?_of_block (a := ⟨b, 6, none⟩) hbk5).trans (H64A.out _); have z6 := (World.frozen?_of_block (a := ⟨b, 6, none⟩) hbk5).trans (F64A.out _); have g5 := (World.cell?_of_block (a := ⟨g, 0, none⟩) (hgrow5.block g (by simp; omega) HNG.out)).trans (G4A.out _); have HOWN5 := Aside0.mk hown5; have HGROW5 := Aside0.mk (show (w4.alloc (.cells (hcs c).toArray 27)).grownBy w5 v6.ownBlock from ⟨hgrow5.os, hgrow5.tape, hgrow5.output, hgrow5.size, hgrow5.block⟩); clear hown5 hgrow5 hloc5 hlt5 hbk5)
        all_goals
          have hmb : mb < w1.heap.size := MP.out.lt
          have hg45 : ∀ ob : Obj, w4.grownBy (w4.alloc ob) none := fun ob => World.grownBy_alloc w4 ob none
          have hr5 := ((HRG4.out.alloc (.cells (hcs c).toArray 27)).kept HGROW5.out (fun e => by have := (HOW4.out.lt mb e.symm).1; omega) (fun e => by have := (HOW4.out.lt _ e.symm).1; omega)).kept (grown_set w5 ⟨b, 6, none⟩ (.slice (some ⟨gg, 0, none⟩) (out.length + 1) cap)) (by simp; exact hbm) (by simp; omega)
          have hgg := HOWN5.out.lt gg rfl
          have ho5 := HOWN5.out.kept (grown_set w5 ⟨b, 6, none⟩ (.slice (some ⟨gg, 0, none⟩) (out.length + 1) cap)) (.inr (by simp [Value.ownBlock]; omega))
          have hk5 := ((HK4.out.grown hb1 (hg45 (.cells (hcs c).toArray 27)) (fun j e => by cases e)).grown hb1 HGROW5.out (fun j e => by have := (HOW4.out.lt j e).1; omega)).set (.slice (some ⟨gg, 0, none⟩) (out.length + 1) cap)
          have hz5 := hk5.only.size
          have h65 := World.cell?_setCell_same w5 ⟨b, 6, none⟩ (.slice (some ⟨gg, 0, none⟩) (out.length + 1) cap) n6
          have hs5 := HGROW5.out.size
          have HR5 := Aside0.mk hr5
          have HO5 := Aside0.mk ho5
          have HK5 := Aside0.mk hk5
          have H65 := Aside0.mk h65
          clear hr5 ho5 hk5 h65 n6 z6
          go_wp2
          go_roundw
          case rel => exact ⟨_, cnt3, ss ++ [c], _, HR5, HM3, by rw [List.length_append, List.length_singleton]; omega, H65, ⟨by rw [HFIL.out, List.length_append, List.length_singleton, List.flatMap_append, List.flatMap_singleton]; exact HO5.out⟩, HK5, by simp at hs5 ⊢; omega⟩
          case measure =>
            have e1 := HR5.out.left_eq
            have e2 := HLE.out
            rw [e1, e2]
            exact HLT.out
end Go.Proofs.Ytfhgdjajifnfiaa.PA

namespace Go.Proofs.Ytfhgdjajifnfiaa.PA
open Go.Conc.Locks

abbrev muLink : MuLink := { lock := 56, unlock := 57, ilock := 69, iunlock := 70, lockSlow := 82, unlockSlow := 85, disable := 78, enable := 80, acquire := 81, relMerge := 83, cas32 := 79, add32 := 84, tMutex := 61, tIMutex := 59, tPMutex := 103, tPIMutex := 112, tPI32 := 114, tUP := 116, tNoCopy := 53, tU32 := 55 }
set_option maxRecDepth 100000 in
theorem muLib : MuLib Try.prog muLink := ⟨Try.func56, Try.func57, Try.func69, Try.func70, Try.func78, Try.func80, Try.func81, Try.func83, Try.func79, Try.func84, Try.underlying59, Try.runUnderlying59, Try.sizeOf59, Try.isAgg59, Try.zeroValue59, Try.underlying61, Try.runUnderlying61, Try.sizeOf61, Try.isAgg61, Try.zeroValue61, Try.underlying103, Try.runUnderlying103, Try.sizeOf103, Try.isAgg103, Try.zeroValue103, Try.underlying112, Try.runUnderlying112, Try.sizeOf112, Try.isAgg112, Try.zeroValue112, Try.underlying114, Try.runUnderlying114, Try.sizeOf114, Try.isAgg114, Try.zeroValue114, Try.underlying116, Try.runUnderlying116, Try.sizeOf116, Try.isAgg116, Try.zeroValue116, Try.underlying53, Try.runUnderlying53, Try.sizeOf53, Try.isAgg53, Try.zeroValue53, Try.underlying21, Try.runUnderlying21, Try.sizeOf21, Try.isAgg21, Try.zeroValue21, (by kernel_rfl)⟩
end Go.Proofs.Ytfhgdjajifnfiaa.PA
