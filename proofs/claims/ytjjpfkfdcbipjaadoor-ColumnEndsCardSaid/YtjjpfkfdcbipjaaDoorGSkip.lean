/-
  The contract of column.Skip; a line is at most 2^40 bytes.
-/
import Derived.Test.YtjjpfkfdcbipjaaDoorPAx0
import Derived.Test.YtjjpfkfdcbipjaaDoorPBase
import Derived.Test.YtjjpfkfdcbipjaaDoorCol
import Derived.Test.YtjjpfkfdcbipjaaDoorGTrims
import Derived.Test.YtjjpfkfdcbipjaaDoorGBlanks
import Derived.Test.YtjjpfkfdcbipjaaDoorGBlanks2
import Derived.WalkKit
import Derived.BigCall
import Derived.OneCell
import Derived.BigQuiet
import Derived.Deep.QuietTactic
import Derived.Deep.RegionHeld3
namespace Go.Proofs.YtjjpfkfdcbipjaaDoor.PA
open Go.RowKit Go.Proofs.YtjjpfkfdcbipjaaDoorW.PrintWords Go.Proofs.YtjjpfkfdcbipjaaDoorW.PrintLast Go.Proofs.YtjjpfkfdcbipjaaDoorW.PrintMore Go.Proofs.YtjjpfkfdcbipjaaDoor.Pl
set_option linter.unusedVariables false

theorem repeatL_sp : ∀ n : Nat, Lib.repeatL [32] n = List.replicate n 32
  | 0 => rfl
  | n + 1 => by rw [Lib.repeatL, repeatL_sp n]; rfl
/-- A line without some columns. -/
def skipF (l : List UInt8) (c n : Nat) : ByteArray × Int :=
  if (skp l c n).1 = 0 ∨ (skp l c n).2.1 = 0 then (B (l.drop (skp l c n).2.2.2), ((skp l c n).2.2.1 : Int))
  else (B (List.replicate ((skp l c n).1 - (skp l c n).2.1) 32 ++ l.drop ((skp l c n).2.2.2 + 1)), ((skp l c n).2.2.1 : Int) + ((skp l c n).2.1 : Int))
theorem cell_keep {w w' : World} {p : Addr} {v : Value} (h : Below w.heap.size w w') (hp : p.block < w.heap.size) (hc : w.cell? p = some v) : w'.cell? p = some v := by rw [h.cell hp, hc]

theorem al_old (w : World) (o : Obj) (k : Nat) (h : k < w.heap.size) : (w.alloc o).heap[k]? = w.heap[k]? := ((Below.refl w.heap.size w).alloc (Nat.le_refl _) o).block k h
theorem al_size (w : World) (o : Obj) : (w.alloc o).heap.size = w.heap.size + 1 := Array.size_push _
theorem ex_then_ret {next : Act → World → Prop} {Q : Exit → Act → World → Prop} {a : Act} {w : World} (h : Q Exit.ret a w) : Exit.then next Q Exit.ret a w := h
theorem ex_block_ret {id : Nat} {Q : Exit → Act → World → Prop} {a : Act} {w : World} (h : Q Exit.ret a w) : Exit.inBlock id Q Exit.ret a w := h
theorem ex_noGoto_ret {Q : Exit → Act → World → Prop} {a : Act} {w : World} (h : Q Exit.ret a w) : Exit.noGoto Q Exit.ret a w := h
theorem al_three (w : World) (a b c : Obj) : (((w.alloc a).alloc b).alloc c).heap[w.heap.size]? = some a ∧ (((w.alloc a).alloc b).alloc c).heap[w.heap.size + 1]? = some b ∧ (((w.alloc a).alloc b).alloc c).heap[w.heap.size + 2]? = some c ∧
    Below w.heap.size w (((w.alloc a).alloc b).alloc c) ∧ (((w.alloc a).alloc b).alloc c).heap.size = w.heap.size + 3 := by
  refine ⟨?_, ?_, ?_, ?_, ?_⟩
  · rw [al_old _ _ _ (by rw [al_size, al_size]; omega), al_old _ _ _ (by rw [al_size]; omega)]; exact heap_alloc_new w a
  · rw [al_old _ _ _ (by rw [al_size, al_size]; omega), ← al_size w a]; exact heap_alloc_new _ b
  · have := heap_alloc_new ((w.alloc a).alloc b) c
    rw [al_size, al_size] at this
    exact this
  · exact (((Below.refl _ w).alloc (Nat.le_refl _) a).alloc (by rw [al_size]; omega) b).alloc (by rw [al_size, al_size]; omega) c
  · rw [al_size, al_size, al_size]

theorem sk_keep {w w5 w0 : World} {b : Nat} {x y z : Value} (hb5 : Below w.heap.size w w5)
    (h : w.cell? ⟨b, 0, none⟩ = some x ∧ w.cell? ⟨b + 1, 0, none⟩ = some y ∧ w.cell? ⟨b + 2, 0, none⟩ = some z ∧ Below b w0 w ∧ b + 3 ≤ w.heap.size) :
    w5.cell? ⟨b, 0, none⟩ = some x ∧ w5.cell? ⟨b + 1, 0, none⟩ = some y ∧ w5.cell? ⟨b + 2, 0, none⟩ = some z ∧ Below b w0 w5 ∧ b + 3 ≤ w5.heap.size := by
  obtain ⟨h1, h2, h3, h4, h5⟩ := h
  exact ⟨cell_keep hb5 (by show b < _; omega) h1, cell_keep hb5 (by show b + 1 < _; omega) h2, cell_keep hb5 (by show b + 2 < _; omega) h3, h4.trans (hb5.mono (by omega)), Nat.le_trans h5 hb5.size⟩

theorem column_Skip.few (l : List UInt8) (col n : Int) (w : World) (hn : n < 1) :
    Calls Tryd.prog 12 #[.string (B l), .int .i64 col, .int .i64 n] w fun e w' => e = .returned (.tuple #[.string (B l), .int .i64 col]) ∧ Below w.heap.size w w' := by
  have q := decide_eq_true hn
  go_enter Tryd.func12, Tryd.ntmps12
  go_wp2_with fail
  have c1 : ((w.alloc (Obj.cells #[Value.int IntKind.i64 col] 3)).alloc (Obj.cells #[Value.int IntKind.i64 n] 3)).cell? ⟨w.heap.size, 0, none⟩ = some (.int .i64 col) := cell_of_one (by rw [al_old _ _ _ (by rw [al_size]; omega)]; exact heap_alloc_new w _)
  have hb : Below w.heap.size w ((w.alloc (Obj.cells #[Value.int IntKind.i64 col] 3)).alloc (Obj.cells #[Value.int IntKind.i64 n] 3)) := ((Below.refl _ w).alloc (Nat.le_refl _) _).alloc (by rw [al_size]; omega) _
  obtain ⟨w1, hw1⟩ : ∃ w1, w1 = (w.alloc (Obj.cells #[Value.int IntKind.i64 col] 3)).alloc (Obj.cells #[Value.int IntKind.i64 n] 3) := ⟨_, rfl⟩
  rw [← hw1] at c1 hb ⊢
  clear hw1
  go_quiet (fail)
  obtain ⟨w2, hw2⟩ : ∃ w2, w2 = w1.drewN nq := ⟨_, rfl⟩
  rw [← hw2]
  have hb2 : Below w.heap.size w w2 := by rw [hw2]; exact pw_below_drewN hb _
  clear hw2 hb c1
  go_wp2
  repeat (first | refine ex_noGoto_ret ?_ | refine ex_block_ret ?_ | refine ex_then_ret ?_)
  go_ret2
  exact ⟨rfl, hb2⟩

set_option maxHeartbeats 1000000 in
set_option maxRecDepth 100000 in
theorem column_Skip.many (l : List UInt8) (col : Int) (n : Nat) (w : World) (hl : l.length ≤ 1099511627776) (hn : 1 ≤ n) (hn2 : n ≤ 1099511627776) :
    Calls Tryd.prog 12 #[.string (B l), .int .i64 col, .int .i64 n] w fun e w' => e = .returned (.tuple #[.string (skipF l (fromC col) n).1, .int .i64 (skipF l (fromC col) n).2]) ∧ Below w.heap.size w w' := by
  have hz : (B l).size = l.length := B_size l
  have q : decide ((n : Int) < 1) = false := decide_eq_false (by omega)
  have hfc := fromC_le col
  go_enter Tryd.func12, Tryd.ntmps12
  go_wp2_with fail
  refine (from_fn _ _).mono ?_
  rintro e w1 ⟨rfl, rfl⟩
  rw [fromC_eq]
  go_wp2_with fail
  have h3 := al_three w (.cells #[.int .i64 (fromC col : Int)] 3 (0, 0)) (.cells #[.int .i64 (n : Int)] 3 (0, 0)) (.cells #[.int .i64 0] 3 (0, 0))
  obtain ⟨h1, h2, h4, h5, h6⟩ := h3
  obtain ⟨w1, hw1⟩ : ∃ w1, w1 = ((w.alloc (.cells #[.int .i64 (fromC col : Int)] 3 (0, 0))).alloc (.cells #[.int .i64 (n : Int)] 3 (0, 0))).alloc (.cells #[.int .i64 0] 3 (0, 0)) := ⟨_, rfl⟩
  rw [← hw1] at h1 h2 h4 h5 h6
  rw [show (((w.alloc (Obj.cells #[Value.int IntKind.i64 ↑(fromC col)] 3)).alloc (Obj.cells #[Value.int IntKind.i64 ↑n] 3)).alloc (Obj.cells #[Value.int IntKind.i64 0] 3)) = w1 from hw1.symm]
  clear hw1
  obtain ⟨b, hb⟩ : ∃ b, w.heap.size = b := ⟨_, rfl⟩
  have HBB := Aside0.mk hb
  rw [hb] at h1 h2 h4 h5 h6 ⊢
  refine (blanks_skip l (fromC col) n b w1 hl hfc (by omega) ⟨h1, h2, h4⟩).mono ?_
  rintro e w2 ⟨rfl, g1, g2, g3⟩
  have hsk := skp_le l (fromC col) n
  have hskF : skipF l (fromC col) n = if (skp l (fromC col) n).1 = 0 ∨ (skp l (fromC col) n).2.1 = 0 then (B (l.drop (skp l (fromC col) n).2.2.2), ((skp l (fromC col) n).2.2.1 : Int))
    else (B (List.replicate ((skp l (fromC col) n).1 - (skp l (fromC col) n).2.1) 32 ++ l.drop ((skp l (fromC col) n).2.2.2 + 1)), ((skp l (fromC col) n).2.2.1 : Int) + ((skp l (fromC col) n).2.1 : Int)) := rfl
  obtain ⟨cut, hcut⟩ : ∃ x, (skp l (fromC col) n).1 = x := ⟨_, rfl⟩
  obtain ⟨n', hn'⟩ : ∃ x, (skp l (fromC col) n).2.1 = x := ⟨_, rfl⟩
  obtain ⟨col', hcol'⟩ : ∃ x, (skp l (fromC col) n).2.2.1 = x := ⟨_, rfl⟩
  obtain ⟨k, hk⟩ : ∃ x, (skp l (fromC col) n).2.2.2 = x := ⟨_, rfl⟩
  rw [hcut, hn', hcol', hk] at hsk hskF
  rw [hcut, hn', hcol'] at g1
  rw [hk]
  have c1 := cell_of_one g1.1
  have c2 := cell_of_one g1.2.1
  have c3 := cell_of_one g1.2.2
  have hbw : Below b w w2 := (h5.trans g2)
  have hsz : w2.heap.size = b + 3 := g3.trans h6
  have HSK := Aside0.mk hskF
  obtain ⟨s1, s2, s3, s4, s5⟩ := hsk
  clear h1 h2 h4 h5 h6 g1 g2 g3 hskF hcut hn' hcol' hk hb
  by_cases hc0 : cut = 0
  · subst hc0
    replace HSK := Aside0.mk (HSK.out.trans (if_pos (.inl rfl)))
    go_wp2_with fail
    go_quiet (fail)
    obtain ⟨w4, hw4⟩ : ∃ w4, w4 = w2.drewN nq := ⟨_, rfl⟩
    rw [← hw4]
    have hb4 : Below b w w4 := by rw [hw4]; exact pw_below_drewN hbw _
    clear hw4 c1 c2 c3 hbw
    go_wp2
    repeat (first | refine ex_noGoto_ret ?_ | refine ex_block_ret ?_ | refine ex_then_ret ?_)
    go_ret2
    rw [HSK.out]
    rw [HBB.out]
    exact ⟨rfl, hb4⟩
  · by_cases hn0 : n' = 0
    · subst hn0
      have q1 : ((cut : Int) == 0) = false := beq_eq_false_iff_ne.2 (by omega)
      replace HSK := Aside0.mk (HSK.out.trans (if_pos (.inr rfl)))
      go_wp2_with fail
      go_quiet (fail)
      obtain ⟨w4, hw4⟩ : ∃ w4, w4 = w2.drewN nq := ⟨_, rfl⟩
      rw [← hw4]
      have hb4 : Below b w w4 := by rw [hw4]; exact pw_below_drewN hbw _
      clear hw4 c1 c2 c3 hbw
      go_wp2
      repeat (first | refine ex_noGoto_ret ?_ | refine ex_block_ret ?_ | refine ex_then_ret ?_)
      go_ret2
      rw [HSK.out]
      rw [HBB.out]
      exact ⟨rfl, hb4⟩
    · have q1 : ((cut : Int) == 0) = false := beq_eq_false_iff_ne.2 (by omega)
      have q2 : ((n' : Int) == 0) = false := beq_eq_false_iff_ne.2 (by omega)
      replace HSK := Aside0.mk (HSK.out.trans (if_neg (by omega)))
      have hk1 := (s5 hc0).1
      have hk2 := (s5 hc0).2
      have hzk : (B (l.drop k)).size = l.length - k := by rw [B_size, List.length_drop]
      have hex : (B (l.drop k)).extract 1 (l.length - k) = B (l.drop (k + 1)) := by rw [B_from _ 1 _ (by rw [List.length_drop]), List.drop_drop]
      have hwr : IntKind.i64.wrap ((cut : Int) - (n' : Int)) = (cut : Int) - (n' : Int) := IntWalk.i64_in _ (by omega)
      have hwr2 : IntKind.i64.wrap ((col' : Int) + (n' : Int)) = (col' : Int) + (n' : Int) := IntWalk.i64_in _ (by omega)
      have hrep : strings_Repeat.f ⟨#[32]⟩ ((cut : Int) - (n' : Int)) = some (B (List.replicate (cut - n') 32)) := by
        unfold strings_Repeat.f
        rw [if_pos (by refine ⟨by omega, by omega, by decide⟩), show ((cut : Int) - (n' : Int)).toNat = cut - n' by omega, ← repeatL_sp]
        rfl
      have hzc : (B (List.replicate (cut - n') 32) ++ B (l.drop (k + 1))).size ≤ 4611686018427387904 := by
        rw [B_append, B_size, List.length_append, List.length_replicate, List.length_drop]
        omega
      have hzd : (B (List.replicate (cut - n') 32)).size + (B (l.drop (k + 1))).size ≤ 9223372036854775807 := by
        rw [B_size, B_size, List.length_replicate, List.length_drop]
        omega
      have hze := decide_eq_true hzd
      have hzf : ¬ 9223372036854775807 < (B (List.replicate (cut - n') 32)).size + (B (l.drop (k + 1))).size := by omega
      have hzg := decide_eq_false hzf
      have hs1 : (0 : Int) ≤ 1 := by omega
      have hs2 : (1 : Int) ≤ ((l.length - k : Nat) : Int) := by omega
      clear s1 s2 s3 s4 s5 hk2 hz hl hn hn2 hfc
      go_wp2_with fail
      go_region_held3 (fun W => W.cell? ⟨b, 0, none⟩ = some (.int .i64 (col' : Int)) ∧ W.cell? ⟨b + 1, 0, none⟩ = some (.int .i64 (n' : Int)) ∧ W.cell? ⟨b + 2, 0, none⟩ = some (.int .i64 (cut : Int)) ∧ Below b w W ∧ b + 3 ≤ W.heap.size)
        (first | (refine sk_keep hb5 ?_; assumption) | (refine ⟨?_, ?_, ?_, ?_, ?_⟩ <;> first | (simp [*]; done) | exact Below.drew ‹_› | exact pw_below_drewN ‹_› _ | (simp [World.drew, *]; done)))
        (first | (go_at_call 23; refine (strings_Repeat.calls _ _ _ _ hrep).mono ?_; rintro e w5 ⟨rfl, hb5⟩))
      rename_i hh
      have hbf := hh.2.2.2.1
      clear hh hwr hwr2 hrep hzc hzd hze hzf hzg hzk hex hb5
      go_wp2
      repeat (first | refine ex_noGoto_ret ?_ | refine ex_block_ret ?_ | refine ex_then_ret ?_)
      go_ret2
      rw [HSK.out, HBB.out, B_append]
      exact ⟨rfl, hbf⟩
def column_Skip.f (a0 : ByteArray) (a1 a2 : Int) : Option (ByteArray × Int) := if a2 < 1 then some (a0, a1) else if a0.size ≤ 1099511627776 ∧ a2 ≤ 1099511627776 then some (skipF a0.data.toList (fromC a1) a2.toNat) else none
theorem column_Skip.calls (a0 : ByteArray) (a1 a2 : Int) (r1 : ByteArray) (r2 : Int) (w : World) (h : column_Skip.f a0 a1 a2 = some (r1, r2)) :
    Calls Tryd.prog 12 #[.string a0, .int .i64 a1, .int .i64 a2] w fun e w' => e = .returned (.tuple #[.string r1, .int .i64 r2]) ∧ Below w.heap.size w w' := by
  unfold column_Skip.f at h
  split at h
  · rename_i hc
    simp only [Option.some.injEq, Prod.mk.injEq] at h
    obtain ⟨rfl, rfl⟩ := h
    exact column_Skip.few a0.data.toList a1 a2 w hc
  · rename_i hc
    split at h
    · rename_i hd
      have h2 := Option.some.inj h
      have e1 : r1 = (skipF a0.data.toList (fromC a1) a2.toNat).1 := by rw [h2]
      have e2 : r2 = (skipF a0.data.toList (fromC a1) a2.toNat).2 := by rw [h2]
      obtain ⟨n, rfl⟩ := Int.eq_ofNat_of_zero_le (show 0 ≤ a2 by omega)
      rw [e1, e2]
      exact column_Skip.many a0.data.toList a1 n w (by rw [Array.length_toList]; exact hd.1) (by omega) (by omega)
    · cases h
end Go.Proofs.YtjjpfkfdcbipjaaDoor.PA
