/-
  The contract of table.Cells. (Under way.)
-/
import Derived.RangeFuncBox
import Derived.Maps.AppendAt
import Derived.Test.YthbadcdiagcfkaaDoorGParts
import Derived.Test.YthbadcdiagcfkaaDoorGTrims
import Derived.Test.YthbadcdiagcfkaaDoorGLib
namespace Go.Proofs.YthbadcdiagcfkaaDoor.PA
open Go.RowKit Go.Shelf Go.Proofs.YthbadcdiagcfkaaDoor.Pl Go.Proofs.YthbadcdiagcfkaaDoorW.PrintWords Go.Proofs.YthbadcdiagcfkaaDoorW.PrintLast Go.Proofs.YthbadcdiagcfkaaDoorW.PrintMore
set_option linter.unusedVariables false
attribute [local go_sem] Oper.semAt_some

theorem parts_in (F : Fence) (n : Nat) (hF : F.fn 30) (hro : F.round = none) (s : ByteArray) (w : World) :
    CallsIn F n Tryd.prog 30 #[.string s] w fun e w' => e = .returned (.func (.func 47) #[] #[.pointer (some ⟨w.heap.size, 0, none⟩)]) ∧ w' = w.alloc (.cells #[.string s] 9) := by
  refine callsIn_of_wp Tryd.func30 rfl hF ?_ hro
  simp only [Tryd.ntmps30, List.size_toArray, List.length_cons, List.length_nil, Nat.reduceAdd, Nat.reduceSub, Array.replicate_succ, Array.replicate_zero, List.push_toArray, List.append_toArray, List.nil_append, List.cons_append]
  gi_wp2
  go_ret
  exact ⟨rfl, rfl⟩
/-- A piece of at most n bytes. -/
abbrev Pc (n : Nat) := { x : List UInt8 // x.length ≤ n }
theorem parts_stops (F : Fence) (n : Nat) (hF : F.fn 47) (hro : F.round = none) (hn : 1 ≤ n) (Bs : Nat) (s : List UInt8) (hz : s.length ≤ 1099511627776) (w : World) (hb : Bs < w.heap.size)
    (hc : w.cell? ⟨Bs, 0, none⟩ = some (.string (B s))) :
    SeqStopsK F n Tryd.prog 47 #[.pointer (some ⟨Bs, 0, none⟩)] (fun x : Pc s.length => #[Value.string (B x.1)]) (KB Bs) (fun ys => ys.map Subtype.val = prt [] 0 s) (fun _ => True) (prt [] 0 s).length w := fun l J Jx W hW _ _ hY h0 => by
  refine (parts1_in F n hF hro hn l Bs s hz (fun pre W => ∃ ys : List (Pc s.length), ys.map Subtype.val = pre ∧ J ys W) (fun pre W => ∃ ys : List (Pc s.length), ys.map Subtype.val = pre ∧ Jx ys W) ?_ W ((hW.cell (p := ⟨Bs, 0, none⟩) (by show Bs < _; omega)).trans hc) ⟨[], rfl, h0⟩).mono ?_
  · rintro pre x W1 ⟨ys, rfl, hJ⟩ hlt hx
    refine (hY ys ⟨x, hx⟩ W1 hJ (by rw [List.length_map] at hlt; exact hlt)).mono ?_
    rintro e W2 (⟨rfl, h1, h2⟩ | ⟨rfl, h1⟩)
    · exact .inl ⟨rfl, ⟨_, by simp, h1⟩, h2⟩
    · exact .inr ⟨rfl, ⟨_, by simp, h1⟩⟩
  · rintro e W1 ⟨hv, ⟨ys, h1, zs, h2, h3⟩ | ⟨pre, h1, zs, h2, h3⟩⟩
    · exact ⟨hv, .inl ⟨zs, h2.trans h1, h3⟩⟩
    · exact ⟨hv, .inr ⟨zs, trivial, h3⟩⟩
theorem colTrim (a : ByteArray) (w : World) (h : a.size ≤ 1073741824) :
    Calls Tryd.prog 27 #[.string a] w fun e w' => e = .returned (.string ⟨(Lib.trimS a.data.toList [32, 9, 10, 11, 12, 13]).toArray⟩) ∧ Below w.heap.size w w' := by
  have hf : strings_Trim.f a ⟨#[32, 9, 10, 11, 12, 13]⟩ = some ⟨(Lib.trimS a.data.toList [32, 9, 10, 11, 12, 13]).toArray⟩ := by
    unfold strings_Trim.f
    rw [if_pos ⟨by omega, by decide, by decide⟩]
  go_enter Tryd.func27, Tryd.ntmps27
  go_wp2_with fail
  refine (strings_Trim.calls _ _ _ _ hf).mono ?_
  rintro e w1 ⟨rfl, hb⟩
  go_wp2
  go_ret
  exact ⟨rfl, hb⟩
theorem infoStr : (Tryd.prog.info? 9).map (fun i => (i.zero, i.size, i.bytes)) = some (some (.string ByteArray.empty), 1, 16) := by kernel_rfl
/-- A text without the backslashes ahead of bars. -/
def unb : List UInt8 → List UInt8
  | [] => []
  | [x] => [x]
  | x :: y :: t => if x = 92 ∧ y = 124 then 124 :: unb t else x :: unb (y :: t)
theorem unb_len (l : List UInt8) : (unb l).length ≤ l.length := by
  fun_induction unb l <;> simp_all <;> omega
theorem repl_unb : ∀ (n : Nat) (l : List UInt8), l.length ≤ n → Lib.replaceK [92, 124] [124] (Lib.count l [92, 124]) l = unb l
  | 0, l, h => by
    obtain rfl := List.length_eq_zero_iff.1 (Nat.le_zero.1 h)
    rfl
  | n + 1, [], _ => rfl
  | n + 1, [x], _ => by
    have hi : Lib.index [x] [92, 124] = -1 := by
      unfold Lib.index
      rw [if_neg (by simp [List.isPrefixOf])]
      rfl
    rw [Lib.count_miss hi]
    rfl
  | n + 1, x :: y :: t, h => by
    simp only [List.length_cons] at h
    by_cases hp : x = 92 ∧ y = 124
    · obtain ⟨rfl, rfl⟩ := hp
      have hi : Lib.index (92 :: 124 :: t) [92, 124] = ((0 : Nat) : Int) := by
        unfold Lib.index
        rw [if_pos (by simp [List.isPrefixOf])]
        rfl
      rw [Lib.count_hit (by simp) hi, Nat.add_comm, Lib.replaceK_hit _ _ _ _ _ hi, unb, if_pos ⟨rfl, rfl⟩]
      show [124] ++ Lib.replaceK _ _ (Lib.count t _) t = _
      rw [repl_unb n t (by omega)]
      rfl
    · have hnp : ¬ ([92, 124].isPrefixOf (x :: y :: t)) = true := by
        intro e
        simp [List.isPrefixOf] at e
        exact hp ⟨e.1.symm, e.2.symm⟩
      have ih := repl_unb n (y :: t) (by simp; omega)
      have hge := Lib.index_ge (y :: t) [92, 124]
      rw [unb, if_neg hp, ← ih]
      by_cases hm : Lib.index (y :: t) [92, 124] = -1
      · have hi : Lib.index (x :: y :: t) [92, 124] = -1 := by
          rw [Lib.index, if_neg hnp, if_pos (by rw [hm]; rfl)]
        rw [Lib.count_miss hi, Lib.count_miss hm]
        rfl
      · obtain ⟨i, hi0⟩ := Int.eq_ofNat_of_zero_le (a := Lib.index (y :: t) [92, 124]) (by omega)
        have hi : Lib.index (x :: y :: t) [92, 124] = ((i + 1 : Nat) : Int) := by
          rw [Lib.index, if_neg hnp, if_neg (by rw [hi0]; intro e; have := beq_iff_eq.1 e; omega), hi0]
          rfl
        rw [Lib.count_hit (by simp) hi, Lib.count_hit (by simp) hi0, Nat.add_comm 1 (Lib.count _ _), Lib.replaceK_hit _ _ _ _ _ hi, Nat.add_comm 1 (Lib.count _ _), Lib.replaceK_hit _ _ _ _ _ hi0]
        simp
theorem replAll (l : List UInt8) : Lib.replaceAll l [92, 124] [124] = unb l := by
  unfold Lib.replaceAll Lib.replace Lib.replaceNum
  rw [if_neg (by decide), if_pos (.inl (by decide))]
  exact repl_unb _ l (Nat.le_refl _)
/-- A cell's text. -/
def celB (p : List UInt8) : ByteArray := ⟨(Lib.trimS (unb p) [32, 9, 10, 11, 12, 13]).toArray⟩
theorem trimCall (y : List UInt8) (w : World) (h : y.length ≤ 1073741824) :
    Calls Tryd.prog 27 #[.string ⟨y.toArray⟩] w fun e w' => e = .returned (.string ⟨(Lib.trimS y [32, 9, 10, 11, 12, 13]).toArray⟩) ∧ Below w.heap.size w w' :=
  colTrim ⟨y.toArray⟩ w (by show y.toArray.size ≤ _; simpa using h)
theorem replCall (x : List UInt8) (w : World) (hLd : Laid w) (h : x.length ≤ 1048576) :
    Calls Tryd.prog 31 #[.string (B x), .string ⟨#[92, 124]⟩, .string ⟨#[124]⟩] w fun e w' => e = .returned (.string ⟨(unb x).toArray⟩) ∧ Below w.heap.size w w' := by
  obtain ⟨m, hm⟩ := hLd.ml
  have hs := B_size x
  have h1 := Lib.countB_le ⟨#[92, 124]⟩ (by decide) _ (B x) (Nat.le_refl _)
  have h2 := Tryd.strings_ReplaceAll (B x) ⟨#[92, 124]⟩ ⟨#[124]⟩ m w (by omega) hm (by decide) (by
    rw [show (ByteArray.size ⟨#[124]⟩) = 1 from rfl]
    omega)
  rw [B_data, replAll] at h2
  exact h2
/-- What is cut into cells. -/
def cut1 (s : List UInt8) : List UInt8 := Lib.trimPrefix (Lib.trimS s [32, 9, 10, 11, 12, 13]) [124]
def cutB (s : List UInt8) : List UInt8 := if Lib.hasSuffix (cut1 s) [92, 124] = true then cut1 s else Lib.trimSuffix (cut1 s) [124]
theorem dropW_len (p : UInt8 → Bool) : ∀ l : List UInt8, (l.dropWhile p).length ≤ l.length
  | [] => by simp
  | x :: t => by
    rw [List.dropWhile_cons]
    have := dropW_len p t
    split
    · rw [List.length_cons]; omega
    · exact Nat.le_refl _
theorem trimS_len (l cs : List UInt8) : (Lib.trimS l cs).length ≤ l.length := by
  unfold Lib.trimS Lib.trimLeftS Lib.trimRightS
  have h1 := dropW_len (fun c => cs.contains c) (l.reverse.dropWhile fun c => cs.contains c).reverse
  have h2 := dropW_len (fun c => cs.contains c) l.reverse
  rw [List.length_reverse] at h1 h2
  omega
theorem cut1_len (s : List UInt8) : (cut1 s).length ≤ s.length := by
  have h := trimS_len s [32, 9, 10, 11, 12, 13]
  unfold cut1 Lib.trimPrefix
  split
  · rw [List.length_drop]; omega
  · exact h
theorem cutB_len (s : List UInt8) : (cutB s).length ≤ s.length := by
  have h := cut1_len s
  unfold cutB
  split
  · exact h
  · unfold Lib.trimSuffix
    split
    · rw [List.length_take]; omega
    · exact h
/-- The builtin append onto what the call owns, as one step of a region that draws, inside a fence. -/
theorem stepIn_append_own {F : Fence} {n : Nat} {P : Program} {w : World} {ops : Array Oper} {o : Oper} {a : Act} {K : Act → World → Prop} {Q : Exit → Act → World → Prop} {E : Prop}
    (hg : o.guard = none) (s x : Operand) (t : TypeId) (hop : o.op = Op.call { callee := Callee.builtin Builtin.append, args := #[s, x], argTypes := #[t, t] })
    (base : Nat) (e : TypeId) (i : TypeInfo) (z : Value) (size bytes : Nat) (h1 : P.underlying t = some (.slice e)) (h2 : P.info? e = some i) (h3 : i.zero = some z) (h4 : i.size = size) (h5 : i.bytes = bytes) (h6 : z.cells.size = size) (h7 : 0 < size)
    (v : Value) (k : Nat) (xs : List Value) (hs : a.eval s = v) (hown : w.ownsRow base e size v k xs) (ad : Addr) (m c : Nat) (news : List Value) (hx : a.eval x = .slice (some ad) m c) (hn : news.length = m * size)
    (hc : ∀ j u, news[j]? = some u → w.cell? (ad.add j) = some u) (h1c : ∀ u ∈ news, u.oneCell' = true) (b1 : k + m ≤ maxLen) (b2 : (k + m) * bytes ≤ 140737488355328) (b3 : base ≤ w.heap.size)
    (hK : ∀ v' w', w'.ownsRow base e size v' (k + m) (xs ++ news) → w.grownBy w' v.ownBlock → K (a.put o.dst v') w') :
    if Region.wanted o (yielded ops a.tmps) = true then Oper.wpIn F n P o a w K Q else E := by
  have hw : Region.wanted o (yielded ops a.tmps) = true := by simp [Region.wanted, hg]
  rw [if_pos hw]
  obtain ⟨v', w', hrun, r1, r2, r3⟩ := run_append_own (P := P) w base t o.type e i z size bytes h1 h2 h3 h4 h5 h6 h7 v k xs hown ad m c news hn hc h1c b1 b2 b3
  unfold Oper.wpIn
  refine ⟨?_, ?_⟩
  · simp [Oper.about, hop, resolve, Target.leads, Sem.run_pure]
  · rw [Oper.semAt_plain F _ _ (by rw [hop]; intro c hc'; cases hc')]
    simp [execOp, hop, resolve, invoke, builtin, hs, hx, hrun, Result.andThen]
    exact hK _ _ r1 r2
theorem own_base {W : World} {B B' : Nat} {e : TypeId} {size n : Nat} {v : Value} {xs : List Value} (h : W.ownsRow B e size v n xs) (hb : B' ≤ B) : W.ownsRow B' e size v n xs := by
  rcases h with ⟨h1, h2 | ⟨g, cap, cur, h3, h4, h5⟩⟩
  · exact ⟨h1, .inl h2⟩
  · exact ⟨h1, .inr ⟨g, cap, cur, h3, Nat.le_trans hb h4, h5⟩⟩
theorem own_at {W : World} {B : Nat} {e : TypeId} {size n : Nat} {v : Value} {xs : List Value} (h : W.ownsRow B e size v n xs) (b : Nat) (hb : b < B) : some b ≠ v.ownBlock := by
  rcases h with ⟨h1, ⟨rfl, _⟩ | ⟨g, cap, cur, rfl, h4, h5⟩⟩
  · simp [Value.ownBlock]
  · intro e
    have : b = g := by simpa [Value.ownBlock] using e
    omega
theorem keepsO_below {W W' : World} (h : Below W.heap.size W W') : KeepsOthers W W' := ⟨h.size, fun k o hk _ => (h.block k (Array.getElem?_eq_some_iff.1 hk).1).trans hk⟩
theorem boxed_below {W W' : World} {b : Nat} {t : TypeId} {v : Value} (h : Boxed W b t v) (hb : Below W.heap.size W W') : Boxed W' b t v := (hb.block b h.lt).trans h
/-- What stands in the round's world X, which has come of W. -/
structure RSt (B0 Bx Bs Bf : Nat) (v : Value) (n : Nat) (xs : List Value) (W X : World) : Prop where
  laid : Laid X
  box : Boxed X Bx 27 v
  row : X.ownsRow Bf 9 1 v n xs
  bel : KB Bs W X ∧ Below B0 W X
  keep : KeepsFrom Bf W X
  bz : B0 ≤ X.heap.size ∧ Bs < X.heap.size ∧ Bf ≤ X.heap.size
theorem RSt.go {B0 Bx Bs Bf : Nat} {v : Value} {n : Nat} {xs : List Value} {W X Y : World} (h : RSt B0 Bx Bs Bf v n xs W X) (hb : Below X.heap.size X Y) : RSt B0 Bx Bs Bf v n xs W Y :=
  ⟨h.laid.go hb, boxed_below h.box hb, pw_own_below h.row hb, ⟨Eq.trans (hb.block _ h.bz.2.1) h.bel.1, h.bel.2.trans (hb.mono h.bz.1)⟩, h.keep.trans ((keepsO_below hb).from _), by have := hb.size; have := h.bz; omega⟩
set_option maxRecDepth 100000 in
set_option maxHeartbeats 2000000 in
theorem cells_walk (s0 : ByteArray) (w : World) (hLd : Laid w) (hs : s0.size ≤ 1048576) : Calls Tryd.prog 13 #[.string s0] w fun e w' => ∃ v0_, e = .returned v0_ ∧ Kd.R Kd.string 9 w' w.heap.size (fun _ => True) v0_ ((prt [] 0 (cutB s0.data.toList)).map celB) ∧ Below w.heap.size w w' := by
  have hl0 : s0.data.toList.length ≤ 1048576 := by rw [Array.length_toList]; exact hs
  have hz1 := cut1_len s0.data.toList
  have hz2 := cutB_len s0.data.toList
  have hcB : cutB s0.data.toList = if Lib.hasSuffix (cut1 s0.data.toList) [92, 124] = true then cut1 s0.data.toList else Lib.trimSuffix (cut1 s0.data.toList) [124] := rfl
  obtain ⟨i0, hi, hi0, hi1, hi2⟩ := info_parts infoStr
  obtain ⟨s2, hs2⟩ : ∃ s2, cutB s0.data.toList = s2 := ⟨_, rfl⟩
  rw [hs2] at hz2 hcB ⊢
  clear hs2
  refine (callsIn_wide (n := 5)).1 ?_
  refine callsIn_of_wp_marks Tryd.func13 rfl trivial ?_ rfl
  simp only [Tryd.ntmps13, List.size_toArray, List.length_cons, List.length_nil, Nat.reduceAdd, Nat.reduceSub, Array.replicate_succ, Array.replicate_zero, List.push_toArray, List.append_toArray, List.nil_append, List.cons_append]
  gi_wp2
  refine ⟨trivial, ?_⟩
  refine (callsIn_wide.2 (colTrim s0 w (by omega))).mono ?_
  rintro e w1 ⟨rfl, hb1⟩
  gi_wp2
  refine ⟨trivial, ?_⟩
  refine (callsIn_wide.2 (Tryd.strings_TrimPrefix _ _ w1)).mono ?_
  rintro e w1' ⟨rfl, rfl⟩
  rw [show (⟨(Lib.trimPrefix (ByteArray.mk (Lib.trimS s0.data.toList [32, 9, 10, 11, 12, 13]).toArray).data.toList (ByteArray.mk #[124]).data.toList).toArray⟩ : ByteArray) = B (cut1 s0.data.toList) from rfl]
  generalize cut1 s0.data.toList = s1 at hz1 hcB ⊢
  gi_wp2
  refine ⟨trivial, ?_⟩
  refine (callsIn_wide.2 (Tryd.strings_HasSuffix (B s1) _ w1' (by rw [B_size]; omega))).mono ?_
  rintro e w1 ⟨rfl, rfl⟩
  rw [B_data]
  cases hsf : Lib.hasSuffix s1 [92, 124] with
  | true =>
    rw [hsf, if_pos rfl] at hcB
    subst hcB
    clear hsf
    gi_wp2
    refine ⟨trivial, ?_⟩
    refine (parts_in Fence.wide 4 trivial rfl (B s2) _).mono ?_
    rintro e w' ⟨rfl, rfl⟩
    gi_wp2
    have bO := Boxed.new w1 27 (.slice none 0 0)
    have bN := Boxed.new (w1.alloc (.cells #[.slice none 0 0] 27)) 9 (.string (B s2))
    rw [World.size_alloc] at bN
    have hB0 : Below w.heap.size w ((w1.alloc (.cells #[.slice none 0 0] 27)).alloc (.cells #[.string (B s2)] 9)) := (hb1.alloc hb1.size _).alloc (by have := hb1.size; simp; omega) _
    have hsz1 := hb1.size
    refine wpIn_rangeFunc_ownG rfl (by decide) (gf := 47) (lb := #[.pointer (some ⟨w1.heap.size + 1, 0, none⟩)]) rfl trivial (enters_of Tryd.func47 (by kernel_rfl) rfl)
      (parts_stops Fence.wide 4 trivial rfl (by omega) (w1.heap.size + 1) s2 (by omega) _ (by simp) bN.cell) (fun h k => Eq.trans k h) (fun W l o o' hl ho _ _ => by simp only [World.size_alloc] at hl; exact World.putObj_heap_other (by omega)) (Below.refl _ _) (fun _ => rfl)
      (fun (pre : List (Pc s2.length)) W => (∃ v, Boxed W w1.heap.size 27 v ∧ W.ownsRow (w1.heap.size + 2) 9 1 v pre.length ((pre.map fun x => celB x.1).map Value.string) ∧ True) ∧ Below w.heap.size w W ∧ w1.heap.size + 2 ≤ W.heap.size)
      (fun _ _ _ => False)
      (OwnFrom.and (Own.from (holdsRow_own (w1.heap.size + 2) w1.heap.size 27 9 1 (fun (pre : List (Pc s2.length)) => pre.length) (fun (pre : List (Pc s2.length)) => (pre.map fun x => celB x.1).map Value.string) (fun _ _ => True)) _) (OwnFrom.and (ownFrom_below (Nat.le_refl _) (by simp; omega)) (fun _ X Y row hs hg hr => by have := hg.size; omega)))
      (fun _ _ _ _ _ hs _ _ => hs)
      ⟨⟨_, bO.alloc _, World.ownsRow_nil _ _ _ _, trivial⟩, hB0, by simp⟩
      (fun x => { tmps := #[Value.string (B s2), undef, Value.slice none 0 0, Value.pointer (some { block := w1.heap.size, off := 0 }), Value.string (B x.1), Value.string s0, Value.string { data := (Lib.trimS s0.data.toList [32, 9, 10, 11, 12, 13]).toArray }, Value.string (B s2), Value.string (B s2), Value.bool true, Value.bool false, undef, undef, Value.string (B s2), Value.func (Fn.func 47) #[] #[Value.pointer (some { block := w1.heap.size + 1, off := 0 })], Value.string (B x.1), undef, undef, undef, undef, undef, undef, undef], defers := [] }) ?assign ?body ?done ?stop
    case assign =>
      intro l x W K hK
      gi_wp2
      exact hK
    case body =>
      rintro l pre ⟨x, hx⟩ W ⟨⟨v, hv, hrow, _⟩, hB, hge⟩ hlt
      have hL := hLd.go hB
      have hmx : Tryd.prog.follows .mixedOrders = true := by kernel_rfl
      have hul := unb_len x
      have hpl := prt_len s2 [] 0
      have hS : RSt w.heap.size w1.heap.size (w1.heap.size + 1) (w1.heap.size + 2) v pre.length ((pre.map fun x => celB x.1).map Value.string) W W.drew :=
        ⟨hL.go (below_drew (Below.refl _ _)), boxed_below hv (below_drew (Below.refl _ _)), pw_own_below hrow (below_drew (Below.refl _ _)), ⟨rfl, below_drew (Below.refl _ _)⟩, (KeepsOthers.drew _).from _, by have h1 := hB.size; have h2 := hv.lt; exact ⟨h1, by show w1.heap.size + 1 < W.heap.size; omega, hge⟩⟩
      have hc := hS.box.cell
      gi_wp2
      refine wpIn_region_any hmx ?_
      change wpAnyIn _ _ _ _ _ _ _ _ _ (World.drew _)
      clear hrow hv hL
      repeat' (first
        | exact AllReadyIn.nil
        | (refine wpAnyIn_ready (rs := [0, 1]) (by decide +kernel) (by decide) ?_)
        | (refine wpAnyIn_ready (rs := [0, 2]) (by decide +kernel) (by decide) ?_)
        | (refine wpAnyIn_ready (rs := [0, 3]) (by decide +kernel) (by decide) ?_)
        | (refine wpAnyIn_ready (rs := [0, 4]) (by decide +kernel) (by decide) ?_)
        | (refine wpAnyIn_ready (rs := [0]) (by decide +kernel) (by decide) ?_)
        | (refine wpAnyIn_ready (rs := [1]) (by decide +kernel) (by decide) ?_)
        | (refine wpAnyIn_ready (rs := [2]) (by decide +kernel) (by decide) ?_)
        | (refine wpAnyIn_ready (rs := [3]) (by decide +kernel) (by decide) ?_)
        | (refine wpAnyIn_ready (rs := [4]) (by decide +kernel) (by decide) ?_)
        | (refine AllReadyIn.cons (i := 0) rfl (fun K hK => ?_) ?_; (go_simp; refine hK _ _ ?_; clear hK K))
        | (refine AllReadyIn.cons (i := 0) rfl (fun K hK => ?_) ?_; (have hca := (hS.box.alloc (.cells #[.string ⟨(Lib.trimS (unb x) [32, 9, 10, 11, 12, 13]).toArray⟩] 9)).cell; go_simp; refine hK _ _ ?_; clear hK K hca))
        | (refine AllReadyIn.cons (i := 1) rfl (fun K hK => ?_) ?_; (go_simp; refine hK _ _ ?_; clear hK K))
        | (refine AllReadyIn.cons (i := 2) rfl (fun K hK => ?_) ?_; (go_simp; refine ⟨trivial, ?_⟩; refine (CallsIn.inRound l (callsIn_wide.2 (replCall x _ hS.laid (by omega)))).mono ?_; rintro e W2 ⟨rfl, hb⟩; replace hS := hS.go hb; replace hc := hS.box.cell; clear hb; refine hK _ _ ?_; clear hK K))
        | (refine AllReadyIn.cons (i := 3) rfl (fun K hK => ?_) ?_; (go_simp; refine ⟨trivial, ?_⟩; refine (CallsIn.inRound l (callsIn_wide.2 (trimCall (unb x) _ (by omega)))).mono ?_; rintro e W2 ⟨rfl, hb⟩; replace hS := hS.go hb; replace hc := hS.box.cell; clear hb; refine hK _ _ ?_; clear hK K))
        | (refine AllReadyIn.cons (i := 4) rfl (fun K hK => ?_) ?_; (go_simp; refine hK _ _ ?_; clear hK K)))
      all_goals
        refine wpAnyIn_ready (rs := [5]) (by decide +kernel) (by decide) ?_
        refine AllReadyIn.cons (i := 5) rfl (fun K hK => ?_) AllReadyIn.nil
        refine stepIn_append_own rfl (.tmp 16) (.tmp 20) 27 rfl (w1.heap.size + 2) 9 i0 (.string ByteArray.empty) 1 16 Tryd.underlying27 hi hi0 hi1 hi2 rfl (by decide) v _ _ rfl (hS.row.alloc _) ⟨W2.heap.size, 0, none⟩ 1 1 [.string (celB x)] rfl rfl (cell_one_new _ _ _) (by simp [Value.oneCell']) (by unfold maxLen; omega) (by omega) (by have := hS.bz.2.2; simp; omega) ?_
        rintro v' w3 hown' hgrow
        obtain ⟨g', cap', rfl⟩ := ownsRow_succ hown'
        obtain ⟨hv1, hv2, hr2, hk2, hb2⟩ := hS.box.appended (by decide) (own_base hS.row (B' := w.heap.size) (by omega)) hS.bz.1 hsz1 (own_base hown' (by omega)) hgrow
        have hc1 := hv1.cell
        have hf1 := hv1.frozen
        refine hK _ _ ?_
        clear hK K hc
        refine wpAnyIn_ready (rs := [6]) (by decide +kernel) (by decide) ?_
        refine AllReadyIn.cons (i := 6) rfl (fun K hK => ?_) AllReadyIn.nil
        go_simp
        refine hK _ _ ?_
        clear hK K
        refine wpAnyIn_done (by decide +kernel) ?_ _
        have hkb : KB (w1.heap.size + 1) W (w3.setCell ⟨w1.heap.size, 0, none⟩ (.slice (some ⟨g', 0, none⟩) (pre.length + 1) cap')) :=
          (Below.heap_setCell w3 ⟨w1.heap.size, 0, none⟩ _ (w1.heap.size + 1) (by simp)).trans ((hgrow.block (w1.heap.size + 1) (by have := hS.bz.2.1; simp; omega) (own_at hS.row _ (by omega))).trans ((Below.heap_alloc _ _ _ hS.bz.2.1).trans hS.bel.1))
        refine ⟨by rw [World.size_alloc, World.size_alloc]; exact hS.keep.trans (hk2.from _), hkb, ⟨_, hv2, ?_, trivial⟩, hB.trans (hS.bel.2.trans hb2), ?_⟩
        · have h9 := hown'.kept (grownBy_setCell' w3 w1.heap.size (.slice (some ⟨g', 0, none⟩) (pre.length + 1) cap')) (.inr (own_at hown' _ (by omega)).symm)
          rw [List.length_append, List.map_append, List.map_append]
          exact h9
        · have := hk2.size
          have := hS.bz.2.2
          omega
    case done =>
      rintro D ys W hD hys ⟨⟨v, hv, hrow, _⟩, hB, _⟩ hK
      have hc := hv.cell
      gi_wp2
      refine ⟨by simp, .inl ⟨_, _, rfl, run_takeDeferred hK, ?_⟩⟩
      have hr3 := ownsRow_putObj hrow (.deferred none) hK rfl
      have hb3 := hB.trans (belowK_b (w := w) (Nat.le_refl _) W D _ (.deferred none) (by simp at hD; omega) hK rfl rfl)
      have hl3 : ys.map (fun x => celB x.1) = (prt [] 0 s2).map celB := by rw [← hys, List.map_map]; rfl
      rw [hl3, show ys.length = ((prt [] 0 s2).map celB).length by rw [← hl3, List.length_map]] at hr3
      exact ⟨_, results_tmp rfl _ _ _, v, rfl, Kd.R_of_own (own_base hr3 (by omega)) (fun _ _ => trivial), hb3⟩
    case stop =>
      rintro D c pre W _ _ h _
      exact h.elim
  | false =>
    rw [hsf, if_neg (by decide)] at hcB
    clear hsf
    gi_wp2
    refine ⟨trivial, ?_⟩
    refine (callsIn_wide.2 (Tryd.strings_TrimSuffix (B s1) _ w1 (by rw [B_size]; omega))).mono ?_
    rintro e w1' ⟨rfl, rfl⟩
    rw [B_data, show (⟨(Lib.trimSuffix s1 (ByteArray.mk #[124]).data.toList).toArray⟩ : ByteArray) = B s2 from by rw [hcB]; rfl]
    clear hcB
    gi_wp2
    refine ⟨trivial, ?_⟩
    refine (parts_in Fence.wide 4 trivial rfl (B s2) _).mono ?_
    rintro e w' ⟨rfl, rfl⟩
    gi_wp2
    have bO := Boxed.new w1' 27 (.slice none 0 0)
    have bN := Boxed.new (w1'.alloc (.cells #[.slice none 0 0] 27)) 9 (.string (B s2))
    rw [World.size_alloc] at bN
    have hB0 : Below w.heap.size w ((w1'.alloc (.cells #[.slice none 0 0] 27)).alloc (.cells #[.string (B s2)] 9)) := (hb1.alloc hb1.size _).alloc (by have := hb1.size; simp; omega) _
    have hsz1 := hb1.size
    refine wpIn_rangeFunc_ownG rfl (by decide) (gf := 47) (lb := #[.pointer (some ⟨w1'.heap.size + 1, 0, none⟩)]) rfl trivial (enters_of Tryd.func47 (by kernel_rfl) rfl)
      (parts_stops Fence.wide 4 trivial rfl (by omega) (w1'.heap.size + 1) s2 (by omega) _ (by simp) bN.cell) (fun h k => Eq.trans k h) (fun W l o o' hl ho _ _ => by simp only [World.size_alloc] at hl; exact World.putObj_heap_other (by omega)) (Below.refl _ _) (fun _ => rfl)
      (fun (pre : List (Pc s2.length)) W => (∃ v, Boxed W w1'.heap.size 27 v ∧ W.ownsRow (w1'.heap.size + 2) 9 1 v pre.length ((pre.map fun x => celB x.1).map Value.string) ∧ True) ∧ Below w.heap.size w W ∧ w1'.heap.size + 2 ≤ W.heap.size)
      (fun _ _ _ => False)
      (OwnFrom.and (Own.from (holdsRow_own (w1'.heap.size + 2) w1'.heap.size 27 9 1 (fun (pre : List (Pc s2.length)) => pre.length) (fun (pre : List (Pc s2.length)) => (pre.map fun x => celB x.1).map Value.string) (fun _ _ => True)) _) (OwnFrom.and (ownFrom_below (Nat.le_refl _) (by simp; omega)) (fun _ X Y row hs hg hr => by have := hg.size; omega)))
      (fun _ _ _ _ _ hs _ _ => hs)
      ⟨⟨_, bO.alloc _, World.ownsRow_nil _ _ _ _, trivial⟩, hB0, by simp⟩
      (fun x => { tmps := #[Value.string (B s2), undef, Value.slice none 0 0, Value.pointer (some { block := w1'.heap.size, off := 0 }), Value.string (B x.1), Value.string s0, Value.string { data := (Lib.trimS s0.data.toList [32, 9, 10, 11, 12, 13]).toArray }, Value.string (B s1), Value.string (B s1), Value.bool false, Value.bool true, Value.string (B s1), Value.string (B s2), Value.string (B s2), Value.func (Fn.func 47) #[] #[Value.pointer (some { block := w1'.heap.size + 1, off := 0 })], Value.string (B x.1), undef, undef, undef, undef, undef, undef, undef], defers := [] }) ?assign ?body ?done ?stop
    case assign =>
      intro l x W K hK
      gi_wp2
      exact hK
    case body =>
      rintro l pre ⟨x, hx⟩ W ⟨⟨v, hv, hrow, _⟩, hB, hge⟩ hlt
      have hL := hLd.go hB
      have hmx : Tryd.prog.follows .mixedOrders = true := by kernel_rfl
      have hul := unb_len x
      have hpl := prt_len s2 [] 0
      have hS : RSt w.heap.size w1'.heap.size (w1'.heap.size + 1) (w1'.heap.size + 2) v pre.length ((pre.map fun x => celB x.1).map Value.string) W W.drew :=
        ⟨hL.go (below_drew (Below.refl _ _)), boxed_below hv (below_drew (Below.refl _ _)), pw_own_below hrow (below_drew (Below.refl _ _)), ⟨rfl, below_drew (Below.refl _ _)⟩, (KeepsOthers.drew _).from _, by have h1 := hB.size; have h2 := hv.lt; exact ⟨h1, by show w1'.heap.size + 1 < W.heap.size; omega, hge⟩⟩
      have hc := hS.box.cell
      gi_wp2
      refine wpIn_region_any hmx ?_
      change wpAnyIn _ _ _ _ _ _ _ _ _ (World.drew _)
      clear hrow hv hL
      repeat' (first
        | exact AllReadyIn.nil
        | (refine wpAnyIn_ready (rs := [0, 1]) (by decide +kernel) (by decide) ?_)
        | (refine wpAnyIn_ready (rs := [0, 2]) (by decide +kernel) (by decide) ?_)
        | (refine wpAnyIn_ready (rs := [0, 3]) (by decide +kernel) (by decide) ?_)
        | (refine wpAnyIn_ready (rs := [0, 4]) (by decide +kernel) (by decide) ?_)
        | (refine wpAnyIn_ready (rs := [0]) (by decide +kernel) (by decide) ?_)
        | (refine wpAnyIn_ready (rs := [1]) (by decide +kernel) (by decide) ?_)
        | (refine wpAnyIn_ready (rs := [2]) (by decide +kernel) (by decide) ?_)
        | (refine wpAnyIn_ready (rs := [3]) (by decide +kernel) (by decide) ?_)
        | (refine wpAnyIn_ready (rs := [4]) (by decide +kernel) (by decide) ?_)
        | (refine AllReadyIn.cons (i := 0) rfl (fun K hK => ?_) ?_; (go_simp; refine hK _ _ ?_; clear hK K))
        | (refine AllReadyIn.cons (i := 0) rfl (fun K hK => ?_) ?_; (have hca := (hS.box.alloc (.cells #[.string ⟨(Lib.trimS (unb x) [32, 9, 10, 11, 12, 13]).toArray⟩] 9)).cell; go_simp; refine hK _ _ ?_; clear hK K hca))
        | (refine AllReadyIn.cons (i := 1) rfl (fun K hK => ?_) ?_; (go_simp; refine hK _ _ ?_; clear hK K))
        | (refine AllReadyIn.cons (i := 2) rfl (fun K hK => ?_) ?_; (go_simp; refine ⟨trivial, ?_⟩; refine (CallsIn.inRound l (callsIn_wide.2 (replCall x _ hS.laid (by omega)))).mono ?_; rintro e W2 ⟨rfl, hb⟩; replace hS := hS.go hb; replace hc := hS.box.cell; clear hb; refine hK _ _ ?_; clear hK K))
        | (refine AllReadyIn.cons (i := 3) rfl (fun K hK => ?_) ?_; (go_simp; refine ⟨trivial, ?_⟩; refine (CallsIn.inRound l (callsIn_wide.2 (trimCall (unb x) _ (by omega)))).mono ?_; rintro e W2 ⟨rfl, hb⟩; replace hS := hS.go hb; replace hc := hS.box.cell; clear hb; refine hK _ _ ?_; clear hK K))
        | (refine AllReadyIn.cons (i := 4) rfl (fun K hK => ?_) ?_; (go_simp; refine hK _ _ ?_; clear hK K)))
      all_goals
        refine wpAnyIn_ready (rs := [5]) (by decide +kernel) (by decide) ?_
        refine AllReadyIn.cons (i := 5) rfl (fun K hK => ?_) AllReadyIn.nil
        refine stepIn_append_own rfl (.tmp 16) (.tmp 20) 27 rfl (w1'.heap.size + 2) 9 i0 (.string ByteArray.empty) 1 16 Tryd.underlying27 hi hi0 hi1 hi2 rfl (by decide) v _ _ rfl (hS.row.alloc _) ⟨W2.heap.size, 0, none⟩ 1 1 [.string (celB x)] rfl rfl (cell_one_new _ _ _) (by simp [Value.oneCell']) (by unfold maxLen; omega) (by omega) (by have := hS.bz.2.2; simp; omega) ?_
        rintro v' w3 hown' hgrow
        obtain ⟨g', cap', rfl⟩ := ownsRow_succ hown'
        obtain ⟨hv1, hv2, hr2, hk2, hb2⟩ := hS.box.appended (by decide) (own_base hS.row (B' := w.heap.size) (by omega)) hS.bz.1 hsz1 (own_base hown' (by omega)) hgrow
        have hc1 := hv1.cell
        have hf1 := hv1.frozen
        refine hK _ _ ?_
        clear hK K hc
        refine wpAnyIn_ready (rs := [6]) (by decide +kernel) (by decide) ?_
        refine AllReadyIn.cons (i := 6) rfl (fun K hK => ?_) AllReadyIn.nil
        go_simp
        refine hK _ _ ?_
        clear hK K
        refine wpAnyIn_done (by decide +kernel) ?_ _
        have hkb : KB (w1'.heap.size + 1) W (w3.setCell ⟨w1'.heap.size, 0, none⟩ (.slice (some ⟨g', 0, none⟩) (pre.length + 1) cap')) :=
          (Below.heap_setCell w3 ⟨w1'.heap.size, 0, none⟩ _ (w1'.heap.size + 1) (by simp)).trans ((hgrow.block (w1'.heap.size + 1) (by have := hS.bz.2.1; simp; omega) (own_at hS.row _ (by omega))).trans ((Below.heap_alloc _ _ _ hS.bz.2.1).trans hS.bel.1))
        refine ⟨by rw [World.size_alloc, World.size_alloc]; exact hS.keep.trans (hk2.from _), hkb, ⟨_, hv2, ?_, trivial⟩, hB.trans (hS.bel.2.trans hb2), ?_⟩
        · have h9 := hown'.kept (grownBy_setCell' w3 w1'.heap.size (.slice (some ⟨g', 0, none⟩) (pre.length + 1) cap')) (.inr (own_at hown' _ (by omega)).symm)
          rw [List.length_append, List.map_append, List.map_append]
          exact h9
        · have := hk2.size
          have := hS.bz.2.2
          omega
    case done =>
      rintro D ys W hD hys ⟨⟨v, hv, hrow, _⟩, hB, _⟩ hK
      have hc := hv.cell
      gi_wp2
      refine ⟨by simp, .inl ⟨_, _, rfl, run_takeDeferred hK, ?_⟩⟩
      have hr3 := ownsRow_putObj hrow (.deferred none) hK rfl
      have hb3 := hB.trans (belowK_b (w := w) (Nat.le_refl _) W D _ (.deferred none) (by simp at hD; omega) hK rfl rfl)
      have hl3 : ys.map (fun x => celB x.1) = (prt [] 0 s2).map celB := by rw [← hys, List.map_map]; rfl
      rw [hl3, show ys.length = ((prt [] 0 s2).map celB).length by rw [← hl3, List.length_map]] at hr3
      exact ⟨_, results_tmp rfl _ _ _, v, rfl, Kd.R_of_own (own_base hr3 (by omega)) (fun _ _ => trivial), hb3⟩
    case stop =>
      rintro D c pre W _ _ h _
      exact h.elim
def table_Cells.f (a0 : ByteArray) : Option (List ByteArray) := if a0.size ≤ 1048576 then some ((prt [] 0 (cutB a0.data.toList)).map celB) else none
theorem table_Cells.calls (a0 : ByteArray) (r : List ByteArray) (w : World) (hLd : Laid w) (h : table_Cells.f a0 = some r) :
    Calls Tryd.prog 13 #[.string a0] w fun e w' => ∃ v0_, e = .returned v0_ ∧ Kd.R Kd.string 9 w' w.heap.size (fun _ => True) v0_ r ∧ Below w.heap.size w w' := by
  unfold table_Cells.f at h
  split at h
  · rename_i hc
    obtain rfl := Option.some.inj h
    exact cells_walk a0 w hLd hc
  · cases h
/-- strings.Join of what is read. -/
def strings_Join.f (l0 : List ByteArray) (a1 : ByteArray) : Option ByteArray := if l0.length ≤ 1048576 ∧ (Lib.join (l0.map (·.data.toList)) a1.data.toList).length ≤ 140737488355328 then some ⟨(Lib.join (l0.map (·.data.toList)) a1.data.toList).toArray⟩ else none
theorem strings_Join.calls (A0 : Option Addr) (c0 : Nat) (l0 : List ByteArray) (a1 : ByteArray) (r : ByteArray) (w : World) (hr0 : Kd.C Kd.string w A0 l0.length l0) (hc0 : l0.length ≤ c0) (h : strings_Join.f l0 a1 = some r) :
    Calls Tryd.prog 36 #[.slice A0 l0.length c0, .string a1] w fun e w' => e = .returned (.string r) ∧ Below w.heap.size w w' := by
  unfold strings_Join.f at h
  split at h
  · rename_i hc
    obtain rfl := Option.some.inj h
    rcases Nat.eq_zero_or_pos l0.length with h0 | h0
    · obtain rfl := List.length_eq_zero_iff.1 h0
      refine (Tryd.strings_Join_none A0 c0 a1 w).mono ?_
      rintro e w' ⟨rfl, rfl⟩
      exact ⟨rfl, Below.refl _ _⟩
    · obtain ⟨ad, rfl, h1⟩ := Kd.at_string hr0 0 (by omega) (by omega)
      have hsp : ad.spot = none ∧ ad.block < w.heap.size := by
        have h2 : w.cell? ad ≠ none := by
          intro e
          have e2 : ad.add (0 : Int).toNat = ad := rfl
          rw [e2, e] at h1
          cases h1
        unfold World.cell? at h2
        cases hq : w.heap[ad.block]? with
        | none => rw [hq] at h2; exact absurd rfl h2
        | some ob =>
          refine ⟨?_, (Array.getElem?_eq_some_iff.1 hq).1⟩
          rw [hq] at h2
          cases ob <;> first | exact absurd rfl h2 | skip
          cases hs : ad.spot with
          | none => rfl
          | some y => simp [hs] at h2
      obtain ⟨bk, o, q⟩ := ad
      obtain rfl : q = none := hsp.1
      refine Tryd.strings_Join bk o c0 l0 a1 w (fun j x hj => ?_) hsp.2 (by omega) hc0 hc.2
      have hjl : j < l0.length := (List.getElem?_eq_some_iff.1 hj).1
      obtain ⟨ad2, e2, h3⟩ := Kd.at_string hr0 (j : Int) (by omega) (by omega)
      cases e2
      rw [getD_at l0 j hjl, Int.toNat_natCast] at h3
      rw [List.getElem?_eq_getElem hjl] at hj
      cases hj
      rw [← h3]
      unfold Addr.add
      split
      · rename_i e0
        subst e0
        rfl
      · rfl
  · cases h
end Go.Proofs.YthbadcdiagcfkaaDoor.PA
