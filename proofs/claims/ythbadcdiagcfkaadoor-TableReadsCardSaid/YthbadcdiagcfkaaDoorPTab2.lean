/-
  Which alignments a line tells: plain functions, and that the printed functions compute them. Condition: a text of at most 2^20 bytes.
-/
import Derived.Test.YthbadcdiagcfkaaDoorPTab1
import Derived.Test.YthbadcdiagcfkaaDoorPAx6
namespace Go.Proofs.YthbadcdiagcfkaaDoor.Pl
open Go.RowKit Go.Proofs.YthbadcdiagcfkaaDoorW.PrintWords Go.Proofs.YthbadcdiagcfkaaDoorW.PrintMore

theorem pre_one (c : UInt8) : ∀ l : List UInt8, Lib.hasPrefix l [c] = decide (l.head? = some c)
  | [] => rfl
  | x :: t => by
    simp only [Lib.hasPrefix, List.isPrefixOf, Bool.and_true, List.head?_cons]
    rw [Bool.eq_iff_iff]
    simp only [beq_iff_eq, decide_eq_true_eq, Option.some.injEq]
    exact eq_comm
theorem suf_one (c : UInt8) (l : List UInt8) : Lib.hasSuffix l [c] = decide (l.getLast? = some c) := by
  have h := pre_one c l.reverse
  rw [List.head?_reverse] at h
  rw [← h]
  rfl
theorem dw_nil_iff {p : UInt8 → Bool} (l : List UInt8) : l.dropWhile p = [] ↔ l.all p = true := by
  constructor
  · intro h
    obtain ⟨a, e, ha⟩ := dw_split (p := p) l
    rw [h, List.append_nil] at e
    rw [e]
    exact ha
  · exact dw_nil l
theorem trimS_nil (l cs : List UInt8) : Lib.trimS l cs = [] ↔ l.all (cs.contains ·) = true := by
  unfold Lib.trimS Lib.trimLeftS Lib.trimRightS
  rw [dw_nil_iff, all_rev]
  constructor
  · intro h
    obtain ⟨a, e, ha⟩ := dw_split (p := (cs.contains ·)) l.reverse
    have h2 : l.reverse.all (cs.contains ·) = true := by rw [e, List.all_append, ha, h]; rfl
    rwa [all_rev] at h2
  · intro h
    rw [dw_nil _ (by rw [all_rev]; exact h)]
    rfl
/-- A cell as an alignment. -/
def alL (c : List UInt8) : Bool := decide (c.head? = some 58)
def al1 (c : List UInt8) : List UInt8 := if alL c = true then c.tail else c
def alR (c : List UInt8) : Bool := decide ((al1 c).getLast? = some 58)
def al2 (c : List UInt8) : List UInt8 := if alR c = true then (al1 c).dropLast else al1 c
def alOk (c : List UInt8) : Bool := !(al2 c).isEmpty && (al2 c).all fun x => decide (x = 45)
def alV (c : List UInt8) : Int := if alL c = true then if alR c = true then 3 else 1 else if alR c = true then 2 else 0
theorem al1_len (c : List UInt8) : (al1 c).length ≤ c.length := by unfold al1; split <;> simp
theorem al2_len (c : List UInt8) : (al2 c).length ≤ c.length := by
  have := al1_len c
  unfold al2
  split
  · rw [List.length_dropLast]; omega
  · exact this
theorem B_nil (l : List UInt8) : (B l).toList = ([] : List UInt8) ↔ l = [] := by rw [B_toList]
theorem align_ev (c : List UInt8) (hc : c.length ≤ 1048576) : Ev (fun k => PA.table_align.f k (B c)) (if alOk c = true then (alV c, true) else (0, false)) := by
  have h1 := al1_len c
  have h2 := al2_len c
  have e1 : PA.strings_CutPrefix.f (B c) ⟨#[58]⟩ = some (B (al1 c), alL c) := by
    unfold PA.strings_CutPrefix.f
    rw [B_data]
    show some (B (Lib.trimPrefix c [58]), Lib.hasPrefix c [58]) = _
    unfold Lib.trimPrefix
    rw [pre_one]
    unfold al1 alL
    congr 3
    by_cases h : c.head? = some 58
    · rw [decide_eq_true h, if_pos rfl, if_pos rfl]
      exact List.drop_one
    · rw [decide_eq_false h]; rfl
  have e2 : PA.strings_CutSuffix.f (B (al1 c)) ⟨#[58]⟩ = some (B (al2 c), alR c) := by
    unfold PA.strings_CutSuffix.f
    rw [if_pos (by rw [B_size]; omega), B_data]
    show some (B (Lib.trimSuffix (al1 c) [58]), Lib.hasSuffix (al1 c) [58]) = _
    unfold Lib.trimSuffix
    rw [suf_one]
    unfold al2 alR
    congr 3
    by_cases h : (al1 c).getLast? = some 58
    · rw [decide_eq_true h, if_pos rfl, if_pos rfl, List.dropLast_eq_take]
      rfl
    · rw [decide_eq_false h]; rfl
  have e3 : PA.strings_Trim.f (B (al2 c)) ⟨#[45]⟩ = some (B (Lib.trimS (al2 c) [45])) := by
    unfold PA.strings_Trim.f
    rw [if_pos ⟨by rw [B_size]; omega, by decide, by decide⟩, B_data]
    rfl
  have e4 : (al2 c).all ([45].contains ·) = (al2 c).all fun x => decide (x = 45) := by
    congr 1
    funext x
    rw [Bool.eq_iff_iff]
    simp
  have hno : Ev (fun k => PA.table_align.j0 k (alL c) (alR c) true) (0, false) := Ev.step (f := fun _ => some (0, false)) (fun k => by simp only [PA.table_align.j0, if_true]) (Ev.now _)
  have hyes : Ev (fun k => PA.table_align.j0 k (alL c) (alR c) false) (alV c, true) := by
    refine Ev.step (f := fun k => PA.table_align.j1 k (alL c) (alR c) (alL c && alR c)) (fun k => ?_) (Ev.step (f := fun _ => some (alV c, true)) (fun k => ?_) (Ev.now _))
    · simp only [PA.table_align.j0]
      rw [if_neg (by decide)]
      cases alL c <;> rfl
    · simp only [PA.table_align.j1]
      unfold alV
      cases alL c <;> cases alR c <;> rfl
  unfold PA.table_align.f
  refine Ev.congr (f := fun k => if al2 c = [] then PA.table_align.j0 k (alL c) (alR c) true else PA.table_align.j0 k (alL c) (alR c) (!((al2 c).all fun x => decide (x = 45)))) (fun k => ?_) ?_
  · rw [e1, Option.bind_some]
    simp only []
    rw [e2, Option.bind_some]
    simp only []
    by_cases h : al2 c = []
    · rw [if_pos ((B_nil _).2 h), if_pos h]
    · rw [if_neg (fun e => h ((B_nil _).1 e)), if_neg h, e3, Option.bind_some, B_toList]
      congr 1
      rw [← e4, Bool.eq_iff_iff]
      have := trimS_nil (al2 c) [45]
      simp only [bne_iff_ne, ne_eq, this, Bool.not_eq_true', Bool.not_eq_true]
  · unfold alOk
    by_cases h : al2 c = []
    · simp only [h, if_true, List.isEmpty_nil, Bool.not_true, Bool.false_and, Bool.false_eq_true, if_false]
      exact hno
    · have h0 : (al2 c).isEmpty = false := by cases hq : al2 c with | nil => exact absurd hq h | cons _ _ => rfl
      simp only [h, if_false, h0, Bool.not_false, Bool.true_and]
      by_cases ha : ((al2 c).all fun x => decide (x = 45)) = true
      · rw [if_pos ha, ha]; exact hyes
      · rw [if_neg ha, Bool.not_eq_true] at *
        rw [ha]; exact hno
theorem ralign_l (l : List UInt8) (hl : l.length ≤ 1048576) (v : Int) : ∀ (d i : Nat), i + d = l.length → (∀ x ∈ l.take i, x = 45) → Ev (fun k => PA.incipitref15_align.l0 k (B l) v (i : Int)) (if (!l.isEmpty && l.all fun x => decide (x = 45)) = true then v else -1) := by
  intro d
  induction d with
  | zero =>
    intro i hi ht
    rw [List.take_of_length_le (by omega)] at ht
    have ha : (l.all fun x => decide (x = 45)) = true := List.all_eq_true.2 fun x hx => decide_eq_true (ht x hx)
    refine Ev.step (f := fun _ => some (if l = [] then -1 else v)) (fun k => ?_) ?_
    · simp only [PA.incipitref15_align.l0]
      rw [if_neg (by rw [B_size]; omega)]
      by_cases h : l = []
      · rw [if_pos ((B_nil _).2 h), if_pos h]
      · rw [if_neg (fun e => h ((B_nil _).1 e)), if_neg h]
    · rw [ha, Bool.and_true]
      cases l <;> exact Ev.now _
  | succ d ih =>
    intro i hi ht
    have hil : i < l.length := by omega
    have hx := B_bt l i hil
    have h45 : ((l[i].toNat : Int) = 45) ↔ l[i] = 45 := u8_eq l[i] 45 (by omega)
    by_cases hc : l[i] = 45
    · refine Ev.step (fun k => ?_) (ih (i + 1) (by omega) (fun x hx2 => ?_))
      · simp only [PA.incipitref15_align.l0]
        rw [if_pos (by rw [B_size]; omega), if_pos (by omega), if_pos (by rw [hx]; exact h45.2 hc), w64 (by omega) (by omega)]
        rfl
      · rw [← List.take_append_getElem hil] at hx2
        rcases List.mem_append.1 hx2 with h | h
        · exact ht x h
        · rw [List.mem_singleton.1 h]; exact hc
    · have ha : (l.all fun x => decide (x = 45)) = false := by
        rw [← Bool.not_eq_true]
        intro h
        exact hc (of_decide_eq_true (List.all_eq_true.1 h _ (List.getElem_mem hil)))
      rw [ha, Bool.and_false, if_neg (by decide)]
      refine Ev.step (f := fun _ => some (-1)) (fun k => ?_) (Ev.now _)
      simp only [PA.incipitref15_align.l0]
      rw [if_pos (by rw [B_size]; omega), if_pos (by omega), if_neg (by rw [hx]; exact fun e => hc (h45.1 e))]
theorem ralign_ev (c : List UInt8) (hc : c.length ≤ 1048576) : Ev (fun k => PA.incipitref15_align.f k (B c)) (if alOk c = true then alV c else -1) := by
  have h1 := al1_len c
  have h2 := al2_len c
  have hj3 : ∀ v : Int, v = alV c → Ev (fun k => PA.incipitref15_align.j3 k (B (al2 c)) v) (if alOk c = true then alV c else -1) := by
    intro v hv
    subst hv
    exact Ev.step (fun k => rfl) (ralign_l (al2 c) (by omega) (alV c) _ 0 (Nat.zero_add _) (by simp))
  have hj1 : Ev (fun k => PA.incipitref15_align.j1 k (B (al1 c)) (if alL c = true then 1 else 0)) (if alOk c = true then alV c else -1) := by
    rcases List.eq_nil_or_concat (al1 c) with h | ⟨r, x, h⟩
    · have hr : alR c = false := by unfold alR; rw [h]; rfl
      have e2 : al2 c = al1 c := by unfold al2; rw [hr]; rfl
      refine Ev.step (f := fun k => PA.incipitref15_align.j2 k (B (al1 c)) (if alL c = true then 1 else 0) false) (fun k => ?_) (Ev.step (fun k => ?_) (hj3 (if alL c = true then 1 else 0) (by unfold alV; rw [hr]; rfl)))
      · simp only [PA.incipitref15_align.j1]
        rw [if_pos ((B_nil _).2 h)]
      · simp only [PA.incipitref15_align.j2]
        rw [if_neg (by decide), e2]
    · rw [List.concat_eq_append] at h
      have hl : (al1 c).length = r.length + 1 := by rw [h]; simp
      have hw1 : wrap64 (((B (al1 c)).size : Int) - 1) = (r.length : Int) := by rw [B_size, hl, w64 (by omega) (by omega)]; omega
      have hx : bt (B (al1 c)) (r.length : Int) = (x.toNat : Int) := by rw [B_bt _ r.length (by omega)]; simp [h]
      have h58 : ((x.toNat : Int) = 58) ↔ x = 58 := u8_eq x 58 (by omega)
      have hrx : alR c = decide (x = 58) := by unfold alR; rw [h, List.getLast?_concat]; simp
      refine Ev.step (f := fun k => PA.incipitref15_align.j2 k (B (al1 c)) (if alL c = true then 1 else 0) (decide (x = 58))) (fun k => ?_) ?_
      · simp only [PA.incipitref15_align.j1]
        rw [if_neg (fun e => by have := (B_nil _).1 e; rw [this] at hl; simp at hl), hw1, if_pos (by omega), if_pos (by rw [B_size]; omega), hx]
        congr 1
        rw [Bool.eq_iff_iff, beq_iff_eq, decide_eq_true_eq]
        exact h58
      · by_cases hx8 : x = 58
        · have e2 : al2 c = r := by unfold al2; rw [hrx, decide_eq_true hx8, if_pos rfl, h, List.dropLast_concat]
          rw [decide_eq_true hx8]
          refine Ev.step (fun k => ?_) (hj3 (if alL c = true then 3 else 2) (by unfold alV; rw [hrx, decide_eq_true hx8]; rfl))
          simp only [PA.incipitref15_align.j2]
          rw [if_pos trivial, hw1, if_pos (by omega), if_pos (by rw [B_size]; omega), Int.toNat_natCast, B_to, e2, h, List.take_left' rfl]
          congr 1
          cases alL c
          · exact w64 (by decide) (by decide)
          · exact w64 (by decide) (by decide)
        · have e2 : al2 c = al1 c := by unfold al2; rw [hrx, decide_eq_false hx8]; rfl
          rw [decide_eq_false hx8]
          refine Ev.step (fun k => ?_) (hj3 (if alL c = true then 1 else 0) (by unfold alV; rw [hrx, decide_eq_false hx8]; rfl))
          simp only [PA.incipitref15_align.j2]
          rw [if_neg (by decide), e2]
  unfold PA.incipitref15_align.f
  cases c with
  | nil =>
    refine Ev.congr (f := fun k => PA.incipitref15_align.j0 k (B []) 0 false) (fun k => by rw [if_pos (B_toList _)]) (Ev.step (fun k => ?_) hj1)
    simp only [PA.incipitref15_align.j0]
    rfl
  | cons x t =>
    have h58 : ((x.toNat : Int) = 58) ↔ x = 58 := u8_eq x 58 (by omega)
    have hx : bt (B (x :: t)) 0 = (x.toNat : Int) := B_bt (x :: t) 0 (by simp)
    have hlx : alL (x :: t) = decide (x = 58) := by unfold alL; simp
    refine Ev.congr (f := fun k => PA.incipitref15_align.j0 k (B (x :: t)) 0 (decide (x = 58))) (fun k => ?_) (Ev.step (fun k => ?_) hj1)
    · rw [if_neg (by rw [B_toList]; simp), if_pos (by rw [B_size]; simp), hx]
      congr 1
      rw [Bool.eq_iff_iff, beq_iff_eq, decide_eq_true_eq]
      exact h58
    · simp only [PA.incipitref15_align.j0]
      unfold al1
      rw [hlx]
      by_cases hx8 : x = 58
      · rw [decide_eq_true hx8, if_pos rfl, if_pos rfl, if_pos rfl, if_pos (by rw [B_size]; simp; omega), B_from (x :: t) 1 _ (B_size _)]
        rfl
      · rw [decide_eq_false hx8, if_neg (by decide), if_neg (by decide), if_neg (by decide)]
/-- A line's alignments. -/
def alsC (l : List (List UInt8)) : List Int × Bool := if l.all alOk = true then (l.map alV, true) else ([], false)
def als (s : List UInt8) : List Int × Bool := if (124 : UInt8) ∈ s then alsC (cells s) else ([], false)
theorem prt_size : ∀ (t cur : List UInt8) (prev : UInt8), ∀ p ∈ PA.prt cur prev t, p.length ≤ cur.length + t.length
  | [], cur, _, p, hp => by
    unfold PA.prt at hp
    rw [List.mem_singleton.1 hp]
    simp
  | x :: t, cur, prev, p, hp => by
    unfold PA.prt at hp
    split at hp
    · rcases List.mem_cons.1 hp with rfl | hp
      · simp
      · have := prt_size t [] x p hp
        simp at this ⊢
        omega
    · have := prt_size t (cur ++ [x]) x p hp
      simp at this ⊢
      omega
theorem cells_size (s : List UInt8) : ∀ c ∈ cells s, c.length ≤ s.length := by
  intro c hc
  unfold cells at hc
  obtain ⟨p, hp, rfl⟩ := List.mem_map.1 hc
  have h1 := prt_size _ _ _ p hp
  have h2 := PA.cutB_len s
  have h3 := PA.unb_len p
  have h4 := tr_len (PA.unb p)
  have h5 := tl_len (tr (PA.unb p))
  unfold cel
  simp at h1
  omega
theorem cells_len (s : List UInt8) : (cells s).length ≤ s.length + 1 := by
  unfold cells
  rw [List.length_map]
  have h1 := PA.prt_len (PA.cutB s) [] 0
  have h2 := PA.cutB_len s
  omega
theorem aligns_l (l : List (List UInt8)) (hl : l.length ≤ 1048577) (hs : ∀ c ∈ l, c.length ≤ 1048576) : ∀ (d i : Nat), i + d = l.length → (l.take i).all alOk = true →
    Ev (fun k => PA.table_Aligns.l0 k ((l.take i).map alV) (l.map B) (l.length : Int) (i : Int)) (alsC l) := by
  intro d
  induction d with
  | zero =>
    intro i hi ht
    rw [List.take_of_length_le (by omega)] at ht ⊢
    refine Ev.step (f := fun _ => some (l.map alV, true)) (fun k => ?_) ?_
    · simp only [PA.table_Aligns.l0]
      rw [if_neg (by omega)]
    · unfold alsC
      rw [if_pos ht]
      exact Ev.now _
  | succ d ih =>
    intro i hi ht
    have hil : i < l.length := by omega
    have hg := getD_B (l := l) i hil
    have htk : l.take (i + 1) = l.take i ++ [l[i]] := by rw [List.take_append_getElem hil]
    refine Ev.step (f := fun k => (PA.table_align.f k (B l[i])).bind fun bt111 => (if bt111.2 = true then (PA.table_Aligns.l0 k ((l.take i).map alV ++ [bt111.1]) (l.map B) (l.length : Int) ((i + 1 : Nat) : Int)) else (some (([] : List Int), false)))) (fun k => ?_) ?_
    · simp only [PA.table_Aligns.l0]
      rw [if_pos (by omega), if_pos (by omega), if_pos (by rw [List.length_map]; omega), hg, w64 (by omega) (by omega)]
      congr 1
      funext t
      rw [if_pos (show ((l.take i).map alV).length < 17592186044416 by rw [List.length_map, List.length_take]; omega)]
      rfl
    · refine Ev.bind (align_ev l[i] (hs _ (List.getElem_mem hil))) ?_
      by_cases ha : alOk l[i] = true
      · rw [if_pos ha]
        simp only [if_true]
        have hn := ih (i + 1) (by omega) (by rw [htk, List.all_append, ht]; simp [ha])
        rw [htk, List.map_append] at hn
        exact hn
      · rw [if_neg ha]
        have hno : ¬ l.all alOk = true := fun h => ha (List.all_eq_true.1 h _ (List.getElem_mem hil))
        unfold alsC
        rw [if_neg hno]
        exact Ev.now _
theorem contains_f (l : List UInt8) (c : UInt8) : PA.strings_Contains.f (B l) ⟨#[c]⟩ = some (decide (c ∈ l)) := by
  unfold PA.strings_Contains.f
  rw [if_pos (show (⟨#[c]⟩ : ByteArray).size = 1 from rfl), B_data]
  congr 1
  rw [decide_eq_decide]
  show 0 ≤ Lib.indexByte l c ↔ _
  have hge := Lib.indexByte_ge l c
  constructor
  · intro h
    obtain ⟨o, ho⟩ := Int.eq_ofNat_of_zero_le h
    exact List.mem_of_getElem? (Lib.indexByte_some ho).1
  · intro h
    obtain ⟨k, hk⟩ := List.getElem?_of_mem h
    by_cases h1 : Lib.indexByte l c < 0
    · exact absurd hk (Lib.indexByte_none (by omega) k)
    · omega
theorem aligns_ev (s : List UInt8) (hs : s.length ≤ 1048576) : Ev (fun k => PA.table_Aligns.f k (B s)) (als s) := by
  unfold PA.table_Aligns.f als
  refine Ev.congr (f := fun k => if (124 : UInt8) ∈ s then PA.table_Aligns.l0 k [] ((cells s).map B) ((cells s).length : Int) 0 else some ([], false)) (fun k => ?_) ?_
  · rw [contains_f, Option.bind_some]
    by_cases h : (124 : UInt8) ∈ s
    · rw [decide_eq_true h, if_pos rfl, if_pos h, cells_f s hs, Option.bind_some, List.length_map]
    · rw [decide_eq_false h, if_neg h]; rfl
  · by_cases h : (124 : UInt8) ∈ s
    · simp only [h, if_true]
      have hl := cells_len s
      exact aligns_l (cells s) (by omega) (fun c hc => by have := cells_size s c hc; omega) _ 0 (Nat.zero_add _) (by simp)
    · simp only [h, if_false]
      exact Ev.now _
theorem raligns_l (l : List (List UInt8)) (hl : l.length ≤ 1048577) (hs : ∀ c ∈ l, c.length ≤ 1048576) : ∀ (d i : Nat), i + d = l.length → (l.take i).all alOk = true →
    Ev (fun k => PA.incipitref15_Aligns.l0 k ((l.take i).map alV) (l.map B) (i : Int)) (alsC l) := by
  intro d
  induction d with
  | zero =>
    intro i hi ht
    rw [List.take_of_length_le (by omega)] at ht ⊢
    refine Ev.step (f := fun _ => some (l.map alV, true)) (fun k => ?_) ?_
    · simp only [PA.incipitref15_Aligns.l0]
      rw [if_neg (by rw [List.length_map]; omega)]
    · unfold alsC
      rw [if_pos ht]
      exact Ev.now _
  | succ d ih =>
    intro i hi ht
    have hil : i < l.length := by omega
    have hg := getD_B (l := l) i hil
    have htk : l.take (i + 1) = l.take i ++ [l[i]] := by rw [List.take_append_getElem hil]
    refine Ev.step (f := fun k => (PA.incipitref15_align.f k (B l[i])).bind fun t => (if t < 0 then (some (([] : List Int), false)) else (PA.incipitref15_Aligns.l0 k ((l.take i).map alV ++ [t]) (l.map B) ((i + 1 : Nat) : Int)))) (fun k => ?_) ?_
    · simp only [PA.incipitref15_Aligns.l0]
      rw [if_pos (by rw [List.length_map]; omega), if_pos (by omega), hg, w64 (by omega) (by omega)]
      congr 1
      funext t
      rw [if_pos (show ((l.take i).map alV).length < 17592186044416 by rw [List.length_map, List.length_take]; omega)]
      rfl
    · refine Ev.bind (ralign_ev l[i] (hs _ (List.getElem_mem hil))) ?_
      by_cases ha : alOk l[i] = true
      · rw [if_pos ha]
        have hv : ¬ alV l[i] < 0 := by unfold alV; split <;> split <;> omega
        simp only [hv, if_false]
        have hn := ih (i + 1) (by omega) (by rw [htk, List.all_append, ht]; simp [ha])
        rw [htk, List.map_append] at hn
        exact hn
      · rw [if_neg ha]
        have hno : ¬ l.all alOk = true := fun h => ha (List.all_eq_true.1 h _ (List.getElem_mem hil))
        unfold alsC
        rw [if_neg hno]
        exact Ev.now _
theorem rbar_l (s : List UInt8) (hs : s.length ≤ 1048576) : ∀ (d i : Nat), i + d = s.length → (124 : UInt8) ∉ s.take i → Ev (fun k => PA.incipitref15_bar.l0 k (B s) (i : Int)) (decide ((124 : UInt8) ∈ s)) := by
  intro d
  induction d with
  | zero =>
    intro i hi ht
    rw [List.take_of_length_le (by omega)] at ht
    rw [decide_eq_false ht]
    refine Ev.step (f := fun _ => some false) (fun k => ?_) (Ev.now _)
    simp only [PA.incipitref15_bar.l0]
    rw [if_neg (by rw [B_size]; omega)]
  | succ d ih =>
    intro i hi ht
    have hil : i < s.length := by omega
    have hx := B_bt s i hil
    have h124 : ((s[i].toNat : Int) = 124) ↔ s[i] = 124 := u8_eq s[i] 124 (by omega)
    by_cases hc : s[i] = 124
    · rw [decide_eq_true (hc ▸ List.getElem_mem hil)]
      refine Ev.step (f := fun _ => some true) (fun k => ?_) (Ev.now _)
      simp only [PA.incipitref15_bar.l0]
      rw [if_pos (by rw [B_size]; omega), if_pos (by omega), if_pos (by rw [hx]; exact h124.2 hc)]
    · refine Ev.step (fun k => ?_) (ih (i + 1) (by omega) (fun hm => ?_))
      · simp only [PA.incipitref15_bar.l0]
        rw [if_pos (by rw [B_size]; omega), if_pos (by omega), if_neg (by rw [hx]; exact fun e => hc (h124.1 e)), w64 (by omega) (by omega)]
        rfl
      · rw [← List.take_append_getElem hil] at hm
        rcases List.mem_append.1 hm with h | h
        · exact ht h
        · exact hc (List.mem_singleton.1 h).symm
theorem rbar_ev (s : List UInt8) (hs : s.length ≤ 1048576) : Ev (fun k => PA.incipitref15_bar.f k (B s)) (decide ((124 : UInt8) ∈ s)) := rbar_l s hs _ 0 (Nat.zero_add _) (by simp)
theorem raligns_ev (s : List UInt8) (hs : s.length ≤ 1048576) : Ev (fun k => PA.incipitref15_Aligns.f k (B s)) (als s) := by
  unfold PA.incipitref15_Aligns.f als
  refine Ev.bind (rbar_ev s hs) ?_
  by_cases h : (124 : UInt8) ∈ s
  · rw [decide_eq_true h]
    simp only [h, if_true]
    refine Ev.bind (rcells_ev s hs) ?_
    have hl := cells_len s
    exact raligns_l (cells s) (by omega) (fun c hc => by have := cells_size s c hc; omega) _ 0 (Nat.zero_add _) (by simp)
  · rw [decide_eq_false h]
    simp only [h, if_false, Bool.false_eq_true]
    exact Ev.now _
theorem samerow_l (l : List ByteArray) (hl : l.length ≤ 1048577) : ∀ (d i : Nat), i + d = l.length → Ev (fun k => PA.incipitref15_SameRow.l0 k l l (i : Int)) true := by
  intro d
  induction d with
  | zero =>
    intro i hi
    refine Ev.step (f := fun _ => some true) (fun k => ?_) (Ev.now _)
    simp only [PA.incipitref15_SameRow.l0]
    rw [if_neg (by omega)]
  | succ d ih =>
    intro i hi
    refine Ev.step (fun k => ?_) (ih (i + 1) (by omega))
    simp only [PA.incipitref15_SameRow.l0]
    rw [if_pos (by omega), if_pos (by omega), if_pos (by omega), if_pos trivial, w64 (by omega) (by omega)]
    rfl
theorem samerow_ev (l : List ByteArray) (hl : l.length ≤ 1048577) : Ev (fun k => PA.incipitref15_SameRow.f k l l) true := by
  unfold PA.incipitref15_SameRow.f
  refine Ev.congr (fun k => ?_) (samerow_l l hl _ 0 (Nat.zero_add _))
  rw [if_pos rfl]
  rfl
theorem samenum_l (l : List Int) (hl : l.length ≤ 1048577) : ∀ (d i : Nat), i + d = l.length → Ev (fun k => PA.incipitref15_SameNumbers.l0 k l l (i : Int)) true := by
  intro d
  induction d with
  | zero =>
    intro i hi
    refine Ev.step (f := fun _ => some true) (fun k => ?_) (Ev.now _)
    simp only [PA.incipitref15_SameNumbers.l0]
    rw [if_neg (by omega)]
  | succ d ih =>
    intro i hi
    refine Ev.step (fun k => ?_) (ih (i + 1) (by omega))
    simp only [PA.incipitref15_SameNumbers.l0]
    rw [if_pos (by omega), if_pos (by omega), if_pos (by omega), if_pos trivial, w64 (by omega) (by omega)]
    rfl
theorem samenum_ev (l : List Int) (hl : l.length ≤ 1048577) : Ev (fun k => PA.incipitref15_SameNumbers.f k l l) true := by
  unfold PA.incipitref15_SameNumbers.f
  refine Ev.congr (fun k => ?_) (samenum_l l hl _ 0 (Nat.zero_add _))
  rw [if_pos rfl]
  rfl
theorem als_len (s : List UInt8) : (als s).1.length ≤ s.length + 1 := by
  unfold als
  split
  · unfold alsC
    split
    · rw [List.length_map]; exact cells_len s
    · simp
  · simp
theorem awake_ev : Ev (fun k => PA.incipitlaw15_awake.f k) true := Ev.of (k := 60) (PA.incipitlaw15_awake.mono) (by decide +kernel)
end Go.Proofs.YthbadcdiagcfkaaDoor.Pl
