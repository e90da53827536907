/-
  Plain functions for the layer auto, and that the printed functions compute them. Condition: a text of at most 2^30 bytes.
-/
import Derived.Test.YtddmddlaamcpiaaDoorPBase
import Derived.Test.YtddmddlaamcpiaaDoorPAx4
import Derived.Lib.IndexLaws
import Derived.Lib.SplitLaws
import Derived.KernelRfl
namespace Go.Proofs.YtddmddlaamcpiaaDoor.Pl
open Go.RowKit Go.Proofs.YtddmddlaamcpiaaDoorW.PrintWords Go.Proofs.YtddmddlaamcpiaaDoorW.PrintMore

/-- A letter or a digit. -/
def wd (x : UInt8) : Bool := (97 ≤ (x.toNat ||| 32) && (x.toNat ||| 32) ≤ 122) || (48 ≤ x.toNat && x.toNat ≤ 57)
theorem word_f (x : UInt8) : PA.auto_word.f (x.toNat : Int) = some (wd x) := by
  have h : ∀ y : Fin 256, PA.auto_word.f ((y.val : Nat) : Int) = some (wd (UInt8.ofNat y.val)) := by decide +kernel
  have h0 := h ⟨x.toNat, x.toNat_lt⟩
  rw [show UInt8.ofNat x.toNat = x from UInt8.ofNat_toNat] at h0
  exact h0
theorem ib_iff (l : List UInt8) (c : UInt8) : 0 ≤ Lib.indexByte l c ↔ l.contains c = true := by
  have hge := Lib.indexByte_ge l c
  constructor
  · intro h
    obtain ⟨o, ho⟩ := Int.eq_ofNat_of_zero_le h
    have := (Lib.indexByte_some ho).1
    rw [List.contains_iff_mem]
    exact List.mem_of_getElem? this
  · intro h
    rw [List.contains_iff_mem] at h
    obtain ⟨k, hk⟩ := List.getElem?_of_mem h
    by_cases h1 : Lib.indexByte l c < 0
    · exact absurd hk (Lib.indexByte_none (by omega) k)
    · omega
theorem idx_f (m : List UInt8) (x : UInt8) : PA.strings_IndexByte.f (B m) (x.toNat : Int) = some (Lib.indexByte m x) := by
  unfold PA.strings_IndexByte.f
  rw [B_data, Int.toNat_natCast]
  congr 2
  simp
/-- How many bytes are words, or of some. -/
def wl (m l : List UInt8) : Nat := (l.takeWhile fun x => wd x || m.contains x).length
theorem tw_le {p : UInt8 → Bool} : ∀ l : List UInt8, (l.takeWhile p).length ≤ l.length
  | [] => by simp
  | x :: t => by
    rw [List.takeWhile_cons]
    have := tw_le (p := p) t
    split
    · simp only [List.length_cons]; omega
    · simp
theorem wl_le (m l : List UInt8) : wl m l ≤ l.length := tw_le l
theorem while_l (l m : List UInt8) (hl : l.length ≤ 1073741824) : ∀ (d i : Nat), i + d = l.length → Ev (fun k => PA.auto_while.l0 k (B l) (B m) (i : Int)) ((i + wl m (l.drop i) : Nat) : Int) := by
  intro d
  induction d with
  | zero =>
    intro i hi
    refine Ev.step (f := fun _ => some ((i + wl m (l.drop i) : Nat) : Int)) (fun k => ?_) (Ev.now _)
    simp only [PA.auto_while.l0]
    rw [if_neg (by rw [B_size]; omega), List.drop_eq_nil_of_le (by omega)]
    rfl
  | succ d ih =>
    intro i hi
    have hil : i < l.length := by omega
    have hdr : l.drop i = l[i] :: l.drop (i + 1) := List.drop_eq_getElem_cons hil
    have hn := ih (i + 1) (by omega)
    have hstep : ∀ k, PA.auto_while.l0 (k + 1) (B l) (B m) (i : Int) = if wd l[i] = true then PA.auto_while.l0 k (B l) (B m) ((i + 1 : Nat) : Int) else if m.contains l[i] = true then PA.auto_while.l0 k (B l) (B m) ((i + 1 : Nat) : Int) else some (i : Int) := by
      intro k
      simp only [PA.auto_while.l0]
      rw [if_pos (by rw [B_size]; omega), if_pos (by omega), B_bt l i hil, word_f, Option.bind_some, idx_f, Option.bind_some, w64 (by omega) (by omega), show (i : Int) + 1 = ((i + 1 : Nat) : Int) from rfl]
      have := ib_iff m l[i]
      by_cases h1 : m.contains l[i] = true
      · rw [if_pos (this.2 h1), if_pos h1]
      · rw [if_neg (fun h => h1 (this.1 h)), if_neg h1]
    rw [hdr]
    by_cases h : (wd l[i] || m.contains l[i]) = true
    · have e : i + wl m (l[i] :: l.drop (i + 1)) = (i + 1) + wl m (l.drop (i + 1)) := by
        unfold wl
        rw [List.takeWhile_cons, if_pos h, List.length_cons]
        omega
      rw [e]
      refine Ev.step (fun k => ?_) hn
      rw [hstep]
      by_cases h1 : wd l[i] = true
      · rw [if_pos h1]
      · rw [if_neg h1, if_pos (by simpa [h1] using h)]
    · have e : i + wl m (l[i] :: l.drop (i + 1)) = i := by
        unfold wl
        rw [List.takeWhile_cons, if_neg h]
        rfl
      rw [e]
      refine Ev.step (f := fun _ => some (i : Int)) (fun k => ?_) (Ev.now _)
      rw [hstep, if_neg (by intro h1; exact h (by rw [h1]; rfl)), if_neg (by intro h1; exact h (by rw [h1]; simp))]
theorem while_ev (l m : List UInt8) (hl : l.length ≤ 1073741824) : Ev (fun k => PA.auto_while.f k (B l) (B m)) ((wl m l : Nat) : Int) := by
  have := while_l l m hl l.length 0 (by omega)
  rw [Nat.zero_add, List.drop_zero] at this
  exact this
/-- The host's text: without dots at its end. -/
def hostT (l : List UInt8) : List UInt8 := Lib.trimRightS (l.take (wl [45, 95, 46] l)) [46]
/-- A host's parts. -/
def pts (h : List UInt8) : List ByteArray := Lib.splitB ⟨#[46]⟩ 0 (Lib.countB (B h) ⟨#[46]⟩) (B h)
def us (h : List UInt8) : Bool := decide (0 ≤ Lib.indexByte (((pts h).getD ((pts h).length - 1) ByteArray.empty) ++ ((pts h).getD ((pts h).length - 2) ByteArray.empty)).data.toList 95)
def hostBad (h : List UInt8) : Bool := decide ((pts h).length < 2) || us h || (pts h).any fun p => decide (p.toList = [])
def host (l : List UInt8) : Nat := if hostBad (hostT l) = true then 0 else (hostT l).length
theorem dw_le {p : UInt8 → Bool} : ∀ l : List UInt8, (l.dropWhile p).length ≤ l.length
  | [] => by simp
  | x :: t => by
    rw [List.dropWhile_cons]
    have := dw_le (p := p) t
    split
    · rw [List.length_cons]; omega
    · exact Nat.le_refl _
theorem tr_le (l cs : List UInt8) : (Lib.trimRightS l cs).length ≤ l.length := by
  unfold Lib.trimRightS
  rw [List.length_reverse]
  have := dw_le (p := (cs.contains ·)) l.reverse
  rw [List.length_reverse] at this
  exact this
theorem hostT_le (l : List UInt8) : (hostT l).length ≤ wl [45, 95, 46] l := by
  unfold hostT
  have := tr_le (l.take (wl [45, 95, 46] l)) [46]
  rw [List.length_take] at this
  omega
theorem host_le (l : List UInt8) : host l ≤ l.length := by
  have h1 := hostT_le l
  have h2 := wl_le [45, 95, 46] l
  unfold host
  split <;> omega
theorem split_size (sep : ByteArray) (sv : Nat) : ∀ (k : Nat) (s : ByteArray), sv = 0 → ∀ p ∈ Lib.splitB sep sv k s, p.size ≤ s.size
  | 0, s, _, p, hp => by
    rw [Lib.splitB_zero, List.mem_singleton] at hp
    rw [hp]
    exact Nat.le_refl _
  | k + 1, s, h0, p, hp => by
    unfold Lib.splitB at hp
    split at hp
    · rw [List.mem_singleton] at hp
      rw [hp]
      exact Nat.le_refl _
    · rcases List.mem_cons.1 hp with rfl | hp
      · rw [ByteArray.size_extract]; omega
      · have := split_size sep sv k _ h0 p hp
        rw [ByteArray.size_extract] at this
        omega
theorem host_l (t : List UInt8) (l : List ByteArray) : ∀ (d i : Nat), i + d = l.length → l.length ≤ 1073741825 → Ev (fun k => PA.auto_host.l0 k (B t) l (l.length : Int) (i : Int)) (if ((l.drop i).any fun p => decide (p.toList = [])) = true then 0 else (t.length : Int)) := by
  intro d
  induction d with
  | zero =>
    intro i hi _
    refine Ev.step (f := fun _ => some (t.length : Int)) (fun k => ?_) (by rw [List.drop_eq_nil_of_le (by omega)]; exact Ev.now _)
    simp only [PA.auto_host.l0]
    rw [if_neg (by omega), B_size]
  | succ d ih =>
    intro i hi hl
    have hil : i < l.length := by omega
    rw [List.drop_eq_getElem_cons hil, List.any_cons]
    by_cases h : l[i].toList = []
    · rw [decide_eq_true h, Bool.true_or, if_pos rfl]
      refine Ev.step (f := fun _ => some 0) (fun k => ?_) (Ev.now _)
      simp only [PA.auto_host.l0]
      rw [if_pos (by omega), if_pos (by omega), if_pos (by omega), getD_at l i hil, if_pos h]
    · rw [decide_eq_false h, Bool.false_or]
      refine Ev.step (fun k => ?_) (ih (i + 1) (by omega) hl)
      simp only [PA.auto_host.l0]
      rw [if_pos (by omega), if_pos (by omega), if_pos (by omega), getD_at l i hil, if_neg h, w64 (by omega) (by omega)]
      rfl
theorem host_ev (l : List UInt8) (hl : l.length ≤ 1073741824) : Ev (fun k => PA.auto_host.f k (B l)) ((host l : Nat) : Int) := by
  have h1 := wl_le [45, 95, 46] l
  have h2 := hostT_le l
  unfold PA.auto_host.f
  refine Ev.bind (while_ev l [45, 95, 46] hl) ?_
  have e1 : (B l).extract 0 (((wl [45, 95, 46] l : Nat) : Int)).toNat = B (l.take (wl [45, 95, 46] l)) := by rw [Int.toNat_natCast, B_to]
  have e2 : PA.strings_TrimRight.f (B (l.take (wl [45, 95, 46] l))) ⟨#[46]⟩ = some (B (hostT l)) := by
    unfold PA.strings_TrimRight.f
    rw [if_pos ⟨by rw [B_size, List.length_take]; omega, by decide, by decide⟩, B_data]
    rfl
  have e3 : PA.strings_Split.f (B (hostT l)) ⟨#[46]⟩ = some (pts (hostT l)) := by
    unfold PA.strings_Split.f
    rw [if_pos ⟨by rw [B_size]; omega, by decide⟩]
    rfl
  have hpl : (pts (hostT l)).length ≤ 1073741825 := by
    unfold pts
    rw [Lib.splitB_all ⟨#[46]⟩ (by decide) 0 _ _ rfl]
    have := Lib.countB_le ⟨#[46]⟩ (by decide) _ (B (hostT l)) (Nat.le_refl _)
    rw [B_size] at this
    omega
  have hps : ∀ p ∈ pts (hostT l), p.size ≤ 1073741824 := fun p hp => by
    have := split_size ⟨#[46]⟩ 0 _ _ rfl p hp
    rw [B_size] at this
    omega
  refine Ev.congr (f := fun k => if (pts (hostT l)).length < 2 then PA.auto_host.j0 k (B (hostT l)) (pts (hostT l)) true else PA.auto_host.j0 k (B (hostT l)) (pts (hostT l)) (us (hostT l))) (fun k => ?_) ?_
  · rw [if_pos (by omega), if_pos (by rw [B_size]; omega), e1, e2, Option.bind_some, e3, Option.bind_some]
    by_cases h : (pts (hostT l)).length < 2
    · rw [if_pos (by omega), if_pos h]
    · have g1 : rdOf ByteArray.empty (pts (hostT l)) (wrap64 (((pts (hostT l)).length : Int) - 1)) = (pts (hostT l)).getD ((pts (hostT l)).length - 1) ByteArray.empty := by
        rw [w64 (by omega) (by omega)]
        unfold rdOf
        congr 1
        omega
      have g2 : rdOf ByteArray.empty (pts (hostT l)) (wrap64 (((pts (hostT l)).length : Int) - 2)) = (pts (hostT l)).getD ((pts (hostT l)).length - 2) ByteArray.empty := by
        rw [w64 (by omega) (by omega)]
        unfold rdOf
        congr 1
        omega
      have s1 : ∀ i, i < (pts (hostT l)).length → ((pts (hostT l)).getD i ByteArray.empty).size ≤ 1073741824 := fun i hi => by
        rw [List.getD_eq_getElem?_getD, List.getElem?_eq_getElem hi]
        exact hps _ (List.getElem_mem hi)
      have s2 := s1 ((pts (hostT l)).length - 1) (by omega)
      have s3 := s1 ((pts (hostT l)).length - 2) (by omega)
      rw [if_neg (by omega), if_neg h, g1, g2, w64 (by omega) (by omega), w64 (by omega) (by omega), if_pos (by omega), if_pos (by omega), if_pos (by omega), if_pos (by omega), if_pos (by omega)]
      unfold PA.strings_Contains.f
      rw [if_pos (by decide), Option.bind_some]
      rfl
  · have hj : ∀ b : Bool, Ev (fun k => PA.auto_host.j0 k (B (hostT l)) (pts (hostT l)) b) (if b = true then 0 else if ((pts (hostT l)).any fun p => decide (p.toList = [])) = true then 0 else ((hostT l).length : Int)) := by
      intro b
      cases b with
      | true =>
        refine Ev.step (f := fun _ => some 0) (fun k => ?_) (by rw [if_pos rfl]; exact Ev.now _)
        simp only [PA.auto_host.j0, if_true]
      | false =>
        have := host_l (hostT l) (pts (hostT l)) _ 0 (Nat.zero_add _) hpl
        rw [List.drop_zero] at this
        rw [if_neg (by decide)]
        refine Ev.step (fun k => ?_) this
        simp only [PA.auto_host.j0]
        rw [if_neg (by decide)]
        rfl
    unfold host hostBad
    by_cases h : (pts (hostT l)).length < 2
    · rw [decide_eq_true h, Bool.true_or, Bool.true_or, if_pos rfl]
      refine Ev.congr (fun k => ?_) (hj true)
      rw [if_pos h]
    · have h3 := hj (us (hostT l))
      rw [decide_eq_false h, Bool.false_or]
      have e4 : (((if (us (hostT l) || (pts (hostT l)).any fun p => decide (p.toList = [])) = true then 0 else (hostT l).length : Nat)) : Int) = if us (hostT l) = true then 0 else if ((pts (hostT l)).any fun p => decide (p.toList = [])) = true then 0 else ((hostT l).length : Int) := by
        cases us (hostT l) <;> cases ((pts (hostT l)).any fun p => decide (p.toList = [])) <;> rfl
      rw [e4]
      refine Ev.congr (fun k => ?_) h3
      rw [if_neg h]
end Go.Proofs.YtddmddlaamcpiaaDoor.Pl
