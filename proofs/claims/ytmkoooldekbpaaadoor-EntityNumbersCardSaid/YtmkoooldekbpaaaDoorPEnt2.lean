/-
  The reference's Read answers what entity.Read answers. Condition: a text of at most 2^30 bytes.
-/
import Derived.Test.YtmkoooldekbpaaaDoorPEnt1
import Derived.Test.YtmkoooldekbpaaaDoorPAx2
namespace Go.Proofs.YtmkoooldekbpaaaDoor.Pure
open Go.RowKit Go.Proofs.YtmkoooldekbpaaaDoorW.PrintWords Go.Proofs.YtmkoooldekbpaaaDoorW.PrintMore Go.Proofs.YtmkoooldekbpaaaDoor.Pl Go.Proofs.YtmkoooldekbpaaaDoor.PA

/-! #### names, one after the other -/
theorem rd_row (i : Nat) (hi : i < 183) : rd_T32 rtS (i : Int) = ⟨B (enm i), enn i⟩ := by
  have hl : i < entL.length := by rw [entL_len]; exact hi
  unfold rd_T32 rtS
  rw [Int.toNat_natCast, List.getD_eq_getElem?_getD, List.getElem?_map, List.getElem?_eq_getElem hl]
  have e1 : enm i = entL[i].1 := by unfold enm; rw [List.getD_eq_getElem?_getD, List.getElem?_eq_getElem hl]; rfl
  have e2 : enn i = ((entL[i].2 : Nat) : Int) := by unfold enn; rw [List.getD_eq_getElem?_getD, List.getElem?_eq_getElem hl]; rfl
  rw [e1, e2]
  rfl
theorem rtS_len : rtS.length = 183 := by unfold rtS; rw [List.length_map, entL_len]
theorem named_l (t : List UInt8) : ∀ (d i : Nat), i + d = 183 → (∀ k, k < i → enm k ≠ t) → Ev (fun k => incipitref04_Named.l0 k (B t) rtS (i : Int)) (nmd t) := by
  intro d
  induction d with
  | zero =>
    intro i hi hn
    rw [nmd_miss t (fun k hk => hn k (by omega))]
    refine Ev.step (f := fun _ => some (⟨#[]⟩, false)) (fun k => ?_) (Ev.now _)
    simp only [incipitref04_Named.l0]
    rw [rtS_len, if_neg (by omega)]
  | succ d ih =>
    intro i hi hn
    have hil : i < 183 := by omega
    by_cases h : enm i = t
    · subst h
      rw [nmd_hit i hil]
      refine Ev.step (f := fun _ => some (Go.Utf8.encode (enn i), true)) (fun k => ?_) (Ev.now _)
      simp only [incipitref04_Named.l0]
      rw [rtS_len, if_pos (by omega), if_pos (by omega), rd_row i hil, if_pos rfl]
    · refine Ev.step (fun k => ?_) (ih (i + 1) (by omega) (fun k hk => ?_))
      · simp only [incipitref04_Named.l0]
        rw [rtS_len, if_pos (by omega), if_pos (by omega), rd_row i hil, if_neg (by rw [B_toList, B_toList]; exact h), w64 (by omega) (by omega)]
        rfl
      · rcases Nat.lt_succ_iff_lt_or_eq.1 hk with h1 | rfl
        · exact hn k h1
        · exact h
theorem rnamed_ev (t : List UInt8) : Ev (fun k => incipitref04_Named.f k (B t)) (nmd t) := by
  unfold incipitref04_Named.f incipitref04_Table.f
  exact named_l t 183 0 rfl (fun k hk => by omega)
/-! #### the end -/
theorem end_l (s : List UInt8) (hs : s.length ≤ 1073741824) : ∀ (d i : Nat), i + d = s.length → (∀ x ∈ s.take i, x ≠ 59) → Ev (fun k => incipitref04_end.l0 k (B s) (i : Int)) (if (59 : UInt8) ∈ s.drop i then (i : Int) + ((upto (s.drop i)).length : Int) else -1) := by
  intro d
  induction d with
  | zero =>
    intro i hi hn
    rw [List.drop_of_length_le (by omega), if_neg (by simp)]
    refine Ev.step (f := fun _ => some (-1)) (fun k => ?_) (Ev.now _)
    simp only [incipitref04_end.l0]
    rw [if_neg (by rw [B_size]; omega)]
  | succ d ih =>
    intro i hi hn
    have hil : i < s.length := by omega
    have h59 : ((s[i].toNat : Int) = 59) ↔ s[i] = 59 := u8_eq _ 59 (by omega)
    rw [List.drop_eq_getElem_cons hil]
    by_cases h : s[i] = 59
    · rw [if_pos (by rw [h]; simp), upto, if_pos h]
      refine Ev.step (f := fun _ => some ((i : Int) + (([] : List UInt8).length : Int))) (fun k => ?_) (Ev.now _)
      simp only [incipitref04_end.l0]
      rw [if_pos (by rw [B_size]; omega), if_pos (by omega), B_bt s i hil, if_pos (h59.2 h)]
      simp
    · have hm : (59 : UInt8) ∈ s[i] :: s.drop (i + 1) ↔ (59 : UInt8) ∈ s.drop (i + 1) := by rw [List.mem_cons]; exact ⟨fun h' => h'.resolve_left (fun e => h e.symm), .inr⟩
      have hv : (if (59 : UInt8) ∈ s[i] :: s.drop (i + 1) then (i : Int) + ((upto (s[i] :: s.drop (i + 1))).length : Int) else -1) = if (59 : UInt8) ∈ s.drop (i + 1) then ((i + 1 : Nat) : Int) + ((upto (s.drop (i + 1))).length : Int) else -1 := by
        rw [upto, if_neg h, List.length_cons]
        by_cases h' : (59 : UInt8) ∈ s.drop (i + 1)
        · rw [if_pos h', if_pos (hm.2 h')]
          omega
        · rw [if_neg h', if_neg (fun e => h' (hm.1 e))]
      rw [hv]
      refine Ev.step (fun k => ?_) (ih (i + 1) (by omega) (fun x hx => ?_))
      · simp only [incipitref04_end.l0]
        rw [if_pos (by rw [B_size]; omega), if_pos (by omega), B_bt s i hil, if_neg (fun e => h (h59.1 e)), w64 (by omega) (by omega)]
        rfl
      · rw [List.take_succ_eq_append_getElem hil, List.mem_append, List.mem_singleton] at hx
        rcases hx with e | e
        · exact hn x e
        · rw [e]; exact h
theorem end_ev (s : List UInt8) (hs : s.length ≤ 1073741824) : Ev (fun k => incipitref04_end.f k (B s)) (if (59 : UInt8) ∈ s then ((upto s).length : Int) else -1) := by
  unfold incipitref04_end.f
  have h := end_l s hs s.length 0 (Nat.zero_add _) (by simp)
  rw [List.drop_zero] at h
  simpa using h
/-! #### numbers -/
/-- The digit's search: places left, the answer so far. -/
def inn (b c : Nat) : Nat → Int → Int
  | 0, d => d
  | n + 1, d => if c = ([48, 49, 50, 51, 52, 53, 54, 55, 56, 57, 97, 98, 99, 100, 101, 102] : List Nat).getD (b - (n + 1)) 0 then inn b c n ((b - (n + 1) : Nat) : Int) else if c = ([48, 49, 50, 51, 52, 53, 54, 55, 56, 57, 65, 66, 67, 68, 69, 70] : List Nat).getD (b - (n + 1)) 0 then inn b c n ((b - (n + 1) : Nat) : Int) else inn b c n d
theorem inn10 : ∀ c : Fin 256, inn 10 c.val 10 (-1) = if dOk 10 (UInt8.ofNat c.val) then (dv (UInt8.ofNat c.val) : Int) else -1 := by decide +kernel
theorem inn16 : ∀ c : Fin 256, inn 16 c.val 16 (-1) = if dOk 16 (UInt8.ofNat c.val) then (dv (UInt8.ofNat c.val) : Int) else -1 := by decide +kernel
theorem inn_eq (b : Nat) (hb : b = 10 ∨ b = 16) (x : UInt8) : inn b x.toNat b (-1) = if dOk b x then (dv x : Int) else -1 := by
  have hx : UInt8.ofNat x.toNat = x := by simp
  rcases hb with rfl | rfl
  · have h := inn10 ⟨x.toNat, x.toNat_lt⟩
    rwa [hx] at h
  · have h := inn16 ⟨x.toNat, x.toNat_lt⟩
    rwa [hx] at h
theorem lowB (j : Nat) (h : j < 16) : bt (⟨#[48, 49, 50, 51, 52, 53, 54, 55, 56, 57, 97, 98, 99, 100, 101, 102]⟩ : ByteArray) (j : Int) = ((([48, 49, 50, 51, 52, 53, 54, 55, 56, 57, 97, 98, 99, 100, 101, 102] : List Nat).getD j 0 : Nat) : Int) := by
  have h0 : ∀ i : Fin 16, bt (⟨#[48, 49, 50, 51, 52, 53, 54, 55, 56, 57, 97, 98, 99, 100, 101, 102]⟩ : ByteArray) (i.val : Int) = ((([48, 49, 50, 51, 52, 53, 54, 55, 56, 57, 97, 98, 99, 100, 101, 102] : List Nat).getD i.val 0 : Nat) : Int) := by decide +kernel
  exact h0 ⟨j, h⟩
theorem uppB (j : Nat) (h : j < 16) : bt (⟨#[48, 49, 50, 51, 52, 53, 54, 55, 56, 57, 65, 66, 67, 68, 69, 70]⟩ : ByteArray) (j : Int) = ((([48, 49, 50, 51, 52, 53, 54, 55, 56, 57, 65, 66, 67, 68, 69, 70] : List Nat).getD j 0 : Nat) : Int) := by
  have h0 : ∀ i : Fin 16, bt (⟨#[48, 49, 50, 51, 52, 53, 54, 55, 56, 57, 65, 66, 67, 68, 69, 70]⟩ : ByteArray) (i.val : Int) = ((([48, 49, 50, 51, 52, 53, 54, 55, 56, 57, 65, 66, 67, 68, 69, 70] : List Nat).getD i.val 0 : Nat) : Int) := by decide +kernel
  exact h0 ⟨j, h⟩
theorem num_in (b : Nat) (hb : b = 10 ∨ b = 16) (s : List UInt8) (_hs : s.length ≤ 7) (i : Nat) (hi : i < s.length) (n : Int) (r : Int) : ∀ (m : Nat) (d : Int), m ≤ b →
    (inn b s[i].toNat m d < 0 → r = -1) → (0 ≤ inn b s[i].toNat m d → Ev (fun k => incipitref04_number.l0 k (B s) (b : Int) (wrap64 (wrap64 (n * b) + inn b s[i].toNat m d)) (wrap64 ((i : Int) + 1))) r) →
    Ev (fun k => incipitref04_number.l1 k (B s) (b : Int) n (i : Int) d ((b - m : Nat) : Int)) r := by
  intro m
  induction m with
  | zero =>
    intro d hm h1 h2
    rw [inn] at h1 h2
    by_cases h : d < 0
    · rw [h1 h]
      refine Ev.step (f := fun _ => some (-1)) (fun k => ?_) (Ev.now _)
      simp only [incipitref04_number.l1]
      rw [if_neg (by omega), if_pos h]
    · refine Ev.step (fun k => ?_) (h2 (by omega))
      simp only [incipitref04_number.l1]
      rw [if_neg (by omega), if_neg h]
  | succ m ih =>
    intro d hm h1 h2
    rw [inn] at h1 h2
    have hb16 : b ≤ 16 := by omega
    have e1 : (((b - (m + 1) : Nat) : Int) + 1) = ((b - m : Nat) : Int) := by omega
    have hstep : ∀ k, incipitref04_number.l1 (k + 1) (B s) (b : Int) n (i : Int) d ((b - (m + 1) : Nat) : Int) =
        if s[i].toNat = ([48, 49, 50, 51, 52, 53, 54, 55, 56, 57, 97, 98, 99, 100, 101, 102] : List Nat).getD (b - (m + 1)) 0 then incipitref04_number.l1 k (B s) (b : Int) n (i : Int) ((b - (m + 1) : Nat) : Int) ((b - m : Nat) : Int)
        else if s[i].toNat = ([48, 49, 50, 51, 52, 53, 54, 55, 56, 57, 65, 66, 67, 68, 69, 70] : List Nat).getD (b - (m + 1)) 0 then incipitref04_number.l1 k (B s) (b : Int) n (i : Int) ((b - (m + 1) : Nat) : Int) ((b - m : Nat) : Int)
        else incipitref04_number.l1 k (B s) (b : Int) n (i : Int) d ((b - m : Nat) : Int) := by
      intro k
      simp only [incipitref04_number.l1]
      rw [if_pos (by omega), if_pos (by omega), if_pos (by rw [B_size]; omega), if_pos (by omega), if_pos (by omega), B_bt s i hi, lowB _ (by omega), uppB _ (by omega), w64 (by omega) (by omega), e1]
      simp only [Int.natCast_inj]
    by_cases c1 : s[i].toNat = ([48, 49, 50, 51, 52, 53, 54, 55, 56, 57, 97, 98, 99, 100, 101, 102] : List Nat).getD (b - (m + 1)) 0
    · rw [if_pos c1] at h1 h2
      refine Ev.step (fun k => ?_) (ih _ (by omega) h1 h2)
      rw [hstep, if_pos c1]
    · rw [if_neg c1] at h1 h2
      by_cases c2 : s[i].toNat = ([48, 49, 50, 51, 52, 53, 54, 55, 56, 57, 65, 66, 67, 68, 69, 70] : List Nat).getD (b - (m + 1)) 0
      · rw [if_pos c2] at h1 h2
        refine Ev.step (fun k => ?_) (ih _ (by omega) h1 h2)
        rw [hstep, if_neg c1, if_pos c2]
      · rw [if_neg c2] at h1 h2
        refine Ev.step (fun k => ?_) (ih _ (by omega) h1 h2)
        rw [hstep, if_neg c1, if_neg c2]
theorem wr2 (N b D : Nat) (h : N * b ≤ 4294967296) (hD : D < 256) : wrap64 (wrap64 ((N : Int) * (b : Int)) + (D : Int)) = ((N * b + D : Nat) : Int) := by
  rw [← Int.natCast_mul]
  generalize N * b = M at h ⊢
  rw [w64 (x := (M : Int)) (by omega) (by omega), w64 (by omega) (by omega)]
  rfl
theorem num_l (b : Nat) (hb : b = 10 ∨ b = 16) (s : List UInt8) (hs : s.length ≤ 7) : ∀ (d i : Nat), i + d = s.length → (∀ x ∈ s.take i, dOk b x) →
    Ev (fun k => incipitref04_number.l0 k (B s) (b : Int) (num b (s.take i) : Int) (i : Int)) (if ∀ x ∈ s, dOk b x then (num b s : Int) else -1) := by
  intro d
  induction d with
  | zero =>
    intro i hi hn
    rw [List.take_of_length_le (by omega)] at hn ⊢
    rw [if_pos hn]
    refine Ev.step (f := fun _ => some (num b s : Int)) (fun k => ?_) (Ev.now _)
    simp only [incipitref04_number.l0]
    rw [if_neg (by rw [B_size]; omega)]
  | succ d ih =>
    intro i hi hn
    have hil : i < s.length := by omega
    have hin := inn_eq b hb s[i]
    have hlt := num_lt b hb i (s.take i) (by rw [List.length_take]; omega) hn
    have h16 : 16 ^ i ≤ 268435456 := Nat.le_trans (Nat.pow_le_pow_right (by omega) (show i ≤ 7 by omega)) (by decide)
    have hmul : num b (s.take i) * b ≤ 268435456 * 16 := Nat.mul_le_mul (by omega) (by omega)
    have hdv : ∀ h : dOk b s[i], dv s[i] < b := fun h => dv_le b s[i] h hb
    refine Ev.step (fun k => ?_) (num_in b hb s hs i hil (num b (s.take i) : Int) _ b (-1) (Nat.le_refl _) (fun h => ?_) (fun h => ?_))
    · simp only [incipitref04_number.l0]
      rw [if_pos (by rw [B_size]; omega), Nat.sub_self]
      rfl
    · rw [hin] at h
      by_cases hd : dOk b s[i]
      · rw [if_pos hd] at h
        omega
      · rw [if_neg (fun e => hd (e _ (List.getElem_mem hil)))]
    · rw [hin] at h ⊢
      by_cases hd : dOk b s[i]
      · rw [if_pos hd]
        have hdl := hdv hd
        have h2 := ih (i + 1) (by omega) (fun x hx => by
          rw [List.take_succ_eq_append_getElem hil, List.mem_append, List.mem_singleton] at hx
          rcases hx with e | e
          · exact hn x e
          · rw [e]; exact hd)
        rw [List.take_succ_eq_append_getElem hil, num_snoc] at h2
        have e1 : wrap64 (wrap64 ((num b (s.take i) : Int) * (b : Int)) + (dv s[i] : Int)) = ((num b (s.take i) * b + dv s[i] : Nat) : Int) :=
           wr2 _ _ _ (by omega) (by omega)
        rw [e1, w64 (by omega) (by omega)]
        exact h2
      · rw [if_neg hd] at h
        omega
/-- The number of a reference, or -1. -/
def rnum (b most : Nat) (s : List UInt8) : Int := if s = [] ∨ most < s.length then -1 else if ∀ x ∈ s, dOk b x then (num b s : Int) else -1
theorem rnum_ev (b most : Nat) (hb : b = 10 ∨ b = 16) (hm : most ≤ 7) (s : List UInt8) (hs : s.length ≤ 1073741824) : Ev (fun k => incipitref04_number.f k (B s) (b : Int) (most : Int)) (rnum b most s) := by
  unfold incipitref04_number.f rnum
  have hj : ∀ c : Bool, (c = true → (if s = [] ∨ most < s.length then -1 else if ∀ x ∈ s, dOk b x then (num b s : Int) else -1) = -1) → (c = false → ¬ (s = [] ∨ most < s.length)) → Ev (fun k => incipitref04_number.j0 k (B s) (b : Int) c) (if s = [] ∨ most < s.length then -1 else if ∀ x ∈ s, dOk b x then (num b s : Int) else -1) := by
    intro c h1 h2
    cases c with
    | true =>
      rw [h1 rfl]
      refine Ev.step (f := fun _ => some (-1)) (fun k => ?_) (Ev.now _)
      simp only [incipitref04_number.j0, if_true]
    | false =>
      have h3 := h2 rfl
      rw [if_neg h3]
      rw [not_or] at h3
      refine Ev.step (fun k => ?_) (num_l b hb s (by omega) s.length 0 (Nat.zero_add _) (by simp))
      simp only [incipitref04_number.j0]
      rw [if_neg (by simp)]
      rfl
  by_cases h0 : s = []
  · refine Ev.congr (fun k => ?_) (hj true (fun _ => by rw [if_pos (.inl h0)]) (fun e => by cases e))
    rw [if_pos (by rw [B_size, h0]; rfl)]
  · have hl : 0 < s.length := List.length_pos_iff.2 h0
    refine Ev.congr (fun k => ?_) (hj (decide (((B s).size : Int) > (most : Int))) (fun e => ?_) (fun e => ?_))
    · rw [if_neg (by rw [B_size]; omega)]
    · have := of_decide_eq_true e
      rw [B_size] at this
      rw [if_pos (.inr (by omega))]
    · have := of_decide_eq_false e
      rw [B_size] at this
      rintro (e | e)
      · exact h0 e
      · omega
end Go.Proofs.YtmkoooldekbpaaaDoor.Pure
