/-
  The law EscapeIs holds: for every input it answers true, its arguments read behind the call as before. Conditions: the listed package-level variables as the program's text lays them (tied by the card).
-/
import Derived.Test.YtinpchebcnkckaaGreatDoorRowVars
import Derived.Test.YtinpchebcnkckaaGreatDoorPRd1
import Derived.Test.YtinpchebcnkckaaGreatDoorPAx5
import Derived.Test.YtinpchebcnkckaaGreatDoorPEsc2
namespace Go.Proofs.YtinpchebcnkckaaGreatDoor.Pure
open Go.RowKit Go.Proofs.YtinpchebcnkckaaGreatDoorW.PrintWords Go.Proofs.YtinpchebcnkckaaGreatDoorW.PrintMore Go.Proofs.YtinpchebcnkckaaGreatDoor.Pl Go.Proofs.YtinpchebcnkckaaGreatDoor.PA

/-! #### names, one after the other -/
theorem rd_row (i : Nat) (hi : i < 183) : rd_T82 rtS (i : Int) = ⟨B (enm i), enn i⟩ := by
  have hl : i < entL.length := by rw [entL_len]; exact hi
  unfold rd_T82 rtS
  rw [Int.toNat_natCast, List.getD_eq_getElem?_getD, List.getElem?_map, List.getElem?_eq_getElem hl]
  have e1 : enm i = entL[i].1 := by unfold enm; rw [List.getD_eq_getElem?_getD, List.getElem?_eq_getElem hl]; rfl
  have e2 : enn i = ((entL[i].2 : Nat) : Int) := by unfold enn; rw [List.getD_eq_getElem?_getD, List.getElem?_eq_getElem hl]; rfl
  rw [e1, e2]
  rfl
theorem rtS_len : rtS.length = 183 := by unfold rtS; rw [List.length_map, entL_len]
theorem named_l (t : List UInt8) : ∀ (d i : Nat), i + d = 183 → (∀ k, k < i → enm k ≠ t) → Ev (fun k => incipitref04_Named.l0 k (B t) rtS (i : Int)) (nmd t) := by
  intro d
  induction d with
  | zero =>
    intro i hi hn
    rw [nmd_miss t (fun k hk => hn k (by omega))]
    refine Ev.step (f := fun _ => some (⟨#[]⟩, false)) (fun k => ?_) (Ev.now _)
    simp only [incipitref04_Named.l0]
    rw [rtS_len, if_neg (by omega)]
  | succ d ih =>
    intro i hi hn
    have hil : i < 183 := by omega
    by_cases h : enm i = t
    · subst h
      rw [nmd_hit i hil]
      refine Ev.step (f := fun _ => some (Go.Utf8.encode (enn i), true)) (fun k => ?_) (Ev.now _)
      simp only [incipitref04_Named.l0]
      rw [rtS_len, if_pos (by omega), if_pos (by omega), rd_row i hil, if_pos rfl]
    · refine Ev.step (fun k => ?_) (ih (i + 1) (by omega) (fun k hk => ?_))
      · simp only [incipitref04_Named.l0]
        rw [rtS_len, if_pos (by omega), if_pos (by omega), rd_row i hil, if_neg (by rw [B_toList, B_toList]; exact h), w64 (by omega) (by omega)]
        rfl
      · rcases Nat.lt_succ_iff_lt_or_eq.1 hk with h1 | rfl
        · exact hn k h1
        · exact h
theorem rnamed_ev (t : List UInt8) : Ev (fun k => incipitref04_Named.f k (B t)) (nmd t) := by
  unfold incipitref04_Named.f incipitref04_Table.f
  exact named_l t 183 0 rfl (fun k hk => by omega)
/-! #### the end -/
theorem end_l (s : List UInt8) (hs : s.length ≤ 1073741824) : ∀ (d i : Nat), i + d = s.length → (∀ x ∈ s.take i, x ≠ 59) → Ev (fun k => incipitref04_end.l0 k (B s) (i : Int)) (if (59 : UInt8) ∈ s.drop i then (i : Int) + ((upto (s.drop i)).length : Int) else -1) := by
  intro d
  induction d with
  | zero =>
    intro i hi hn
    rw [List.drop_of_length_le (by omega), if_neg (by simp)]
    refine Ev.step (f := fun _ => some (-1)) (fun k => ?_) (Ev.now _)
    simp only [incipitref04_end.l0]
    rw [if_neg (by rw [B_size]; omega)]
  | succ d ih =>
    intro i hi hn
    have hil : i < s.length := by omega
    have h59 : ((s[i].toNat : Int) = 59) ↔ s[i] = 59 := u8_eq _ 59 (by omega)
    rw [List.drop_eq_getElem_cons hil]
    by_cases h : s[i] = 59
    · rw [if_pos (by rw [h]; simp), upto, if_pos h]
      refine Ev.step (f := fun _ => some ((i : Int) + (([] : List UInt8).length : Int))) (fun k => ?_) (Ev.now _)
      simp only [incipitref04_end.l0]
      rw [if_pos (by rw [B_size]; omega), if_pos (by omega), B_bt s i hil, if_pos (h59.2 h)]
      simp
    · have hm : (59 : UInt8) ∈ s[i] :: s.drop (i + 1) ↔ (59 : UInt8) ∈ s.drop (i + 1) := by rw [List.mem_cons]; exact ⟨fun h' => h'.resolve_left (fun e => h e.symm), .inr⟩
      have hv : (if (59 : UInt8) ∈ s[i] :: s.drop (i + 1) then (i : Int) + ((upto (s[i] :: s.drop (i + 1))).length : Int) else -1) = if (59 : UInt8) ∈ s.drop (i + 1) then ((i + 1 : Nat) : Int) + ((upto (s.drop (i + 1))).length : Int) else -1 := by
        rw [upto, if_neg h, List.length_cons]
        by_cases h' : (59 : UInt8) ∈ s.drop (i + 1)
        · rw [if_pos h', if_pos (hm.2 h')]
          omega
        · rw [if_neg h', if_neg (fun e => h' (hm.1 e))]
      rw [hv]
      refine Ev.step (fun k => ?_) (ih (i + 1) (by omega) (fun x hx => ?_))
      · simp only [incipitref04_end.l0]
        rw [if_pos (by rw [B_size]; omega), if_pos (by omega), B_bt s i hil, if_neg (fun e => h (h59.1 e)), w64 (by omega) (by omega)]
        rfl
      · rw [List.take_succ_eq_append_getElem hil, List.mem_append, List.mem_singleton] at hx
        rcases hx with e | e
        · exact hn x e
        · rw [e]; exact h
theorem end_ev (s : List UInt8) (hs : s.length ≤ 1073741824) : Ev (fun k => incipitref04_end.f k (B s)) (if (59 : UInt8) ∈ s then ((upto s).length : Int) else -1) := by
  unfold incipitref04_end.f
  have h := end_l s hs s.length 0 (Nat.zero_add _) (by simp)
  rw [List.drop_zero] at h
  simpa using h
/-! #### numbers -/
/-- The digit's search: places left, the answer so far. -/
def inn (b c : Nat) : Nat → Int → Int
  | 0, d => d
  | n + 1, d => if c = ([48, 49, 50, 51, 52, 53, 54, 55, 56, 57, 97, 98, 99, 100, 101, 102] : List Nat).getD (b - (n + 1)) 0 then inn b c n ((b - (n + 1) : Nat) : Int) else if c = ([48, 49, 50, 51, 52, 53, 54, 55, 56, 57, 65, 66, 67, 68, 69, 70] : List Nat).getD (b - (n + 1)) 0 then inn b c n ((b - (n + 1) : Nat) : Int) else inn b c n d
theorem inn10 : ∀ c : Fin 256, inn 10 c.val 10 (-1) = if dOk 10 (UInt8.ofNat c.val) then (dv (UInt8.ofNat c.val) : Int) else -1 := by decide +kernel
theorem inn16 : ∀ c : Fin 256, inn 16 c.val 16 (-1) = if dOk 16 (UInt8.ofNat c.val) then (dv (UInt8.ofNat c.val) : Int) else -1 := by decide +kernel
theorem inn_eq (b : Nat) (hb : b = 10 ∨ b = 16) (x : UInt8) : inn b x.toNat b (-1) = if dOk b x then (dv x : Int) else -1 := by
  have hx : UInt8.ofNat x.toNat = x := by simp
  rcases hb with rfl | rfl
  · have h := inn10 ⟨x.toNat, x.toNat_lt⟩
    rwa [hx] at h
  · have h := inn16 ⟨x.toNat, x.toNat_lt⟩
    rwa [hx] at h
theorem lowB (j : Nat) (h : j < 16) : bt (⟨#[48, 49, 50, 51, 52, 53, 54, 55, 56, 57, 97, 98, 99, 100, 101, 102]⟩ : ByteArray) (j : Int) = ((([48, 49, 50, 51, 52, 53, 54, 55, 56, 57, 97, 98, 99, 100, 101, 102] : List Nat).getD j 0 : Nat) : Int) := by
  have h0 : ∀ i : Fin 16, bt (⟨#[48, 49, 50, 51, 52, 53, 54, 55, 56, 57, 97, 98, 99, 100, 101, 102]⟩ : ByteArray) (i.val : Int) = ((([48, 49, 50, 51, 52, 53, 54, 55, 56, 57, 97, 98, 99, 100, 101, 102] : List Nat).getD i.val 0 : Nat) : Int) := by decide +kernel
  exact h0 ⟨j, h⟩
theorem uppB (j : Nat) (h : j < 16) : bt (⟨#[48, 49, 50, 51, 52, 53, 54, 55, 56, 57, 65, 66, 67, 68, 69, 70]⟩ : ByteArray) (j : Int) = ((([48, 49, 50, 51, 52, 53, 54, 55, 56, 57, 65, 66, 67, 68, 69, 70] : List Nat).getD j 0 : Nat) : Int) := by
  have h0 : ∀ i : Fin 16, bt (⟨#[48, 49, 50, 51, 52, 53, 54, 55, 56, 57, 65, 66, 67, 68, 69, 70]⟩ : ByteArray) (i.val : Int) = ((([48, 49, 50, 51, 52, 53, 54, 55, 56, 57, 65, 66, 67, 68, 69, 70] : List Nat).getD i.val 0 : Nat) : Int) := by decide +kernel
  exact h0 ⟨j, h⟩
theorem num_in (b : Nat) (hb : b = 10 ∨ b = 16) (s : List UInt8) (_hs : s.length ≤ 7) (i : Nat) (hi : i < s.length) (n : Int) (r : Int) : ∀ (m : Nat) (d : Int), m ≤ b →
    (inn b s[i].toNat m d < 0 → r = -1) → (0 ≤ inn b s[i].toNat m d → Ev (fun k => incipitref04_number.l0 k (B s) (b : Int) (wrap64 (wrap64 (n * b) + inn b s[i].toNat m d)) (wrap64 ((i : Int) + 1))) r) →
    Ev (fun k => incipitref04_number.l1 k (B s) (b : Int) n (i : Int) d ((b - m : Nat) : Int)) r := by
  intro m
  induction m with
  | zero =>
    intro d hm h1 h2
    rw [inn] at h1 h2
    by_cases h : d < 0
    · rw [h1 h]
      refine Ev.step (f := fun _ => some (-1)) (fun k => ?_) (Ev.now _)
      simp only [incipitref04_number.l1]
      rw [if_neg (by omega), if_pos h]
    · refine Ev.step (fun k => ?_) (h2 (by omega))
      simp only [incipitref04_number.l1]
      rw [if_neg (by omega), if_neg h]
  | succ m ih =>
    intro d hm h1 h2
    rw [inn] at h1 h2
    have hb16 : b ≤ 16 := by omega
    have e1 : (((b - (m + 1) : Nat) : Int) + 1) = ((b - m : Nat) : Int) := by omega
    have hstep : ∀ k, incipitref04_number.l1 (k + 1) (B s) (b : Int) n (i : Int) d ((b - (m + 1) : Nat) : Int) =
        if s[i].toNat = ([48, 49, 50, 51, 52, 53, 54, 55, 56, 57, 97, 98, 99, 100, 101, 102] : List Nat).getD (b - (m + 1)) 0 then incipitref04_number.l1 k (B s) (b : Int) n (i : Int) ((b - (m + 1) : Nat) : Int) ((b - m : Nat) : Int)
        else if s[i].toNat = ([48, 49, 50, 51, 52, 53, 54, 55, 56, 57, 65, 66, 67, 68, 69, 70] : List Nat).getD (b - (m + 1)) 0 then incipitref04_number.l1 k (B s) (b : Int) n (i : Int) ((b - (m + 1) : Nat) : Int) ((b - m : Nat) : Int)
        else incipitref04_number.l1 k (B s) (b : Int) n (i : Int) d ((b - m : Nat) : Int) := by
      intro k
      simp only [incipitref04_number.l1]
      rw [if_pos (by omega), if_pos (by omega), if_pos (by rw [B_size]; omega), if_pos (by omega), if_pos (by omega), B_bt s i hi, lowB _ (by omega), uppB _ (by omega), w64 (by omega) (by omega), e1]
      simp only [Int.natCast_inj]
    by_cases c1 : s[i].toNat = ([48, 49, 50, 51, 52, 53, 54, 55, 56, 57, 97, 98, 99, 100, 101, 102] : List Nat).getD (b - (m + 1)) 0
    · rw [if_pos c1] at h1 h2
      refine Ev.step (fun k => ?_) (ih _ (by omega) h1 h2)
      rw [hstep, if_pos c1]
    · rw [if_neg c1] at h1 h2
      by_cases c2 : s[i].toNat = ([48, 49, 50, 51, 52, 53, 54, 55, 56, 57, 65, 66, 67, 68, 69, 70] : List Nat).getD (b - (m + 1)) 0
      · rw [if_pos c2] at h1 h2
        refine Ev.step (fun k => ?_) (ih _ (by omega) h1 h2)
        rw [hstep, if_neg c1, if_pos c2]
      · rw [if_neg c2] at h1 h2
        refine Ev.step (fun k => ?_) (ih _ (by omega) h1 h2)
        rw [hstep, if_neg c1, if_neg c2]
theorem wr2 (N b D : Nat) (h : N * b ≤ 4294967296) (hD : D < 256) : wrap64 (wrap64 ((N : Int) * (b : Int)) + (D : Int)) = ((N * b + D : Nat) : Int) := by
  rw [← Int.natCast_mul]
  generalize N * b = M at h ⊢
  rw [w64 (x := (M : Int)) (by omega) (by omega), w64 (by omega) (by omega)]
  rfl
theorem num_l (b : Nat) (hb : b = 10 ∨ b = 16) (s : List UInt8) (hs : s.length ≤ 7) : ∀ (d i : Nat), i + d = s.length → (∀ x ∈ s.take i, dOk b x) →
    Ev (fun k => incipitref04_number.l0 k (B s) (b : Int) (num b (s.take i) : Int) (i : Int)) (if ∀ x ∈ s, dOk b x then (num b s : Int) else -1) := by
  intro d
  induction d with
  | zero =>
    intro i hi hn
    rw [List.take_of_length_le (by omega)] at hn ⊢
    rw [if_pos hn]
    refine Ev.step (f := fun _ => some (num b s : Int)) (fun k => ?_) (Ev.now _)
    simp only [incipitref04_number.l0]
    rw [if_neg (by rw [B_size]; omega)]
  | succ d ih =>
    intro i hi hn
    have hil : i < s.length := by omega
    have hin := inn_eq b hb s[i]
    have hlt := num_lt b hb i (s.take i) (by rw [List.length_take]; omega) hn
    have h16 : 16 ^ i ≤ 268435456 := Nat.le_trans (Nat.pow_le_pow_right (by omega) (show i ≤ 7 by omega)) (by decide)
    have hmul : num b (s.take i) * b ≤ 268435456 * 16 := Nat.mul_le_mul (by omega) (by omega)
    have hdv : ∀ h : dOk b s[i], dv s[i] < b := fun h => dv_le b s[i] h hb
    refine Ev.step (fun k => ?_) (num_in b hb s hs i hil (num b (s.take i) : Int) _ b (-1) (Nat.le_refl _) (fun h => ?_) (fun h => ?_))
    · simp only [incipitref04_number.l0]
      rw [if_pos (by rw [B_size]; omega), Nat.sub_self]
      rfl
    · rw [hin] at h
      by_cases hd : dOk b s[i]
      · rw [if_pos hd] at h
        omega
      · rw [if_neg (fun e => hd (e _ (List.getElem_mem hil)))]
    · rw [hin] at h ⊢
      by_cases hd : dOk b s[i]
      · rw [if_pos hd]
        have hdl := hdv hd
        have h2 := ih (i + 1) (by omega) (fun x hx => by
          rw [List.take_succ_eq_append_getElem hil, List.mem_append, List.mem_singleton] at hx
          rcases hx with e | e
          · exact hn x e
          · rw [e]; exact hd)
        rw [List.take_succ_eq_append_getElem hil, num_snoc] at h2
        have e1 : wrap64 (wrap64 ((num b (s.take i) : Int) * (b : Int)) + (dv s[i] : Int)) = ((num b (s.take i) * b + dv s[i] : Nat) : Int) :=
           wr2 _ _ _ (by omega) (by omega)
        rw [e1, w64 (by omega) (by omega)]
        exact h2
      · rw [if_neg hd] at h
        omega
/-- The number of a reference, or -1. -/
def rnum (b most : Nat) (s : List UInt8) : Int := if s = [] ∨ most < s.length then -1 else if ∀ x ∈ s, dOk b x then (num b s : Int) else -1
theorem rnum_ev (b most : Nat) (hb : b = 10 ∨ b = 16) (hm : most ≤ 7) (s : List UInt8) (hs : s.length ≤ 1073741824) : Ev (fun k => incipitref04_number.f k (B s) (b : Int) (most : Int)) (rnum b most s) := by
  unfold incipitref04_number.f rnum
  have hj : ∀ c : Bool, (c = true → (if s = [] ∨ most < s.length then -1 else if ∀ x ∈ s, dOk b x then (num b s : Int) else -1) = -1) → (c = false → ¬ (s = [] ∨ most < s.length)) → Ev (fun k => incipitref04_number.j0 k (B s) (b : Int) c) (if s = [] ∨ most < s.length then -1 else if ∀ x ∈ s, dOk b x then (num b s : Int) else -1) := by
    intro c h1 h2
    cases c with
    | true =>
      rw [h1 rfl]
      refine Ev.step (f := fun _ => some (-1)) (fun k => ?_) (Ev.now _)
      simp only [incipitref04_number.j0, if_true]
    | false =>
      have h3 := h2 rfl
      rw [if_neg h3]
      rw [not_or] at h3
      refine Ev.step (fun k => ?_) (num_l b hb s (by omega) s.length 0 (Nat.zero_add _) (by simp))
      simp only [incipitref04_number.j0]
      rw [if_neg (by simp)]
      rfl
  by_cases h0 : s = []
  · refine Ev.congr (fun k => ?_) (hj true (fun _ => by rw [if_pos (.inl h0)]) (fun e => by cases e))
    rw [if_pos (by rw [B_size, h0]; rfl)]
  · have hl : 0 < s.length := List.length_pos_iff.2 h0
    refine Ev.congr (fun k => ?_) (hj (decide (((B s).size : Int) > (most : Int))) (fun e => ?_) (fun e => ?_))
    · rw [if_neg (by rw [B_size]; omega)]
    · have := of_decide_eq_true e
      rw [B_size] at this
      rw [if_pos (.inr (by omega))]
    · have := of_decide_eq_false e
      rw [B_size] at this
      rintro (e | e)
      · exact h0 e
      · omega

/-- What is answered, by the character and the place of the ;. -/
def resE (c : ByteArray × Bool) (e : Int) : ByteArray × Int := if c.2 = true then (c.1, e + 1) else (⟨#[]⟩, 0)
theorem rd_no (a : ByteArray) (e : Int) : Ev (fun k => incipitref04_Read.j0 k a e true) ((⟨#[]⟩, 0) : ByteArray × Int) := by
  refine Ev.step (f := fun _ => some (⟨#[]⟩, 0)) (fun k => ?_) (Ev.now _)
  simp only [incipitref04_Read.j0, if_true]
theorem j2_ev (e : Nat) (he : e ≤ 1073741824) (b most : Nat) (hb : b = 10 ∨ b = 16) (hm : most ≤ 7) (ok : UInt8 → Bool) (hok : ∀ x, ok x = true ↔ dOk b x) (t : List UInt8) :
    Ev (fun k => incipitref04_Read.j2 k (e : Int) (rnum b most t)) (resE (chr b most ok t) (e : Int)) := by
  have hall : t.all ok = true ↔ ∀ x ∈ t, dOk b x := by rw [List.all_eq_true]; exact ⟨fun h x hx => (hok x).1 (h x hx), fun h x hx => (hok x).2 (h x hx)⟩
  have hneg : rnum b most t = -1 → (chr b most ok t).2 = false → Ev (fun k => incipitref04_Read.j2 k (e : Int) (rnum b most t)) (resE (chr b most ok t) (e : Int)) := by
    intro h1 h2
    rw [h1]
    unfold resE
    rw [h2, if_neg (by decide)]
    refine Ev.step (f := fun _ => some (⟨#[]⟩, 0)) (fun k => ?_) (Ev.now _)
    simp only [incipitref04_Read.j2]
    rw [if_pos (by decide)]
  by_cases h1 : t = [] ∨ most < t.length
  · refine hneg (by unfold rnum; rw [if_pos h1]) ?_
    unfold chr
    rw [if_pos (by rcases h1 with h | h; exact .inl h; exact .inr (.inl h))]
  · by_cases h2 : ∀ x ∈ t, dOk b x
    · have hlt := num_lt b hb t.length t rfl h2
      have hlen : t.length ≤ 7 := by rw [not_or] at h1; omega
      have h16 : 16 ^ t.length ≤ 268435456 := Nat.le_trans (Nat.pow_le_pow_right (by omega) hlen) (by decide)
      have hr : rnum b most t = (num b t : Int) := by unfold rnum; rw [if_neg h1, if_pos h2]
      have hc : chr b most ok t = (Go.Utf8.encode (fixr (num b t)), true) := by
        unfold chr
        rw [if_neg]
        rintro (h | h | h)
        · exact h1 (.inl h)
        · exact h1 (.inr h)
        · rw [hall.2 h2] at h; cases h
      rw [hr, hc]
      unfold resE
      rw [if_pos rfl]
      generalize num b t = n at hlt
      clear hr hc hneg h1 h2
      have hn : n ≤ 268435456 := by omega
      clear hlt h16
      refine Ev.step (f := fun _ => some (Go.Utf8.encode (fixr n), (e : Int) + 1)) (fun k => ?_) (Ev.now _)
      simp only [incipitref04_Read.j2]
      rw [if_neg (by omega), w64 (x := (e : Int) + 1) (by omega) (by omega)]
      unfold fixr Lib.validRune
      by_cases c0 : n = 0
      · rw [if_pos (by omega), if_pos (.inl c0)]
      · rw [if_neg (by omega)]
        have hw : wrap32 (n : Int) = if n ≤ 1114111 then (n : Int) else wrap32 (n : Int) := by
          split
          · unfold wrap32; omega
          · rfl
        by_cases c1 : (n : Int) ≥ 55296
        · rw [if_pos c1]
          by_cases c2 : (n : Int) ≤ 57343
          · rw [if_pos c2, if_pos (.inr (by rw [decide_eq_false_iff_not]; omega))]
          · rw [if_neg c2]
            by_cases c3 : (n : Int) > 1114111
            · rw [if_pos c3, if_pos (.inr (by rw [decide_eq_false_iff_not]; omega))]
            · rw [if_neg c3, if_neg (by rw [not_or]; refine ⟨c0, ?_⟩; rw [decide_eq_false_iff_not, Classical.not_not]; omega), hw, if_pos (by omega)]
        · rw [if_neg c1, if_neg (show ¬ (n : Int) > 1114111 by omega), if_neg (by rw [not_or]; refine ⟨c0, ?_⟩; rw [decide_eq_false_iff_not, Classical.not_not]; omega), hw, if_pos (by omega)]
    · refine hneg (by unfold rnum; rw [if_neg h1, if_neg h2]) ?_
      unfold chr
      rw [if_pos (.inr (.inr (by cases ha : t.all ok with | true => exact absurd (hall.1 ha) h2 | false => rfl)))]
theorem dg_ok (x : UInt8) : dg x = true ↔ dOk 10 x := by unfold dg dOk; rw [decide_eq_true_iff]; omega
theorem hxd_ok (x : UInt8) : hxd x = true ↔ dOk 16 x := by unfold hxd; rw [decide_eq_true_iff]
theorem j1_hex (y : UInt8) (t : List UInt8) (hs : t.length ≤ 1073741820) : Ev (fun k => incipitref04_Read.j1 k (B (38 :: 35 :: y :: t)) (((upto t).length + 3 : Nat) : Int) true) (resE (chr 16 6 hxd (upto t)) (((upto t).length + 3 : Nat) : Int)) := by
  have hl := upto_len t
  refine Ev.step (f := fun k => (incipitref04_number.f k (B (upto t)) 16 6).bind fun t123 => (incipitref04_Read.j2 k (((upto t).length + 3 : Nat) : Int) t123)) (fun k => ?_) (Ev.bind (rnum_ev 16 6 (.inr rfl) (by decide) (upto t) (by omega)) (j2_ev ((upto t).length + 3) (by omega) 16 6 (.inr rfl) (by decide) hxd hxd_ok _))
  simp only [incipitref04_Read.j1]
  rw [if_pos trivial, if_pos (by omega), if_pos (by rw [B_size]; simp only [List.length_cons]; omega), B_extract, Int.toNat_natCast, Nat.add_sub_cancel]
  show (incipitref04_number.f k (B (t.take (upto t).length)) 16 6).bind _ = _
  rw [upto_take]
theorem j1_dec (t : List UInt8) (hs : t.length ≤ 1073741820) : Ev (fun k => incipitref04_Read.j1 k (B (38 :: 35 :: t)) (((upto t).length + 2 : Nat) : Int) false) (resE (chr 10 7 dg (upto t)) (((upto t).length + 2 : Nat) : Int)) := by
  have hl := upto_len t
  refine Ev.step (f := fun k => (incipitref04_number.f k (B (upto t)) 10 7).bind fun t124 => (incipitref04_Read.j2 k (((upto t).length + 2 : Nat) : Int) t124)) (fun k => ?_) (Ev.bind (rnum_ev 10 7 (.inl rfl) (by decide) (upto t) (by omega)) (j2_ev ((upto t).length + 2) (by omega) 10 7 (.inl rfl) (by decide) dg dg_ok _))
  simp only [incipitref04_Read.j1]
  rw [if_neg (by simp), if_pos (by omega), if_pos (by rw [B_size]; simp only [List.length_cons]; omega), B_extract, Int.toNat_natCast, Nat.add_sub_cancel]
  show (incipitref04_number.f k (B (t.take (upto t).length)) 10 7).bind _ = _
  rw [upto_take]
theorem or_x : ∀ y : UInt8, (y.toNat ||| 32) = 120 ↔ y = 120 ∨ y = 88 := by
  have h : ∀ y : Fin 256, (y.val ||| 32) = 120 ↔ y.val = 120 ∨ y.val = 88 := by decide +kernel
  intro y
  rw [h ⟨y.toNat, y.toNat_lt⟩]
  constructor
  · rintro (e | e)
    · exact .inl (UInt8.toNat_inj.1 e)
    · exact .inr (UInt8.toNat_inj.1 e)
  · rintro (rfl | rfl)
    · exact .inl rfl
    · exact .inr rfl
theorem nmd_nil : nmd [] = (⟨#[]⟩, false) := nmd_miss [] (fun k hk e => by have := (enm_facts k hk).1; rw [e] at this; simp at this)
/-- Behind &: the reference's answer where something stands ahead of the ;. -/
theorem j0_ev (x1 : UInt8) (t1 : List UInt8) (h59 : x1 ≠ 59) (hm : (59 : UInt8) ∈ t1) (hs : t1.length ≤ 1073741818) :
    Ev (fun k => incipitref04_Read.j0 k (B (38 :: x1 :: t1)) (((upto t1).length + 2 : Nat) : Int) false) (resE (bdy (x1 :: upto t1)) (((upto t1).length + 2 : Nat) : Int)) := by
  have hl := upto_len t1
  have h35 : ((x1.toNat : Int) = 35) ↔ x1 = 35 := u8_eq _ 35 (by omega)
  have hb1 : bt (B (38 :: x1 :: t1)) 1 = (x1.toNat : Int) := B_bt (38 :: x1 :: t1) 1 (by simp)
  have hz : (1 : Int) < ((B (38 :: x1 :: t1)).size : Int) := by rw [B_size]; simp only [List.length_cons]; omega
  have hz2 : (((upto t1).length + 2 : Nat) : Int) ≤ ((B (38 :: x1 :: t1)).size : Int) := by rw [B_size]; simp only [List.length_cons]; omega
  by_cases hx : x1 = 35
  · subst hx
    cases t1 with
    | nil => cases hm
    | cons y t2 =>
      by_cases hy59 : y = 59
      · have hu : upto (y :: t2) = [] := by rw [upto, if_pos hy59]
        have hj := j1_dec (y :: t2) (by omega)
        rw [hu] at hj ⊢
        rw [bdy_35]
        refine Ev.step (fun k => ?_) hj
        simp only [incipitref04_Read.j0]
        rw [if_neg (by simp), if_pos hz, hb1, if_pos (h35.2 rfl), if_neg (by decide)]
      · have hu : upto (y :: t2) = y :: upto t2 := by rw [upto, if_neg hy59]
        have hb2 : bt (B (38 :: 35 :: y :: t2)) 2 = (y.toNat : Int) := B_bt (38 :: 35 :: y :: t2) 2 (by simp)
        have h120 : ((y.toNat : Int) = 120) ↔ y = 120 := u8_eq _ 120 (by omega)
        have h88 : ((y.toNat : Int) = 88) ↔ y = 88 := u8_eq _ 88 (by omega)
        have hz3 : (2 : Int) < ((B (38 :: 35 :: y :: t2)).size : Int) := by rw [B_size]; simp only [List.length_cons]; omega
        have hl2 := upto_len t2
        rw [List.length_cons] at hs
        by_cases hxx : (y.toNat ||| 32) = 120
        · have hj := j1_hex y t2 (by omega)
          rw [hu, bdy_two, if_pos hxx, List.length_cons]
          refine Ev.step (fun k => ?_) hj
          simp only [incipitref04_Read.j0]
          rw [if_neg (by simp), if_pos hz, hb1, if_pos (h35.2 rfl), if_pos (by omega), if_pos hz3, hb2]
          rcases (or_x y).1 hxx with rfl | rfl
          · rw [if_pos (by decide)]
          · rw [if_neg (by decide)]
            rfl
        · have hj := j1_dec (y :: t2) (by rw [List.length_cons]; omega)
          rw [hu] at hj ⊢
          rw [bdy_two, if_neg hxx]
          refine Ev.step (fun k => ?_) hj
          have hn := fun e => hxx ((or_x y).2 e)
          simp only [incipitref04_Read.j0]
          rw [if_neg (by simp), if_pos hz, hb1, if_pos (h35.2 rfl), if_pos (by rw [List.length_cons]; omega), if_pos hz3, hb2, if_neg (fun e => hn (.inl (h120.1 e))), show ((y.toNat : Int) == 88) = false from beq_eq_false_iff_ne.2 (fun e => hn (.inr (h88.1 e)))]
  · rw [bdy_no x1 _ hx]
    have hr := rnamed_ev (x1 :: upto t1)
    refine Ev.step (f := fun k => (incipitref04_Named.f k (B (x1 :: upto t1))).bind fun bt121 => (if bt121.2 = true then (some (bt121.1, wrap64 ((((upto t1).length + 2 : Nat) : Int) + 1))) else (some ((⟨#[]⟩ : ByteArray), 0)))) (fun k => ?_) (Ev.bind hr ?_)
    · simp only [incipitref04_Read.j0]
      rw [if_neg (by simp), if_pos hz, hb1, if_neg (fun e => hx (h35.1 e)), if_pos (by omega), if_pos hz2, B_extract, Int.toNat_natCast]
      show (incipitref04_Named.f k (B (List.take ((upto t1).length + 1) (x1 :: t1)))).bind _ = _
      rw [List.take_succ_cons, upto_take]
    · unfold resE
      rw [w64 (by omega) (by omega)]
      by_cases hc : (nmd (x1 :: upto t1)).2 = true
      · rw [if_pos hc]
        exact Ev.congr (fun k => by rw [if_pos hc]) (Ev.now _)
      · rw [if_neg hc]
        exact Ev.congr (fun k => by rw [if_neg hc]) (Ev.now _)
theorem rread_ev (s : List UInt8) (hs : s.length ≤ 1048576) : Ev (fun k => incipitref04_Read.f k (B s)) (rdE s) := by
  unfold incipitref04_Read.f
  refine Ev.bind (end_ev s (by omega)) ?_
  have hno : ∀ e : Int, e < 2 → rdE s = (⟨#[]⟩, 0) → Ev (fun k => if e < 2 then (incipitref04_Read.j0 k (B s) e true) else (if 0 < ((B s).size : Int) then (incipitref04_Read.j0 k (B s) e ((bt (B s) 0) != 38)) else (none))) (rdE s) := by
    intro e he hr
    rw [hr]
    exact Ev.congr (fun k => by rw [if_pos he]) (rd_no (B s) e)
  cases s with
  | nil => exact hno _ (by decide) rfl
  | cons x t =>
    rw [List.length_cons] at hs
    have hl := upto_len t
    by_cases hx59 : x = 59
    · subst hx59
      rw [if_pos (by simp), upto, if_pos rfl]
      exact hno _ (by decide) rfl
    · have hm : (59 : UInt8) ∈ x :: t ↔ (59 : UInt8) ∈ t := by rw [List.mem_cons]; exact ⟨fun h' => h'.resolve_left (fun e => hx59 e.symm), .inr⟩
      by_cases h : (59 : UInt8) ∈ t
      · rw [if_pos (hm.2 h), upto, if_neg hx59, List.length_cons]
        cases t with
        | nil => cases h
        | cons x1 t1 =>
          by_cases hx1 : x1 = 59
          · have hu : upto (x1 :: t1) = [] := by rw [upto, if_pos hx1]
            refine hno _ (by rw [hu]; decide) ?_
            rw [rdE, hu]
            have hb : bdy [] = (⟨#[]⟩, false) := nmd_nil
            rw [hb, if_neg (show ¬ (false = true) by decide)]
            split
            · first | rfl | (split <;> rfl)
            · rfl
          · have hu : upto (x1 :: t1) = x1 :: upto t1 := by rw [upto, if_neg hx1]
            have hm1 : (59 : UInt8) ∈ t1 := by rcases List.mem_cons.1 h with e | e; exact absurd e.symm hx1; exact e
            have hb0 : bt (B (x :: x1 :: t1)) 0 = (x.toNat : Int) := B_bt (x :: x1 :: t1) 0 (by simp)
            have h38 : ((x.toNat : Int) = 38) ↔ x = 38 := u8_eq _ 38 (by omega)
            rw [hu, List.length_cons]
            by_cases hx : x = 38
            · subst hx
              have hj := j0_ev x1 t1 hx1 hm1 (by rw [List.length_cons] at hs; omega)
              rw [rdE, if_pos rfl, if_pos h, hu]
              have he : (if (bdy (x1 :: upto t1)).2 = true then ((bdy (x1 :: upto t1)).1, ((x1 :: upto t1).length : Int) + 2) else ((⟨#[]⟩ : ByteArray), (0 : Int))) = resE (bdy (x1 :: upto t1)) (((upto t1).length + 2 : Nat) : Int) := by
                unfold resE
                split
                · rw [List.length_cons]
                  congr 1
                  try omega
                · rfl
              rw [he]
              refine Ev.congr (fun k => ?_) hj
              rw [if_neg (by omega), if_pos (by rw [B_size]; simp only [List.length_cons]; omega), hb0]
              rfl
            · rw [show rdE (x :: x1 :: t1) = (⟨#[]⟩, 0) from by rw [rdE, if_neg hx]]
              refine Ev.congr (fun k => ?_) (rd_no (B (x :: x1 :: t1)) (((upto t1).length + 1 + 1 : Nat) : Int))
              rw [if_neg (by omega), if_pos (by rw [B_size]; simp only [List.length_cons]; omega), hb0, show ((x.toNat : Int) != 38) = true from bne_iff_ne.2 (fun e => hx (h38.1 e))]
      · rw [if_neg (fun e => h (hm.1 e))]
        refine hno _ (by decide) ?_
        rw [rdE, if_neg h]
        split <;> rfl
end Go.Proofs.YtinpchebcnkckaaGreatDoor.Pure
namespace Go.Proofs.YtinpchebcnkckaaGreatDoor.Pure
open Go.RowKit Go.Proofs.YtinpchebcnkckaaGreatDoorW.PrintWords Go.Proofs.YtinpchebcnkckaaGreatDoorW.PrintMore Go.Proofs.YtinpchebcnkckaaGreatDoor.Pl Go.Proofs.YtinpchebcnkckaaGreatDoor.PA

theorem rsign_eq (x : UInt8) : incipitref05_Sign.f (x.toNat : Int) = some (sgn x) := by
  have h : ∀ y : Fin 256, incipitref05_Sign.f (((UInt8.ofNat y.val).toNat : Nat) : Int) = some (sgn (UInt8.ofNat y.val)) := by decide +kernel
  have := h ⟨x.toNat, x.toNat_lt⟩
  simpa using this
theorem rhtml_l (s : List UInt8) (hs : s.length ≤ 2000) : ∀ (d i : Nat), i + d = s.length → Ev (fun k => incipitref05_Html.l0 k (B s) (B (htm (s.take i))) (i : Int)) (B (htm s)) := by
  intro d
  induction d with
  | zero =>
    intro i hi
    rw [List.take_of_length_le (by omega)]
    refine Ev.step (f := fun _ => some (B (htm s))) (fun k => ?_) (Ev.now _)
    simp only [incipitref05_Html.l0]
    rw [if_neg (by rw [B_size]; omega)]
  | succ d ih =>
    intro i hi
    have hil : i < s.length := by omega
    have hl := (htm_len (s.take i)).2
    rw [List.length_take] at hl
    have htk := htm_take s i hil
    have e38 : ((s[i].toNat : Int) = 38) ↔ s[i] = 38 := u8_eq _ 38 (by decide)
    have e60 : ((s[i].toNat : Int) = 60) ↔ s[i] = 60 := u8_eq _ 60 (by decide)
    have e62 : ((s[i].toNat : Int) = 62) ↔ s[i] = 62 := u8_eq _ 62 (by decide)
    have e34 : ((s[i].toNat : Int) = 34) ↔ s[i] = 34 := u8_eq _ 34 (by decide)
    have hw : wrap64 ((i : Int) + 1) = ((i + 1 : Nat) : Int) := by rw [w64 (by omega) (by omega)]; rfl
    have hsz : (B (htm (s.take i))).size = (htm (s.take i)).length := B_size _
    have hex : (B s).extract ((i : Int)).toNat (((i + 1 : Nat) : Int)).toNat = B [s[i]] := by
      rw [Int.toNat_natCast, Int.toNat_natCast, B_extract]
      congr 1
      rw [show i + 1 - i = 1 by omega, List.drop_eq_getElem_cons hil]
      rfl
    refine Ev.step (fun k => ?_) (ih (i + 1) (by omega))
    simp only [incipitref05_Html.l0]
    rw [if_pos (by rw [B_size]; omega), if_pos (by omega), B_bt s i hil, hw, htk]
    unfold esc
    by_cases h1 : s[i] = 38
    · rw [if_pos (e38.2 h1), if_pos (by omega), if_pos h1, ← B_append]
      rfl
    · rw [if_neg (fun e => h1 (e38.1 e)), if_neg h1]
      by_cases h2 : s[i] = 60
      · rw [if_pos (e60.2 h2), if_pos (by omega), if_pos h2, ← B_append]
        rfl
      · rw [if_neg (fun e => h2 (e60.1 e)), if_neg h2]
        by_cases h3 : s[i] = 62
        · rw [if_pos (e62.2 h3), if_pos (by omega), if_pos h3, ← B_append]
          rfl
        · rw [if_neg (fun e => h3 (e62.1 e)), if_neg h3]
          by_cases h4 : s[i] = 34
          · rw [if_pos (e34.2 h4), if_pos (by omega), if_pos h4, ← B_append]
            rfl
          · rw [if_neg (fun e => h4 (e34.1 e)), if_neg h4, if_pos (by omega), if_pos (by rw [B_size]; omega), hex, if_pos (by rw [hsz, B_size]; simp; omega), B_append]
theorem runesc_l : ∀ (n : Nat) (l acc : List UInt8), l.length ≤ n → acc.length + 4 * l.length ≤ 100000 → Ev (fun k => incipitref05_Unescape.l0 k (B l) (B acc)) (B (acc ++ une l)) := by
  intro n
  induction n with
  | zero =>
    intro l acc hl _
    obtain rfl : l = [] := List.length_eq_zero_iff.1 (by omega)
    refine Ev.step (f := fun _ => some (B (acc ++ une []))) (fun k => ?_) (Ev.now _)
    simp only [incipitref05_Unescape.l0]
    rw [if_neg (by rw [B_size]; simp), une_nil, List.append_nil]
  | succ n ih =>
    intro l acc hl hb
    cases l with
    | nil =>
      refine Ev.step (f := fun _ => some (B (acc ++ une []))) (fun k => ?_) (Ev.now _)
      simp only [incipitref05_Unescape.l0]
      rw [if_neg (by rw [B_size]; simp), une_nil, List.append_nil]
    | cons x t =>
      rw [List.length_cons] at hl hb
      have hsz : (B (x :: t)).size = t.length + 1 := B_size _
      have hasz : (B acc).size = acc.length := B_size _
      have b0 : bt (B (x :: t)) 0 = (x.toNat : Int) := B_bt (x :: t) 0 (by simp)
      have e92 : ((x.toNat : Int) = 92) ↔ x = 92 := u8_eq _ 92 (by decide)
      have go : ¬ (x = 92 ∧ ∃ y ∈ t.head?, sgn y = true) → Ev (fun k => incipitref05_Unescape.j1 k (B (x :: t)) (B acc) false) (B (acc ++ une (x :: t))) := by
        intro hneg
        have hu := une_cons x t
        have hst := stp_cons x t
        rw [if_neg hneg] at hst
        have hl4 := stp_len (x :: t)
        have hp1 := stp_pos (x :: t)
        have hle := stp_le x t
        rw [List.length_cons] at hle
        refine Ev.step (f := fun k => (incipitref04_Read.f k (B (x :: t))).bind _) (fun k => by simp only [incipitref05_Unescape.j1]; rw [if_neg (by simp)]) (Ev.bind (rread_ev (x :: t) (by rw [List.length_cons]; omega)) ?_)
        by_cases hk : 0 < (rdE (x :: t)).2
        · rw [if_pos hk] at hst
          obtain ⟨kn, hkn⟩ := Int.eq_ofNat_of_zero_le (show 0 ≤ (rdE (x :: t)).2 by omega)
          obtain ⟨Q, hQ⟩ : ∃ Q, (rdE (x :: t)).1 = Q := ⟨_, rfl⟩
          rw [hkn, hQ, Int.toNat_natCast] at hst
          rw [hst] at hu hl4 hp1 hle
          simp only at hu hl4 hp1 hle
          have hQs : Q.data.toList.length = Q.size := Array.length_toList
          have h3 := ih ((x :: t).drop kn) (acc ++ Q.data.toList) (by rw [List.length_drop, List.length_cons]; omega) (by rw [List.length_append, List.length_drop, List.length_cons]; omega)
          rw [hu, ← List.append_assoc]
          refine Ev.congr (fun k => ?_) h3
          rw [hkn, hQ, if_pos (by omega), if_pos (by omega), if_pos (by omega), if_pos (by rw [hsz]; omega), Int.toNat_natCast, B_from (x :: t) kn _ (B_size _)]
          rw [show B acc ++ Q = B (acc ++ Q.data.toList) by rw [← B_append, B_eta]]
        · rw [if_neg hk] at hst
          rw [hst] at hu
          simp only at hu
          have h3 := ih t (acc ++ [x]) (by omega) (by rw [List.length_append]; simp; omega)
          rw [hu, ← List.append_assoc]
          refine Ev.congr (fun k => ?_) h3
          rw [if_neg (by omega), if_pos (by omega), if_pos (by rw [hsz]; omega), B_to, B_from (x :: t) 1 _ (B_size _)]
          have e1 : (x :: t).take 1 = [x] := rfl
          have e2 : (x :: t).drop 1 = t := rfl
          rw [e1, e2, if_pos (by rw [hasz, B_size]; simp; omega), B_append]
      by_cases h92 : x = 92
      · cases t with
        | nil =>
          refine Ev.step (fun k => ?_) (go (fun e => by obtain ⟨_, y, hy, _⟩ := e; cases hy))
          simp only [incipitref05_Unescape.l0]
          rw [if_pos (by rw [hsz]; simp), if_pos (by rw [hsz]; simp), b0, if_pos (e92.2 h92), if_neg (by rw [hsz]; simp)]
        | cons y u =>
          rw [List.length_cons] at hl hb hsz
          have b1 : bt (B (x :: y :: u)) 1 = (y.toNat : Int) := B_bt (x :: y :: u) 1 (by simp)
          have hstart : ∀ k, incipitref05_Unescape.l0 (k + 1) (B (x :: y :: u)) (B acc) = incipitref05_Unescape.j1 k (B (x :: y :: u)) (B acc) (sgn y) := by
            intro k
            simp only [incipitref05_Unescape.l0]
            rw [if_pos (by rw [hsz]; omega), if_pos (by rw [hsz]; omega), b0, if_pos (e92.2 h92), if_pos (by rw [hsz]; omega), if_pos (by rw [hsz]; omega), b1, rsign_eq, Option.bind_some]
          cases hsg : sgn y with
          | true =>
            have h3 := ih u (acc ++ [y]) (by omega) (by rw [List.length_append]; simp; omega)
            rw [h92, une_sgn y u hsg]
            refine Ev.step (f := fun k => incipitref05_Unescape.j1 k (B (92 :: y :: u)) (B acc) true) (fun k => by have := hstart k; rw [hsg, h92] at this; exact this) (Ev.step (fun k => ?_) (by rw [show acc ++ y :: une u = (acc ++ [y]) ++ une u by simp]; exact h3))
            simp only [incipitref05_Unescape.j1]
            rw [if_pos trivial, if_pos (by omega), if_pos (by rw [B_size]; simp; omega), B_extract, B_from (92 :: y :: u) 2 _ (B_size _)]
            have e1 : List.take (2 - 1) (List.drop 1 ((92 : UInt8) :: y :: u)) = [y] := rfl
            have e2 : List.drop 2 ((92 : UInt8) :: y :: u) = u := rfl
            rw [e1, e2, if_pos (by rw [hasz, B_size]; simp; omega), B_append]
          | false =>
            refine Ev.step (fun k => ?_) (go (fun e => by obtain ⟨_, z, hz, hs⟩ := e; obtain rfl := Option.some.inj hz; rw [hsg] at hs; cases hs))
            rw [hstart k, hsg]
      · refine Ev.step (fun k => ?_) (go (fun e => h92 e.1))
        simp only [incipitref05_Unescape.l0]
        rw [if_pos (by rw [hsz]; omega), if_pos (by rw [hsz]; omega), b0, if_neg (fun e => h92 (e92.1 e))]
theorem EscapeIs : ∀ (a0 : ByteArray) (a1 : Int), a0.size ≤ 140737488351232 → (Lit.int .u8 a1).wf = true → ∃ k, PA.incipitlaw05_EscapeIs.f k a0 a1 = some true := by
  intro a0 a1 _ hw
  apply Ev.rounds
  obtain ⟨s, rfl⟩ : ∃ s, a0 = B s := ⟨_, (B_eta a0).symm⟩
  obtain ⟨x, rfl⟩ : ∃ x : UInt8, a1 = (x.toNat : Int) := by
    simp only [Lit.wf, Bool.and_eq_true, decide_eq_true_eq] at hw
    have h1 : IntKind.u8.min = 0 := rfl
    have h2 : IntKind.u8.max = 255 := rfl
    rw [h1, h2] at hw
    obtain ⟨n, rfl⟩ := Int.eq_ofNat_of_zero_le hw.1
    exact ⟨UInt8.ofNat n, by rw [UInt8.toNat_ofNat']; omega⟩
  unfold PA.incipitlaw05_EscapeIs.f
  rw [awake_eq]
  simp only [Option.bind_some]
  by_cases h : ((B s).size : Int) > 2000
  · exact Ev.congr (fun k => by rw [if_pos h]) (Ev.now _)
  · rw [B_size] at h
    have r1 : Ev (fun k => incipitref05_Html.f k (B s)) (B (htm s)) := rhtml_l s (by omega) s.length 0 (Nat.zero_add _)
    have r2 : ∀ k, incipitref05_Href.f k (B s) = some (B (hrf s)) := fun k => by unfold incipitref05_Href.f; rw [if_pos (by rw [B_size]; omega), B_data]
    have r3 : Ev (fun k => incipitref05_Unescape.f k (B s)) (B (une s)) := runesc_l s.length s [] (Nat.le_refl _) (by simp; omega)
    refine Ev.congr (f := fun k => (incipitref05_Html.f k (B s)).bind _) (fun k => by rw [if_neg (by rw [B_size]; exact h), if_pos trivial, html_eq s (by omega), Option.bind_some]) (Ev.bind r1 ?_)
    refine Ev.congr (f := fun k => (incipitref05_Unescape.f k (B s)).bind _) (fun k => by rw [if_pos rfl, href_eq s (by omega), Option.bind_some, r2 k, Option.bind_some, if_pos rfl, unesc_eq s (by omega), Option.bind_some]) (Ev.bind r3 ?_)
    exact Ev.congr (fun k => by rw [if_pos rfl, sign_eq, Option.bind_some, rsign_eq, Option.bind_some, beq_self_eq_true]) (Ev.now _)
end Go.Proofs.YtinpchebcnkckaaGreatDoor.Pure
namespace Go.Proofs.YtinpchebcnkckaaGreatDoor.escapeIs
open Go.ChangeShapes Go.WideShapes Go.ChangeAt Go.RowKit Go.Proofs.YtinpchebcnkckaaGreatDoorW.PrintWords Go.Proofs.YtinpchebcnkckaaGreatDoor.RowU8
open Go.ChangeMaps (open_string shut_string)
set_option linter.unusedVariables false
set_option maxRecDepth 100000 in
theorem contract (H : Type) (enc : TypeId × Value → H) (W : World) (base : Nat) (args : Array Value) (ds gs : List (DataW H)) (before : List MemPlace)
    (hval0 : ∀ (j : Nat) t v, Tryz.f3.params[j]? = some t → args[j]? = some v → Value.okWide Tryz.prog W .any base t v)
    (hW : DataW.Whole enc Tryz.prog Tryz.f3.params.toList Rows.escapeIsSpec.vars false W args.toList ds gs before) (hsz0 : (DataW.weightsEach Tryz.prog (Tryz.f3.params.toList ++ (OpenSpec.ofChange Rows.escapeIsSpec).bare.plain.varTypes Tryz.prog) (ds ++ gs)).all (· ≤ reachBytes) = true) (hSh : W.ShapedOpen Tryz.prog) :
    Calls Tryz.prog 3 args W fun e W' => ∃ v, e = .returned v ∧ Rows.escapeIsSpec.post enc Tryz.prog Tryz.f3 false true false false W args v W' := by
  have hsz : (DataW.weightsEach Tryz.prog (Tryz.f3.params.toList ++ Rows.escapeIsSpec.plain.varTypes Tryz.prog) (ds ++ gs)).all (· ≤ reachBytes) = true := hsz0
  have hval : ∀ (j : Nat) t v, Tryz.f3.params[j]? = some t → args[j]? = some v → Value.okWide Tryz.prog W .any base t v := hval0
  have hW' := hW
  obtain ⟨p, q, hA0, hV, rfl, hfz, hnd⟩ := hW
  have hA : DataW.TrodAll enc Tryz.prog W 0 (fun _ => true) true Tryz.f3.params.toList args.toList ds p := hA0
  rw [Tryz.params3] at hA hval hsz
  obtain ⟨v0, vs0, d0, ds0, p0, q0, hargs, rfl, rfl, h0, r0⟩ := trodAll_cons hA
  obtain ⟨v1, vs1, d1, ds1, p1, q1, rfl, rfl, rfl, h1, r1⟩ := trodAll_cons r0
  obtain ⟨rfl, rfl, rfl⟩ := trodAll_nil r1
  obtain rfl : args = #[v0, v1] := by cases args; simp_all
  obtain ⟨rfl, rfl⟩ := trodVars_none hV
  obtain ⟨a0, rfl, rfl, rfl, y0⟩ := open_string Tryz.underlying9 (hval 0 9 v0 rfl rfl) h0
  have w0 : a0.size ≤ 140737488351232 := by
    have z := sized_string hsz (j := 0) (t := 9) rfl rfl
    rw [Array.length_toList] at z
    exact z
  obtain ⟨a1, rfl, rfl, rfl, w1⟩ := open_int Tryz.underlying5 (hval 1 5 v1 rfl rfl) h1
  clear hA0 hval0 hsz0 hsz
  obtain ⟨k, hp⟩ := Pure.EscapeIs a0 a1 w0 w1
  refine (PA.incipitlaw05_EscapeIs.calls k a0 a1 true W (laidOf hSh) hp).mono ?_
  rintro e W' ⟨rfl, bel⟩
  exact ⟨_, rfl, _, _, _, [], _, [], hW', trodAll_mk1 (shut_bool Tryz.underlying4 _), (trodAll_cons_mk (shut_string Tryz.underlying9 y0) (trodAll_cons_mk (shut_int Tryz.underlying5 w1) trodAll_mk0)), rfl, bel.frame _, fun h => by cases h⟩
theorem laid_met (os : Os) : laidMet Tryz.prog Rows.escapeIsRow.laid ((laidWorld os).forCall (fun _ _ => 0) ⟨#[], #[.string ByteArray.empty, .int .u8 0], []⟩).memory :=
  laidMet_of_run' 8 (by kernel_rfl) (by kernel_rfl)
theorem reads (os : Os) {H : Type} (enc : TypeId × Value → H) : ∃ places, DataW.whole enc Tryz.prog ((laidWorld os).forCall (fun _ _ => 0) ⟨#[], #[.string ByteArray.empty, .int .u8 0], []⟩).memory Tryz.f3.params.toList Rows.escapeIsSpec.vars false (#[.string ByteArray.empty, .int .u8 0] : Array Value).toList 8 = some ([.lit (.string []), .lit (.int .u8 0)], [], places) :=
  ⟨[], by kernel_rfl⟩
set_option maxRecDepth 100000 in
theorem lifted (os : Os) (started : os.Started) (H : Type) (enc : TypeId × Value → H) (F : Stop.Interp) :
    ReturnsInHanded {} Tryz.checked os 3 .any ((OpenSpec.ofChange Rows.escapeIsSpec).preRow enc Tryz.prog Tryz.f3 Rows.escapeIsRow.domain false Rows.escapeIsRow.laid) (((OpenSpec.ofChange Rows.escapeIsSpec).at F).post enc Tryz.prog Tryz.f3 false true false false) := by
  obtain ⟨places, hx⟩ := reads os enc
  refine returnsInHanded_of_row (C := Tryz.checked) (s := OpenSpec.ofChange Rows.escapeIsSpec) own started (by kernel_rfl) Tryz.func3
    (witness_row_atRef (enc := enc) (C := Tryz.checked) false (laidWorld os) #[.string ByteArray.empty, .int .u8 0] (laidWorld_os os) (by kernel_rfl) (by kernel_rfl) (by kernel_rfl)
      (OpenSpec.preRow_of_cond 8 hx (by kernel_rfl) (fun k hk => by cases hk) (by kernel_rfl) (laid_met os))) ?_
  intro W base args ds gs before hval hW _ _ hsz hL hSh _
  exact contract H enc W base args ds gs before hval hW hsz hSh
theorem said : Rows.EscapeIsSaid :=
  OpenClaim.holds_of_cond 3 Tryz.f3 rfl rfl rfl rfl rfl rfl rfl ⟨rfl, rfl, rfl, rfl, rfl⟩ rfl rfl rfl rfl rfl (by kernel_rfl) Tryz.func3 (by kernel_rfl)
    (of_decide_eq_true (by kernel_rfl)) (by unfold Func.isWrapper; first | (rw [if_pos (by decide +kernel)]; kernel_rfl) | (rw [if_neg (by decide +kernel)]; exact ⟨rfl, rfl⟩))
    (fun os started H enc _ F => by rw [OpenClaim.pre_eq_preRow]; exact lifted os started H enc F)
theorem plain (f : FuncId) (fn : Func) (hf : Tryz.pinned.checked.prog.funcNamed "incipit/incipitlaw05.EscapeIs" = some f) (hfn : Tryz.pinned.checked.prog.funcs[f]? = some fn) :
    true = Tryz.pinned.checked.prog.looks [] ∧ ∀ (j : Nat) t, fn.params[j]? = some t → Tryz.pinned.checked.prog.wantsStandIn t = false := by
  obtain rfl : f = 3 := Option.some.inj ((show Tryz.prog.funcNamed "incipit/incipitlaw05.EscapeIs" = some 3 by kernel_rfl).symm.trans hf) |>.symm
  obtain rfl : fn = Tryz.f3 := (Option.some.inj (Tryz.func3.symm.trans hfn)).symm
  refine ⟨by kernel_rfl, fun j t ht => ?_⟩
  rw [Tryz.params3] at ht
  have hall : ∀ t ∈ (#[9, 5] : Array Nat), Tryz.prog.wantsStandIn t = false := by
    intro t ht
    simp at ht
    rcases ht with rfl | rfl
    · exact (show Tryz.prog.wantsStandIn 9 = false by kernel_rfl)
    · exact (show Tryz.prog.wantsStandIn 5 = false by kernel_rfl)
  exact hall t (Array.mem_of_getElem? ht)
theorem card : Rows.EscapeIsCardSaid :=
  Claim7.holds_tied_plain_at .later [] _ _ _ _ said (fun _ h => by cases h) (by kernel_rfl) (fun _ h => by cases h) escapeIs_row_tie rfl ⟨rfl, rfl⟩ (by kernel_rfl) rfl plain (by kernel_rfl)
end Go.Proofs.YtinpchebcnkckaaGreatDoor.escapeIs
namespace Go.Proofs.YtinpchebcnkckaaGreatDoor
/-- The statement, under a short name, for the claim. -/
theorem escapeIs_holds : Rows.EscapeIsCardSaid := escapeIs.card
end Go.Proofs.YtinpchebcnkckaaGreatDoor
