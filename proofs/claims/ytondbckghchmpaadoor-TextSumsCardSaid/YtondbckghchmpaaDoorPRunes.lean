/-
  Facts on cleaning and on characters: a cleaned text is its own, its characters written again are it. No condition.
-/
import Derived.Test.YtondbckghchmpaaDoorPLines3
import Derived.Test.YtondbckghchmpaaDoorGRunes
import Derived.Lib.MapLaws
import Derived.Lib.QuoteLoop
import Derived.Lib.RuneCountTail
import Derived.Laws.Cover4
namespace Go.Proofs.YtondbckghchmpaaDoor.Pl
open Go.RowKit Go.Proofs.YtondbckghchmpaaDoorW.PrintWords Go.Proofs.YtondbckghchmpaaDoorW.PrintMore

theorem dec_L (l : List UInt8) (h : l ≠ []) : Lib.decodeL l = dec l := by rw [Lib.decodeL_N, dec_eq l h]
/-- One character's bytes, none of them 0. -/
structure Chunk (c : List UInt8) : Prop where
  ne : c ≠ []
  head : c.getD 0 0 ≠ 0
  good : ¬ (c.length = 1 ∧ 128 ≤ (c.getD 0 0).toNat)
  dec : ∀ m, (dec (c ++ m)).2 = c.length
theorem chunk_mark : Chunk [239, 191, 189] := ⟨by simp, by decide, by simp, fun m => by
  rw [dec_eq _ (by simp)]
  simp [Lib.decodeN]⟩
set_option maxHeartbeats 1000000 in
theorem chunk_take (l : List UInt8) (h : l ≠ []) (h0 : l.getD 0 0 ≠ 0) (hg : ¬ ((dec l).2 = 1 ∧ 128 ≤ (l.getD 0 0).toNat)) : Chunk (l.take (dec l).2) := by
  have hd := dec_len l h
  have e := dec_eq l h
  obtain ⟨x0, t0, rfl⟩ := List.exists_cons_of_ne_nil h
  rcases Lib.decodeN_shape (x0 :: t0).length ((x0 :: t0).getD 0 0).toNat ((x0 :: t0).getD 1 0).toNat ((x0 :: t0).getD 2 0).toNat ((x0 :: t0).getD 3 0).toNat with ⟨c, e1⟩ | ⟨c1, c2, c3, cv, e1⟩ | ⟨c1, c2, c3, c4, cv, cs, e1⟩ | ⟨c1, c2, c3, c4, c5, cv, cw, e1⟩ | e1
  · rw [e, e1]
    refine ⟨by simp, by simpa using h0, by simp at c ⊢; omega, fun m => ?_⟩
    rw [dec_eq _ (by simp)]
    simp at c
    simp [Lib.decodeN, c]
  · obtain ⟨x1, t1, rfl⟩ := List.exists_cons_of_ne_nil (l := t0) (by rintro rfl; simp at c2)
    rw [e, e1]
    simp at c1 c3 cv
    refine ⟨by simp, by simpa using h0, by simp, fun m => ?_⟩
    rw [dec_eq _ (by simp)]
    have k : ¬ x0.toNat < 128 := by omega
    simp [Lib.decodeN, c1, c3, cv, k]
  · obtain ⟨x1, t1, rfl⟩ := List.exists_cons_of_ne_nil (l := t0) (by rintro rfl; simp at c2)
    obtain ⟨x2, t2, rfl⟩ := List.exists_cons_of_ne_nil (l := t1) (by rintro rfl; simp at c2)
    rw [e, e1]
    simp at c1 c3 c4 cv cs
    refine ⟨by simp, by simpa using h0, by simp, fun m => ?_⟩
    rw [dec_eq _ (by simp)]
    have k : ¬ x0.toNat < 128 := by omega
    have k2 : ¬ x0.toNat / 32 = 6 := by omega
    have hb : x0.toNat % 16 * 4096 + x1.toNat % 64 * 64 + x2.toNat % 64 ≤ 1114111 := by omega
    simp [Lib.decodeN, c1, c3, c4, cv, k, k2, hb]
    rw [if_pos (by omega)]
  · obtain ⟨x1, t1, rfl⟩ := List.exists_cons_of_ne_nil (l := t0) (by rintro rfl; simp at c2)
    obtain ⟨x2, t2, rfl⟩ := List.exists_cons_of_ne_nil (l := t1) (by rintro rfl; simp at c2)
    obtain ⟨x3, t3, rfl⟩ := List.exists_cons_of_ne_nil (l := t2) (by rintro rfl; simp at c2)
    rw [e, e1]
    simp at c1 c3 c4 c5 cv cw
    refine ⟨by simp, by simpa using h0, by simp, fun m => ?_⟩
    rw [dec_eq _ (by simp)]
    have k : ¬ x0.toNat < 128 := by omega
    have k2 : ¬ x0.toNat / 32 = 6 := by omega
    have k3 : ¬ x0.toNat / 16 = 14 := by omega
    simp [Lib.decodeN, c1, c3, c4, c5, cv, cw, k, k2, k3]
    rw [if_pos (by omega)]
  · exfalso
    apply hg
    rw [e, e1]
    refine ⟨rfl, ?_⟩
    apply Classical.byContradiction
    intro hlt
    have : Lib.decodeN (x0 :: t0).length ((x0 :: t0).getD 0 0).toNat ((x0 :: t0).getD 1 0).toNat ((x0 :: t0).getD 2 0).toNat ((x0 :: t0).getD 3 0).toNat = (((x0 :: t0).getD 0 0).toNat, 1) := by
      rw [Lib.decodeN, if_pos (by omega)]
    rw [this] at e1
    have := (Prod.mk.inj e1).1
    omega
/-- What a cleaned text is. -/
theorem clean_step (l : List UInt8) (h : l ≠ []) : ∃ c l', Chunk c ∧ clean l = c ++ clean l' ∧ l'.length < l.length := by
  obtain ⟨x, t, rfl⟩ := List.exists_cons_of_ne_nil h
  by_cases hb : x = 0 ∨ ((dec (x :: t)).2 = 1 ∧ 128 ≤ x.toNat)
  · exact ⟨_, t, chunk_mark, clean_bad x t hb, by simp⟩
  · have hd := dec_len (x :: t) (by simp)
    exact ⟨_, _, chunk_take (x :: t) (by simp) (fun e => hb (.inl e)) (fun e => hb (.inr e)), clean_good x t hb, by rw [List.length_drop]; omega⟩
theorem clean_nil : clean [] = [] := rfl
theorem clean_chunk (c m : List UInt8) (hc : Chunk c) : clean (c ++ m) = c ++ clean m := by
  have hd := hc.dec m
  obtain ⟨x, t, rfl⟩ := List.exists_cons_of_ne_nil hc.ne
  have h0 := hc.head
  have hg := hc.good
  simp only [List.getD_cons_zero] at h0 hg
  rw [List.cons_append] at hd ⊢
  rw [clean_good x (t ++ m) (by rintro (e | e); exact h0 e; exact hg ⟨by rw [← hd]; exact e.1, e.2⟩), hd, ← List.cons_append, List.take_left' rfl, List.drop_left' rfl]
theorem clean_ind {P : List UInt8 → List UInt8 → Prop} (h0 : P [] []) (hs : ∀ (l l' c : List UInt8), l ≠ [] → l'.length < l.length → Chunk c → clean l = c ++ clean l' → P l' (clean l') → P l (c ++ clean l')) : ∀ l, P l (clean l) := by
  intro l
  suffices ∀ n (l : List UInt8), l.length ≤ n → P l (clean l) from this _ l (Nat.le_refl _)
  intro n
  induction n with
  | zero =>
    intro l hl
    have : l = [] := List.length_eq_zero_iff.1 (by omega)
    subst this
    exact h0
  | succ n ih =>
    intro l hl
    by_cases h : l = []
    · subst h; exact h0
    · obtain ⟨c, l', hc, e, hlt⟩ := clean_step l h
      rw [e]
      exact hs l l' c h hlt hc e (ih l' (by omega))
theorem clean_clean (l : List UInt8) : clean (clean l) = clean l :=
  clean_ind (P := fun _ x => clean x = x) rfl (fun _ _ c _ _ hc _ ih => by rw [clean_chunk c _ hc, ih]) l
theorem clean_two (l m : List UInt8) : clean (clean l ++ clean m) = clean l ++ clean m :=
  clean_ind (P := fun _ x => clean (x ++ clean m) = x ++ clean m) (by rw [List.nil_append, clean_clean]) (fun _ _ c _ _ hc _ ih => by rw [List.append_assoc, clean_chunk c _ hc, ih, ← List.append_assoc]) l
/-- Characters, on lists. -/
def rl : Nat → List UInt8 → List Int
  | 0, _ => []
  | _ + 1, [] => []
  | f + 1, x :: t => ((Lib.decodeL (x :: t)).1 : Int) :: rl f ((x :: t).drop (Lib.decodeL (x :: t)).2)
theorem rnsF_rl (l : List UInt8) : ∀ f i, PA.rnsF (B l) f i = rl f (l.drop i)
  | 0, _ => rfl
  | f + 1, i => by
    rw [PA.rnsF]
    by_cases h : i < (B l).size
    · have hl : i < l.length := by rw [B_size] at h; exact h
      have hd : l.drop i = l[i] :: l.drop (i + 1) := List.drop_eq_getElem_cons hl
      have e : Utf8.decode (B l) i = Lib.decodeL (l.drop i) := by
        have := Lib.tail_decode (B l) i 0
        rw [Nat.add_zero, B_from l i _ (B_size l)] at this
        exact this.symm
      rw [if_pos h, rnsF_rl l f, e, hd, rl, ← hd, List.drop_drop]
    · rw [if_neg h, List.drop_eq_nil_of_le (by rw [B_size] at h; omega)]
      rfl
theorem rl_more : ∀ (f g : Nat) (l : List UInt8), l.length ≤ f → l.length ≤ g → rl f l = rl g l
  | 0, g, l, hf, _ => by
    have : l = [] := List.length_eq_zero_iff.1 (by omega)
    subst this
    cases g <;> rfl
  | f + 1, 0, l, _, hg => by
    have : l = [] := List.length_eq_zero_iff.1 (by omega)
    subst this
    rfl
  | f + 1, g + 1, [], _, _ => rfl
  | f + 1, g + 1, x :: t, hf, hg => by
    have h1 := Lib.decodeL_width (x :: t)
    rw [List.length_cons] at hf hg
    rw [rl, rl, rl_more f g _ (by rw [List.length_drop, List.length_cons]; omega) (by rw [List.length_drop, List.length_cons]; omega)]
def chars (l : List UInt8) : List Int := rl l.length l
theorem rns_chars (l : List UInt8) : PA.rns (B l) = chars l := by
  unfold PA.rns chars
  rw [rnsF_rl, List.drop_zero, B_size]
theorem chars_chunk (c m : List UInt8) (hc : Chunk c) : chars (c ++ m) = ((dec (c ++ m)).1 : Int) :: chars m := by
  have hd := hc.dec m
  have hne : c ++ m ≠ [] := by intro e; exact hc.ne (List.append_eq_nil_iff.1 e).1
  have hL := dec_L (c ++ m) hne
  have hl : (c ++ m).length = c.length + m.length := List.length_append
  have hpos : 0 < c.length := List.length_pos_iff.2 hc.ne
  unfold chars
  obtain ⟨f, hf⟩ : ∃ f, (c ++ m).length = f + 1 := ⟨(c ++ m).length - 1, by omega⟩
  rw [hf]
  have hdr : (c ++ m).drop (dec (c ++ m)).2 = m := by rw [hd, List.drop_left' rfl]
  rw [← rl_more f m.length m (by omega) (Nat.le_refl _)]
  generalize hcm : c ++ m = z at *
  obtain ⟨x, t, rfl⟩ := List.exists_cons_of_ne_nil hne
  rw [rl, hL, hdr]
/-- A chunk's character. -/
theorem chunk_char (c m : List UInt8) (hc : Chunk c) : 0 < (dec (c ++ m)).1 ∧ (dec (c ++ m)).1 ≤ 1114111 ∧ ((dec (c ++ m)).1 < 55296 ∨ 57343 < (dec (c ++ m)).1) ∧ Lib.encodeRune ((dec (c ++ m)).1 : Int) = c := by
  have hne : c ++ m ≠ [] := by intro e; exact hc.ne (List.append_eq_nil_iff.1 e).1
  have hL := dec_L (c ++ m) hne
  have hd := hc.dec m
  have hN := dec_eq (c ++ m) hne
  have h0 : (c ++ m).getD 0 0 = c.getD 0 0 := by
    obtain ⟨x, t, rfl⟩ := List.exists_cons_of_ne_nil hc.ne
    rfl
  have hv := Lib.decodeN_valid (c ++ m).length ((c ++ m).getD 0 0).toNat ((c ++ m).getD 1 0).toNat ((c ++ m).getD 2 0).toNat ((c ++ m).getD 3 0).toNat (UInt8.toNat_lt _)
  rw [← hN] at hv
  have hne0 : (c.getD 0 0).toNat ≠ 0 := fun e => hc.head (UInt8.toNat_inj.1 e)
  have hsh := Lib.decodeN_shape (c ++ m).length ((c ++ m).getD 0 0).toNat ((c ++ m).getD 1 0).toNat ((c ++ m).getD 2 0).toNat ((c ++ m).getD 3 0).toNat
  rw [← hN, h0] at hsh
  have hbad : ¬ ((dec (c ++ m)).1 = 65533 ∧ (dec (c ++ m)).2 = 1) := by
    rintro ⟨e1, e2⟩
    rw [hd] at e2
    rcases hsh with ⟨k, e⟩ | ⟨_, _, _, _, e⟩ | ⟨_, _, _, _, _, _, e⟩ | ⟨_, _, _, _, _, _, _, e⟩ | e
    · rw [e] at e1; dsimp only at e1; omega
    · have := congrArg Prod.snd e; rw [hd] at this; dsimp only at this; omega
    · have := congrArg Prod.snd e; rw [hd] at this; dsimp only at this; omega
    · have := congrArg Prod.snd e; rw [hd] at this; dsimp only at this; omega
    · have hg := hc.good
      have : (c.getD 0 0).toNat < 128 := by
        apply Classical.byContradiction
        intro h
        exact hg ⟨e2, by omega⟩
      rw [hN, h0, Lib.decodeN, if_pos this] at e1
      dsimp only at e1
      omega
  refine ⟨?_, by omega, by omega, ?_⟩
  · rcases hsh with ⟨k, e⟩ | ⟨_, _, _, _, e⟩ | ⟨_, _, _, _, _, _, e⟩ | ⟨_, _, _, _, _, _, _, e⟩ | e
    all_goals
      rw [e]
      dsimp only
      omega
  · rw [← hL] at hbad ⊢
    rw [Lib.encode_decode (c ++ m) hne hbad, hL, hd, List.take_left' rfl]
theorem chars_clean (l : List UInt8) : (∀ n ∈ chars (clean l), 0 < n ∧ n ≤ 1114111 ∧ (n < 55296 ∨ 57343 < n)) ∧ (chars (clean l)).length ≤ l.length ∧ (chars (clean l)).flatMap Lib.encodeRune = clean l :=
  clean_ind (P := fun l x => (∀ n ∈ chars x, 0 < n ∧ n ≤ 1114111 ∧ (n < 55296 ∨ 57343 < n)) ∧ (chars x).length ≤ l.length ∧ (chars x).flatMap Lib.encodeRune = x) (by simp [chars, rl]) (fun l l' c _ hlt hc _ ih => by
    obtain ⟨i1, i2, i3⟩ := ih
    obtain ⟨k1, k2, k3, k4⟩ := chunk_char c (clean l') hc
    rw [chars_chunk c _ hc]
    refine ⟨fun n hn => ?_, by rw [List.length_cons]; omega, by rw [List.flatMap_cons, k4, i3]⟩
    rcases List.mem_cons.1 hn with rfl | hn
    · omega
    · exact i1 n hn) l
theorem enc_eq (n : Int) (h0 : 0 ≤ n) (h1 : n ≤ 1114111) (h2 : n < 55296 ∨ 57343 < n) : Utf8.encode n = B (Lib.encodeRune n) := by
  have hv : Utf8.valid n = true := by simp [Utf8.valid]; omega
  obtain ⟨k, rfl⟩ := Int.eq_ofNat_of_zero_le h0
  unfold Utf8.encode Lib.encodeRune
  rw [if_pos hv]
  simp only [Int.toNat_natCast]
  by_cases a : k < 128
  · rw [if_pos a, Lib.encodeRuneZ_one (by omega) (by omega)]
    simp [B]
  · by_cases b : k < 2048
    · rw [if_neg a, if_pos b, Lib.encodeRuneZ_two (by omega) (by omega)]
      simp only [B, List.map_cons, List.map_nil]
      congr <;> (congr 1; omega)
    · by_cases c : k < 65536
      · rw [if_neg a, if_neg b, if_pos c, Lib.encodeRuneZ_three (by omega)]
        simp only [B, List.map_cons, List.map_nil]
        congr <;> (congr 1; omega)
      · rw [if_neg a, if_neg b, if_neg c, Lib.encodeRuneZ_four (by omega) (by omega)]
        simp only [B, List.map_cons, List.map_nil]
        congr <;> (congr 1; omega)
theorem runes_back : ∀ (ns : List Int) (acc : List UInt8), (∀ n ∈ ns, 0 < n ∧ n ≤ 1114111 ∧ (n < 55296 ∨ 57343 < n)) → ns.foldl (fun r n => r ++ Utf8.encode n) (B acc) = B (acc ++ ns.flatMap Lib.encodeRune)
  | [], acc, _ => by simp
  | n :: ns, acc, h => by
    have hn := h n (List.mem_cons_self ..)
    rw [List.foldl_cons, enc_eq n (by omega) hn.2.1 hn.2.2, B_append, runes_back ns _ (fun x hx => h x (List.mem_cons_of_mem _ hx)), List.flatMap_cons, List.append_assoc]
/-- A cleaned text's characters, written again, are it. -/
theorem text_back (l : List UInt8) : runesBytes (chars (clean l)) = B (clean l) := by
  obtain ⟨h1, _, h3⟩ := chars_clean l
  have := runes_back (chars (clean l)) [] h1
  rw [List.nil_append, h3] at this
  exact this
end Go.Proofs.YtondbckghchmpaaDoor.Pl
