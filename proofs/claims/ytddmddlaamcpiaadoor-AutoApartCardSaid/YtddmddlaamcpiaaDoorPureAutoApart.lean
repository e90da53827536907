/-
  The plain law of AutoApart: what its printed function computes is true at every input of the row's form.
-/
import Derived.Test.YtddmddlaamcpiaaDoorPAuto7
import Derived.Test.YtddmddlaamcpiaaDoorPAx5
namespace Go.Proofs.YtddmddlaamcpiaaDoor.Pure
open Go.RowKit Go.Proofs.YtddmddlaamcpiaaDoorW.PrintWords Go.Proofs.YtddmddlaamcpiaaDoorW.PrintMore Go.Proofs.YtddmddlaamcpiaaDoor.Pl

theorem rd_cut (l : List (Nat × Nat × List UInt8)) (i : Nat) (x : Nat × Nat × List UInt8) (t : List (Nat × Nat × List UInt8)) (h : l.drop i = x :: t) : PA.rd_T26 (l.map toS) (i : Int) = toS x := by
  have hi : i < l.length := by
    rcases Nat.lt_or_ge i l.length with h1 | h1
    · exact h1
    · rw [List.drop_eq_nil_of_le h1] at h; cases h
  have e : l[i] = x := by
    rw [List.drop_eq_getElem_cons hi] at h
    exact (List.cons.inj h).1
  unfold PA.rd_T26
  rw [Int.toNat_natCast, List.getD_eq_getElem?_getD, List.getElem?_map, List.getElem?_eq_getElem hi, e]
  rfl
theorem nb_ne {x : UInt8} (h : nb x = true) : ¬ ((x.toNat : Int) = 32) ∧ ¬ ((x.toNat : Int) = 9) ∧ ¬ ((x.toNat : Int) = 10) ∧ ¬ ((x.toNat : Int) = 60) := by
  have hh : ∀ y : Fin 256, nb (UInt8.ofNat y.val) = true → y.val ≠ 32 ∧ y.val ≠ 9 ∧ y.val ≠ 10 ∧ y.val ≠ 60 := by decide +kernel
  have h0 := hh ⟨x.toNat, x.toNat_lt⟩
  rw [show UInt8.ofNat x.toNat = x from UInt8.ofNat_toNat] at h0
  obtain ⟨a, b, c, d⟩ := h0 h
  dsimp only at a b c d
  omega
theorem ahd_or {x : UInt8} (h : ahd x = true) : ((x.toNat : Int) = 32) ∨ ((x.toNat : Int) = 9) ∨ ((x.toNat : Int) = 10) ∨ ((x.toNat : Int) = 42) ∨ ((x.toNat : Int) = 95) ∨ ((x.toNat : Int) = 126) ∨ ((x.toNat : Int) = 40) := by
  have hh : ∀ y : Fin 256, ahd (UInt8.ofNat y.val) = true → y.val = 32 ∨ y.val = 9 ∨ y.val = 10 ∨ y.val = 42 ∨ y.val = 95 ∨ y.val = 126 ∨ y.val = 40 := by decide +kernel
  have h0 := hh ⟨x.toNat, x.toNat_lt⟩
  rw [show UInt8.ofNat x.toNat = x from UInt8.ofNat_toNat] at h0
  have := h0 h
  dsimp only at this
  omega
/-- The inner loop and what follows it. -/
theorem aa_in (s : List UInt8) (hs : s.length ≤ 1000) (L : List PA.S26) (j : Nat) (f t : Nat) (D : ByteArray) (hft : f ≤ t) (ht : t ≤ s.length) (hn : ∀ x ∈ (s.drop f).take (t - f), nb x = true) (ha : f = 0 ∨ ahd (s.getD (f - 1) 0) = true) (hj : j ≤ 1000)
    (hnext : Ev (fun k => PA.incipitlaw17_AutoApart.l0 k (B s) true L (t : Int) ((j + 1 : Nat) : Int)) true) :
    ∀ (d i : Nat), i + d = t - f → Ev (fun k => PA.incipitlaw17_AutoApart.l1 k (B s) true L (j : Int) (B ((s.drop f).take (t - f))) (i : Int) (f : Int) (t : Int) D) true := by
  have hz : ((s.drop f).take (t - f)).length = t - f := by rw [List.length_take, List.length_drop]; omega
  have hw : wrap64 ((j : Int) + 1) = ((j + 1 : Nat) : Int) := by rw [w64 (by omega) (by omega)]; rfl
  intro d
  induction d with
  | zero =>
    intro i hi
    refine Ev.step (fun k => ?_) hnext
    rw [PA.incipitlaw17_AutoApart.l1, if_neg (by rw [B_size, hz]; omega)]
    by_cases hf : f = 0
    · rw [if_neg (by omega), hw]
    · rcases ha with h | h
      · exact absurd h hf
      · have hg : s.getD (f - 1) 0 = s[f - 1]'(by omega) := by rw [List.getD_eq_getElem?_getD, List.getElem?_eq_getElem (by omega)]; rfl
        have e1 : wrap64 ((f : Int) - 1) = ((f - 1 : Nat) : Int) := by rw [w64 (by omega) (by omega)]; omega
        rw [if_pos (by omega), e1, if_pos (by omega), if_pos (by rw [B_size]; omega), B_bt s (f - 1) (by omega), hw]
        rw [hg] at h
        have h5 := ahd_or h
        generalize ((s[f - 1]'(by omega)).toNat : Int) = z at h5
        split
        · rfl
        · split
          · rfl
          · split
            · rfl
            · split
              · rfl
              · split
                · rfl
                · split
                  · rfl
                  · rw [if_pos (by omega)]
  | succ d ih =>
    intro i hi
    have hil : i < ((s.drop f).take (t - f)).length := by omega
    refine Ev.step (fun k => ?_) (ih (i + 1) (by omega))
    obtain ⟨a1, a2, a3, a4⟩ := nb_ne (hn _ (List.getElem_mem hil))
    rw [PA.incipitlaw17_AutoApart.l1, if_pos (by rw [B_size]; omega), if_pos (by omega), B_bt _ i hil, if_neg a1, if_neg a2, if_neg a3, if_neg a4, w64 (by omega) (by omega)]
    rfl
theorem aa_l (s : List UInt8) (hs : s.length ≤ 1000) (all : List (Nat × Nat × List UInt8)) (hlen : all.length ≤ 1000) : ∀ (es : List (Nat × Nat × List UInt8)) (i at' : Nat), all.drop i = es → at' ≤ s.length → Apart s at' es →
    Ev (fun k => PA.incipitlaw17_AutoApart.l0 k (B s) true (all.map toS) (at' : Int) (i : Int)) true
  | [], i, at', hd, _, _ => by
    have hi : all.length ≤ i := by
      rcases Nat.lt_or_ge i all.length with h | h
      · rw [List.drop_eq_getElem_cons h] at hd; cases hd
      · exact h
    refine Ev.step (f := fun _ => some true) (fun k => ?_) (Ev.now _)
    rw [PA.incipitlaw17_AutoApart.l0, if_neg (by rw [List.length_map]; omega)]
  | x :: es, i, at', hd, hat, hA => by
    obtain ⟨h1, hw, h3, h4, h5⟩ := hA
    have hi : i < all.length := by
      rcases Nat.lt_or_ge i all.length with h | h
      · exact h
      · rw [List.drop_eq_nil_of_le h] at hd; cases hd
    have hd1 : all.drop (i + 1) = es := by
      rw [← List.drop_drop, hd]
      rfl
    have hr := rd_cut all i x es hd
    have w1 := hw.three
    have w2 := hw.len
    have w3 := hw.nbs
    have w4 := hw.dest
    rw [List.length_drop] at w2
    obtain ⟨f, t, D⟩ := x
    dsimp only at h1 w1 w2 w3 w4 h3 h4 h5
    have ht : t ≤ s.length := by omega
    have hnext := aa_l s hs all hlen es (i + 1) t hd1 ht h5
    have hin := aa_in s hs (all.map toS) i f t (B D) h3 ht w3 h4 (by omega) hnext (t - f) 0 (by omega)
    have hsub : (B s).extract ((f : Int)).toNat ((t : Int)).toNat = B ((s.drop f).take (t - f)) := by
      rw [Int.toNat_natCast, Int.toNat_natCast, B_extract]
    have hzsub : ((s.drop f).take (t - f)).length ≤ 1000 := by rw [List.length_take, List.length_drop]; omega
    have f0 : (toS (f, t, D)).f0 = (f : Int) := rfl
    have f1 : (toS (f, t, D)).f1 = (t : Int) := rfl
    have f2 : (toS (f, t, D)).f2 = B D := rfl
    refine Ev.step (f := fun k => PA.incipitlaw17_AutoApart.j1 k (B s) true (all.map toS) (i : Int) false (f : Int) (t : Int) (B D)) (fun k => ?_) ?_
    · rw [PA.incipitlaw17_AutoApart.l0, if_pos (by rw [List.length_map]; omega), if_pos (by omega), hr, f0, f1, f2, if_neg (by omega), w64 (by omega) (by omega), if_neg (by omega), decide_eq_false (by rw [B_size]; omega)]
    · have hj2 : Ev (fun k => PA.incipitlaw17_AutoApart.j2 k (B s) true (all.map toS) (i : Int) (B ((s.drop f).take (t - f))) false (f : Int) (t : Int) (B D)) true := by
        refine Ev.step (fun k => ?_) hin
        rw [PA.incipitlaw17_AutoApart.j2, if_neg (by decide)]
        rfl
      have k1 : (⟨#[104, 116, 116, 112, 58, 47, 47]⟩ : ByteArray) = B http := rfl
      have k2 : (⟨#[109, 97, 105, 108, 116, 111, 58]⟩ : ByteArray) = B mailto := rfl
      refine Ev.step (fun k => ?_) hj2
      rw [PA.incipitlaw17_AutoApart.j1, if_neg (by decide), if_pos (by omega), if_pos (by omega), if_pos (by rw [B_size]; omega), hsub, k1, k2, B_append, B_append, B_toList, B_toList, B_toList, B_toList]
      by_cases e1 : D = (s.drop f).take (t - f)
      · rw [if_pos e1]
      · rw [if_neg e1, if_pos (by rw [B_size]; omega)]
        by_cases e2 : D = http ++ (s.drop f).take (t - f)
        · rw [if_pos e2]
        · rw [if_neg e2]
          rcases w4 with e | e | e
          · exact absurd e e1
          · exact absurd e e2
          · rw [show (D != mailto ++ (s.drop f).take (t - f)) = false by rw [e]; simp]
theorem AutoApart : ∀ (a0 : ByteArray), a0.size ≤ 140737488351232 → ∃ k, PA.incipitlaw17_AutoApart.f k a0 = some true := by
  intro a0 _
  apply Ev.rounds
  obtain ⟨s, rfl⟩ : ∃ s, a0 = B s := ⟨_, (B_eta a0).symm⟩
  unfold PA.incipitlaw17_AutoApart.f
  refine Ev.bind awake_ev ?_
  by_cases h : ((B s).size : Int) > 1000
  · refine Ev.congr (fun k => ?_) (Ev.now true)
    rw [if_pos h]
  · rw [B_size] at h
    refine Ev.congr (f := fun k => (PA.auto_Find.f k (B s)).bind fun t155 => PA.incipitlaw17_AutoApart.l0 k (B s) true t155 0 0) (fun k => by rw [B_size, if_neg h]) ?_
    refine Ev.bind (find_ev s (by omega)) ?_
    have hl : (adr s).length ≤ s.length := fd_le _ _ _ _
    exact aa_l s (by omega) (adr s) (by omega) (adr s) 0 0 (by rw [List.drop_zero]) (Nat.zero_le _) (adr_apart s)
end Go.Proofs.YtddmddlaamcpiaaDoor.Pure
