/-
  The law LinkReads holds: for every input it answers true, its arguments read behind the call as before. Conditions: the listed package-level variables as the program's text lays them (tied by the card).
-/
import Derived.Test.YtjobchgncdgfaaaGreatDoorSLinkReads4
import Derived.Test.YtjobchgncdgfaaaGreatDoorSLinkReads1
import Derived.Test.YtjobchgncdgfaaaGreatDoorSLinkReads3
import Derived.Test.YtjobchgncdgfaaaGreatDoorSLinkReads2
set_option linter.unusedVariables false
namespace Go.Proofs.YtjobchgncdgfaaaGreatDoor.Pure
open Go.RowKit Go.Proofs.YtjobchgncdgfaaaGreatDoorW.PrintWords Go.Proofs.YtjobchgncdgfaaaGreatDoorW.PrintMore Go.Proofs.YtjobchgncdgfaaaGreatDoor.Pl Go.Proofs.YtjobchgncdgfaaaGreatDoor.PA

theorem ang_eq (t : List UInt8) : ang t = match t.drop (eachL pAng t) with
      | [] => ([], 0, false)
      | y :: _ => if y = 62 then (une (t.take (eachL pAng t)), eachL pAng t + 2, true) else ([], 0, false) := rfl
theorem ang_at (a t : List UInt8) (y : UInt8) (he : eachL pAng (a ++ y :: t) = a.length) : ang (a ++ y :: t) = if y = 62 then (une a, a.length + 2, true) else ([], 0, false) := by
  rw [ang_eq, he, List.drop_left' rfl, List.take_left' rfl]
theorem sgn_ne10 (y : UInt8) (h : sgn y = true) : y ≠ 10 := by
  rintro rfl
  revert h
  decide +kernel
theorem rang_no (S : ByteArray) (M : List Bool) (i : Int) : Ev (fun k => incipitref09_angled.j1 k S M i true) ((B [], (0 : Int), false) : ByteArray × Int × Bool) := by
  refine Ev.step (f := fun _ => some (B [], 0, false)) (fun k => ?_) (Ev.now _)
  simp only [incipitref09_angled.j1]
  exact if_pos (by first | trivial | rfl)
theorem rang_l : ∀ (n : Nat) (r q : List UInt8) (Q : List Bool), r.length ≤ n → Q.length = q.length → (60 :: (q ++ r)).length ≤ 2000 → mk (60 :: (q ++ r)) = (false :: Q) ++ mk r → eachL pAng (q ++ r) = q.length + eachL pAng r →
    Ev (fun k => incipitref09_angled.l0 k (B (60 :: (q ++ r))) (mk (60 :: (q ++ r))) (((q.length + 1 : Nat)) : Int)) (B (ang (q ++ r)).1, ((ang (q ++ r)).2.1 : Int), (ang (q ++ r)).2.2)
  | _, [], q, Q, _, hQ, hl, hM, hE => by
    have e : ang (q ++ []) = ([], 0, false) := by rw [ang_eq, hE]; simp [eachL]
    rw [e]
    refine Ev.step (f := fun _ => some (B [], 0, false)) (fun k => ?_) (Ev.now _)
    simp only [incipitref09_angled.l0]
    rw [if_neg (by rw [B_size]; simp)]
    rfl
  | 0, x :: t, q, Q, hn, hQ, hl, hM, hE => by simp at hn
  | n + 1, x :: t, q, Q, hn, hQ, hl, hM, hE => by
    simp only [List.length_cons] at hn
    have hl2 : q.length + t.length + 2 ≤ 2000 := by simp at hl; omega
    have hlt : (((q.length + 1 : Nat)) : Int) < ((B (60 :: (q ++ x :: t))).size : Int) := by rw [B_size]; simp <;> omega
    have hltm : (((q.length + 1 : Nat)) : Int) < ((mk (60 :: (q ++ x :: t))).length : Int) := by rw [mk_len]; simp; omega
    have hb : bt (B (60 :: (q ++ x :: t))) (((q.length + 1 : Nat)) : Int) = (x.toNat : Int) := bt_mid (60 :: q) t x
    by_cases he : x = 92 ∧ ∃ y u, t = y :: u ∧ sgn y = true
    · obtain ⟨h92, y, u, rfl, hs⟩ := he
      rw [List.length_cons] at hn hl2
      rw [mk_esc x y u h92 hs] at hM
      rw [each_esc pAng x y u h92 hs] at hE
      have ih := rang_l n u (q ++ [x] ++ [y]) (Q ++ [false, true]) (by omega) (by simp [hQ]) (by simp; omega) (by rw [← snoc, ← snoc, hM]; simp) (by rw [← snoc, ← snoc, hE]; simp; omega)
      rw [← snoc, ← snoc, snoc_len, snoc_len] at ih
      have hlt1 : (((q.length + 1 + 1 : Nat)) : Int) < ((B (60 :: (q ++ x :: y :: u))).size : Int) := by rw [B_size]; simp <;> omega
      have hltm1 : (((q.length + 1 + 1 : Nat)) : Int) < ((mk (60 :: (q ++ x :: y :: u))).length : Int) := by rw [mk_len]; simp; omega
      have hb1 : bt (B (60 :: (q ++ x :: y :: u))) (((q.length + 1 + 1 : Nat)) : Int) = (y.toNat : Int) := by
        have := bt_mid (60 :: q ++ [x]) u y
        simpa using this
      have hr1 : rdOf false (mk (60 :: (q ++ x :: y :: u))) (((q.length + 1 + 1 : Nat)) : Int) = true := by rw [hM, show (false :: Q) ++ false :: true :: mk u = (false :: Q ++ [false]) ++ true :: mk u by simp]; exact rd_mid _ true _ _ (by simp [hQ])
      have c10 : ((y.toNat : Int) = 10) ↔ y = 10 := u8_eq _ 10 (by omega)
      have c60 : ((y.toNat : Int) = 60) ↔ y = 60 := u8_eq _ 60 (by omega)
      have c62 : ((y.toNat : Int) = 62) ↔ y = 62 := u8_eq _ 62 (by omega)
      have h2 : Ev (fun k => incipitref09_angled.j1 k (B (60 :: (q ++ x :: y :: u))) (mk (60 :: (q ++ x :: y :: u))) (((q.length + 1 + 1 : Nat)) : Int) false) (B (ang (q ++ x :: y :: u)).1, ((ang (q ++ x :: y :: u)).2.1 : Int), (ang (q ++ x :: y :: u)).2.2) := by
        refine Ev.step (fun k => ?_) ih
        simp only [incipitref09_angled.j1]
        rw [if_neg (by decide), if_pos (nn _), if_pos hlt1, hb1]
        by_cases h62 : y = 62
        · rw [if_pos (c62.2 h62), if_pos hltm1, hr1, if_pos (by first | trivial | rfl), winc (by omega)]
        · rw [if_neg (fun e => h62 (c62.1 e)), winc (by omega)]
      have h1 : Ev (fun k => incipitref09_angled.l0 k (B (60 :: (q ++ x :: y :: u))) (mk (60 :: (q ++ x :: y :: u))) (((q.length + 1 + 1 : Nat)) : Int)) (B (ang (q ++ x :: y :: u)).1, ((ang (q ++ x :: y :: u)).2.1 : Int), (ang (q ++ x :: y :: u)).2.2) := by
        refine Ev.step (fun k => ?_) h2
        simp only [incipitref09_angled.l0]
        rw [if_pos hlt1, if_pos (nn _), hb1, if_neg (fun e => sgn_ne10 y hs (c10.1 e))]
        by_cases h60 : y = 60
        · rw [if_pos (c60.2 h60), if_pos hltm1, hr1]
          rfl
        · rw [if_neg (fun e => h60 (c60.1 e))]
      refine Ev.step (f := fun k => incipitref09_angled.j1 k (B (60 :: (q ++ x :: y :: u))) (mk (60 :: (q ++ x :: y :: u))) (((q.length + 1 : Nat)) : Int) false) (fun k => ?_) (Ev.step (fun k => ?_) h1)
      · simp only [incipitref09_angled.l0]
        rw [if_pos hlt, if_pos (nn _), hb, if_neg (by rw [h92]; decide), if_neg (by rw [h92]; decide)]
      · simp only [incipitref09_angled.j1]
        rw [if_neg (by decide), if_pos (nn _), if_pos hlt, hb, if_neg (by rw [h92]; decide), winc (by omega)]
    · have h3 : x = 92 → ∀ y u, t = y :: u → sgn y = false := by
        intro e y u e2
        cases hs : sgn y with
        | false => rfl
        | true => exact absurd ⟨e, y, u, e2, hs⟩ he
      rw [mk_one x t h3] at hM
      have hr0 : rdOf false (mk (60 :: (q ++ x :: t))) (((q.length + 1 : Nat)) : Int) = false := by rw [hM]; exact rd_mid (false :: Q) false _ _ (by simp [hQ])
      have c10 : ((x.toNat : Int) = 10) ↔ x = 10 := u8_eq _ 10 (by omega)
      have c60 : ((x.toNat : Int) = 60) ↔ x = 60 := u8_eq _ 60 (by omega)
      have c62 : ((x.toNat : Int) = 62) ↔ x = 62 := u8_eq _ 62 (by omega)
      have hE1 := each_one pAng x t h3
      by_cases hp : pAng x = true
      · rw [hE1, if_pos hp, Nat.add_zero] at hE
        rw [ang_at q t x hE]
        by_cases h62 : x = 62
        · rw [if_pos h62]
          have hx : (B (60 :: (q ++ x :: t))).extract 1 ((((q.length + 1 : Nat)) : Int)).toNat = B q := by
            rw [Int.toNat_natCast, B_extract, List.drop_succ_cons, List.drop_zero, Nat.add_sub_cancel, List.take_left' rfl]
          have hu := runesc_ev q (by omega)
          have h1 : Ev (fun k => incipitref09_angled.j1 k (B (60 :: (q ++ x :: t))) (mk (60 :: (q ++ x :: t))) (((q.length + 1 : Nat)) : Int) false) (B (une q), ((q.length + 2 : Nat) : Int), true) := by
            refine Ev.step (f := fun k => (incipitref05_Unescape.f k (B q)).bind _) (fun k => by
              simp only [incipitref09_angled.j1]
              rw [if_neg (by decide), if_pos (nn _), if_pos hlt, hb, if_pos (c62.2 h62), if_pos hltm, hr0, if_neg (by decide), if_pos (by omega), if_pos (by rw [B_size]; simp <;> omega), hx]) (Ev.bind hu ?_)
            refine Ev.congr (f := fun _ => some (B (une q), ((q.length + 2 : Nat) : Int), true)) (fun k => ?_) (Ev.now _)
            rw [winc (by omega)]
          refine Ev.step (fun k => ?_) h1
          simp only [incipitref09_angled.l0]
          rw [if_pos hlt, if_pos (nn _), hb, if_neg (by rw [h62]; decide), if_neg (by rw [h62]; decide)]
        · rw [if_neg h62]
          refine Ev.step (fun k => ?_) (rang_no (B (60 :: (q ++ x :: t))) (mk (60 :: (q ++ x :: t))) (((q.length + 1 : Nat)) : Int))
          simp only [incipitref09_angled.l0]
          rw [if_pos hlt, if_pos (nn _), hb]
          by_cases h10 : x = 10
          · rw [if_pos (c10.2 h10)]
          · have h60 : x = 60 := by
              unfold pAng at hp
              simp only [Bool.or_eq_true, decide_eq_true_eq] at hp
              rcases hp with (hp | hp) | hp
              · exact hp
              · exact absurd hp h62
              · exact absurd hp h10
            rw [if_neg (fun e => h10 (c10.1 e)), if_pos (c60.2 h60), if_pos hltm, hr0]
            rfl
      · rw [hE1, if_neg hp] at hE
        have ih := rang_l n t (q ++ [x]) (Q ++ [false]) (by omega) (by simp [hQ]) (by simp; omega) (by rw [← snoc, hM]; simp) (by rw [← snoc, hE]; simp; omega)
        rw [← snoc, snoc_len] at ih
        have hne : x ≠ 60 ∧ x ≠ 62 ∧ x ≠ 10 := by
          unfold pAng at hp
          simp only [Bool.or_eq_true, decide_eq_true_eq, not_or] at hp
          exact ⟨hp.1.1, hp.1.2, hp.2⟩
        refine Ev.step (f := fun k => incipitref09_angled.j1 k (B (60 :: (q ++ x :: t))) (mk (60 :: (q ++ x :: t))) (((q.length + 1 : Nat)) : Int) false) (fun k => ?_) (Ev.step (fun k => ?_) ih)
        · simp only [incipitref09_angled.l0]
          rw [if_pos hlt, if_pos (nn _), hb, if_neg (fun e => hne.2.2 (c10.1 e)), if_neg (fun e => hne.1 (c60.1 e))]
        · simp only [incipitref09_angled.j1]
          rw [if_neg (by decide), if_pos (nn _), if_pos hlt, hb, if_neg (fun e => hne.2.1 (c62.1 e)), winc (by omega)]
/-! #### Dest -/
theorem dstL_deep : ∀ (n : Nat) (l : List UInt8) (o : Nat), l.length ≤ n → (dstL l o true).2.2 = true
  | _, [], o, _ => rfl
  | 0, x :: t, o, h => by simp at h
  | n + 1, x :: t, o, h => by
    have hd : dstd o true x = true := by unfold dstd; split <;> simp
    by_cases he : x = 92 ∧ ∃ y u, t = y :: u ∧ sgn y = true
    · obtain ⟨h92, y, u, rfl, hs⟩ := he
      simp only [List.length_cons] at h
      rw [dst_esc x y u o true h92 hs]
      exact dstL_deep n u o (by omega)
    · have h3 : x = 92 → ∀ y u, t = y :: u → sgn y = false := by
        intro e y u e2
        cases hs : sgn y with
        | false => rfl
        | true => exact absurd ⟨e, y, u, e2, hs⟩ he
      simp only [List.length_cons] at h
      rw [dst_one x t o true h3]
      split
      · rfl
      · rw [hd]
        exact dstL_deep n t _ (by omega)
/-- What an address is, told by how far it goes, how many are open and whether they were too deep. -/
def dOut (s : List UInt8) (k o : Nat) (d : Bool) : List UInt8 × Nat × Bool := if k = 0 ∨ 0 < o ∨ d = true then ([], 0, false) else (une (s.take k), k, true)
theorem rdst_end (s : List UInt8) (hs : s.length ≤ 2000) (k o : Nat) (hk : k ≤ s.length) (g : Nat → Option (ByteArray × Int × Bool))
    (hg : ∀ n, g (n + 1) = if (k : Int) = 0 then some (B [], 0, false) else if (o : Int) > 0 then some (B [], 0, false) else if 0 ≤ (k : Int) then (if (k : Int) ≤ ((B s).size : Int) then (incipitref05_Unescape.f n ((B s).extract 0 ((k : Int)).toNat)).bind fun t => some (t, (k : Int), true) else none) else none) :
    Ev g (B (dOut s k o false).1, ((dOut s k o false).2.1 : Int), (dOut s k o false).2.2) := by
  by_cases h0 : k = 0
  · have e : dOut s k o false = ([], 0, false) := if_pos (.inl h0)
    rw [e]
    refine Ev.step (f := fun _ => some (B [], 0, false)) (fun n => ?_) (Ev.now _)
    rw [hg, if_pos (by omega)]
  · by_cases ho : 0 < o
    · have e : dOut s k o false = ([], 0, false) := if_pos (.inr (.inl ho))
      rw [e]
      refine Ev.step (f := fun _ => some (B [], 0, false)) (fun n => ?_) (Ev.now _)
      rw [hg, if_neg (by omega), if_pos (by omega)]
    · have e : dOut s k o false = (une (s.take k), k, true) := if_neg (by rintro (h | h | h); exact h0 h; exact ho h; cases h)
      rw [e]
      have hu := runesc_ev (s.take k) (by rw [List.length_take]; omega)
      refine Ev.step (f := fun n => (incipitref05_Unescape.f n (B (s.take k))).bind _) (fun n => by rw [hg, if_neg (by omega), if_neg (by omega), if_pos (nn _), if_pos (szl hk), Int.toNat_natCast, B_to]) (Ev.bind hu (Ev.now _))
theorem rdst_l : ∀ (n : Nat) (r p : List UInt8) (P : List Bool) (o : Nat), r.length ≤ n → P.length = p.length → (p ++ r).length ≤ 2000 → mk (p ++ r) = P ++ mk r → o ≤ 32 →
    Ev (fun k => incipitref09_Dest.l0 k (B (p ++ r)) (mk (p ++ r)) (o : Int) (p.length : Int))
      (B (dOut (p ++ r) (p.length + (dstL r o false).1) (dstL r o false).2.1 (dstL r o false).2.2).1, ((dOut (p ++ r) (p.length + (dstL r o false).1) (dstL r o false).2.1 (dstL r o false).2.2).2.1 : Int), (dOut (p ++ r) (p.length + (dstL r o false).1) (dstL r o false).2.1 (dstL r o false).2.2).2.2)
  | _, [], p, P, o, _, hP, hl, hM, ho => by
    have hj : Ev (fun k => incipitref09_Dest.j2 k (B (p ++ [])) (mk (p ++ [])) (o : Int) (p.length : Int) false) (B (dOut (p ++ []) p.length o false).1, ((dOut (p ++ []) p.length o false).2.1 : Int), (dOut (p ++ []) p.length o false).2.2) := by
      refine rdst_end (p ++ []) hl p.length o (by simp) _ (fun n => ?_)
      simp only [incipitref09_Dest.j2]
      rw [if_neg (by decide)]
      rfl
    refine Ev.step (fun k => ?_) hj
    simp only [incipitref09_Dest.l0]
    rw [if_neg (by rw [B_size]; simp)]
  | 0, x :: t, p, P, o, hn, _, _, _, _ => by simp at hn
  | n + 1, x :: t, p, P, o, hn, hP, hl, hM, ho => by
    simp only [List.length_cons] at hn
    have hl2 : p.length + t.length + 1 ≤ 2000 := by simp at hl; omega
    have hlt := lt_sz p t x
    have hltm : ((p.length : Nat) : Int) < ((mk (p ++ x :: t)).length : Int) := by rw [mk_len]; simp; omega
    have hb := bt_mid p t x
    by_cases he : x = 92 ∧ ∃ y u, t = y :: u ∧ sgn y = true
    · obtain ⟨h92, y, u, rfl, hs⟩ := he
      rw [List.length_cons] at hn hl2
      rw [mk_esc x y u h92 hs] at hM
      have ih := rdst_l n u (p ++ [x] ++ [y]) (P ++ [false, true]) o (by omega) (by simp [hP]) (by simp; omega) (by rw [← snoc, ← snoc, hM]; simp) ho
      rw [← snoc, ← snoc, snoc_len, snoc_len] at ih
      rw [dst_esc x y u o false h92 hs]
      simp only
      rw [show p.length + ((dstL u o false).1 + 2) = p.length + 1 + 1 + (dstL u o false).1 by omega]
      obtain ⟨R, hR⟩ : ∃ R : ByteArray × Int × Bool, (B (dOut (p ++ x :: y :: u) (p.length + 1 + 1 + (dstL u o false).1) (dstL u o false).2.1 (dstL u o false).2.2).1, ((dOut (p ++ x :: y :: u) (p.length + 1 + 1 + (dstL u o false).1) (dstL u o false).2.1 (dstL u o false).2.2).2.1 : Int), (dOut (p ++ x :: y :: u) (p.length + 1 + 1 + (dstL u o false).1) (dstL u o false).2.1 (dstL u o false).2.2).2.2) = R := ⟨_, rfl⟩
      rw [hR] at ih ⊢
      have hlt1 : (((p.length + 1 : Nat)) : Int) < ((B (p ++ x :: y :: u)).size : Int) := by rw [B_size]; simp <;> omega
      have hltm1 : (((p.length + 1 : Nat)) : Int) < ((mk (p ++ x :: y :: u)).length : Int) := by rw [mk_len]; simp; omega
      have hb1 : bt (B (p ++ x :: y :: u)) (((p.length + 1 : Nat)) : Int) = (y.toNat : Int) := by
        have := bt_mid (p ++ [x]) u y
        rw [← snoc, snoc_len] at this
        exact this
      have hr1 : rdOf false (mk (p ++ x :: y :: u)) (((p.length + 1 : Nat)) : Int) = true := by rw [hM, show P ++ false :: true :: mk u = (P ++ [false]) ++ true :: mk u by simp]; exact rd_mid _ true _ _ (by simp [hP])
      obtain ⟨hy1, hy2⟩ := sgn_above y hs
      have c40 : ((y.toNat : Int) = 40) ↔ y = 40 := u8_eq _ 40 (by omega)
      have c41 : ((y.toNat : Int) = 41) ↔ y = 41 := u8_eq _ 41 (by omega)
      have c127 : ((y.toNat : Int) = 127) ↔ y = 127 := u8_eq _ 127 (by omega)
      have e5 : Ev (fun k => incipitref09_Dest.j5 k (B (p ++ x :: y :: u)) (mk (p ++ x :: y :: u)) (o : Int) (((p.length + 1 : Nat)) : Int) false) R := by
        refine Ev.step (fun k => ?_) ih
        simp only [incipitref09_Dest.j5]
        rw [if_neg (by decide), winc (by omega)]
      have e4 : Ev (fun k => incipitref09_Dest.j4 k (B (p ++ x :: y :: u)) (mk (p ++ x :: y :: u)) (o : Int) (((p.length + 1 : Nat)) : Int)) R := by
        refine Ev.step (fun k => ?_) e5
        simp only [incipitref09_Dest.j4]
        rw [if_pos (nn _), if_pos hlt1, hb1]
        by_cases h : y = 41
        · rw [if_pos (c41.2 h), if_pos hltm1, hr1]; rfl
        · rw [if_neg (fun e => h (c41.1 e))]
      have e3 : Ev (fun k => incipitref09_Dest.j3 k (B (p ++ x :: y :: u)) (mk (p ++ x :: y :: u)) (o : Int) (((p.length + 1 : Nat)) : Int) false) R := by
        refine Ev.step (fun k => ?_) e4
        simp only [incipitref09_Dest.j3]
        rw [if_neg (by decide)]
      have e2 : Ev (fun k => incipitref09_Dest.j2 k (B (p ++ x :: y :: u)) (mk (p ++ x :: y :: u)) (o : Int) (((p.length + 1 : Nat)) : Int) true) R := by
        refine Ev.step (fun k => ?_) e3
        simp only [incipitref09_Dest.j2]
        rw [if_pos (by first | trivial | rfl), if_pos (nn _), if_pos hlt1, hb1]
        by_cases h : y = 40
        · rw [if_pos (c40.2 h), if_pos hltm1, hr1]; rfl
        · rw [if_neg (fun e => h (c40.1 e))]
      have e1 : Ev (fun k => incipitref09_Dest.l0 k (B (p ++ x :: y :: u)) (mk (p ++ x :: y :: u)) (o : Int) (((p.length + 1 : Nat)) : Int)) R := by
        refine Ev.step (fun k => ?_) e2
        simp only [incipitref09_Dest.l0]
        rw [if_pos hlt1, if_pos (nn _), hb1, if_pos (by omega), show ((y.toNat : Int) != 127) = true by rw [bne, beq_eq_false_iff_ne.2 (fun e => hy2 (c127.1 e))]; rfl]
      have f5 : Ev (fun k => incipitref09_Dest.j5 k (B (p ++ x :: y :: u)) (mk (p ++ x :: y :: u)) (o : Int) (p.length : Int) false) R := by
        refine Ev.step (fun k => ?_) e1
        simp only [incipitref09_Dest.j5]
        rw [if_neg (by decide), winc (by omega)]
      have f4 : Ev (fun k => incipitref09_Dest.j4 k (B (p ++ x :: y :: u)) (mk (p ++ x :: y :: u)) (o : Int) (p.length : Int)) R := by
        refine Ev.step (fun k => ?_) f5
        simp only [incipitref09_Dest.j4]
        rw [if_pos (nn _), if_pos hlt, hb, if_neg (by rw [h92]; decide)]
      have f3 : Ev (fun k => incipitref09_Dest.j3 k (B (p ++ x :: y :: u)) (mk (p ++ x :: y :: u)) (o : Int) (p.length : Int) false) R := by
        refine Ev.step (fun k => ?_) f4
        simp only [incipitref09_Dest.j3]
        rw [if_neg (by decide)]
      have f2 : Ev (fun k => incipitref09_Dest.j2 k (B (p ++ x :: y :: u)) (mk (p ++ x :: y :: u)) (o : Int) (p.length : Int) true) R := by
        refine Ev.step (fun k => ?_) f3
        simp only [incipitref09_Dest.j2]
        rw [if_pos (by first | trivial | rfl), if_pos (nn _), if_pos hlt, hb, if_neg (by rw [h92]; decide)]
      refine Ev.step (fun k => ?_) f2
      simp only [incipitref09_Dest.l0]
      rw [if_pos hlt, if_pos (nn _), hb, if_pos (by rw [h92]; decide), show ((x.toNat : Int) != 127) = true by rw [h92]; decide]
    · have h3 : x = 92 → ∀ y u, t = y :: u → sgn y = false := by
        intro e y u e2
        cases hs : sgn y with
        | false => rfl
        | true => exact absurd ⟨e, y, u, e2, hs⟩ he
      rw [mk_one x t h3] at hM
      have hr0 : rdOf false (mk (p ++ x :: t)) (p.length : Int) = false := by rw [hM]; exact rd_mid P false _ _ hP
      have c40 : ((x.toNat : Int) = 40) ↔ x = 40 := u8_eq _ 40 (by omega)
      have c41 : ((x.toNat : Int) = 41) ↔ x = 41 := u8_eq _ 41 (by omega)
      have c127 : ((x.toNat : Int) = 127) ↔ x = 127 := u8_eq _ 127 (by omega)
      rw [dst_one x t o false h3]
      by_cases hp : dstp o x = true
      · rw [if_pos hp]
        simp only
        rw [Nat.add_zero]
        by_cases hlow : x.toNat ≤ 32 ∨ x = 127
        · have hj : Ev (fun k => incipitref09_Dest.j2 k (B (p ++ x :: t)) (mk (p ++ x :: t)) (o : Int) (p.length : Int) false) (B (dOut (p ++ x :: t) p.length o false).1, ((dOut (p ++ x :: t) p.length o false).2.1 : Int), (dOut (p ++ x :: t) p.length o false).2.2) := by
            refine rdst_end (p ++ x :: t) hl p.length o (by simp) _ (fun n => ?_)
            simp only [incipitref09_Dest.j2]
            rw [if_neg (by decide)]
            rfl
          refine Ev.step (fun k => ?_) hj
          simp only [incipitref09_Dest.l0]
          rw [if_pos hlt, if_pos (nn _), hb]
          by_cases h32 : x.toNat ≤ 32
          · rw [if_neg (by omega)]
          · rw [if_pos (by omega), show ((x.toNat : Int) != 127) = false by rw [bne, beq_iff_eq.2 (c127.2 (hlow.resolve_left h32))]; rfl]
        · rw [not_or] at hlow
          have h41 : x = 41 ∧ o = 0 := by
            unfold dstp at hp
            simp only [Bool.or_eq_true, Bool.and_eq_true, decide_eq_true_eq] at hp
            rcases hp with hp | hp | hp
            · exact absurd hp hlow.1
            · exact absurd hp hlow.2
            · exact hp
          obtain ⟨h41, rfl⟩ := h41
          have hj : Ev (fun k => incipitref09_Dest.j5 k (B (p ++ x :: t)) (mk (p ++ x :: t)) ((0 : Nat) : Int) (p.length : Int) true) (B (dOut (p ++ x :: t) p.length 0 false).1, ((dOut (p ++ x :: t) p.length 0 false).2.1 : Int), (dOut (p ++ x :: t) p.length 0 false).2.2) := by
            refine rdst_end (p ++ x :: t) hl p.length 0 (by simp) _ (fun n => ?_)
            simp only [incipitref09_Dest.j5]
            rw [if_pos (by first | trivial | rfl), if_pos (by rfl)]
            rfl
          have e4 : Ev (fun k => incipitref09_Dest.j4 k (B (p ++ x :: t)) (mk (p ++ x :: t)) ((0 : Nat) : Int) (p.length : Int)) (B (dOut (p ++ x :: t) p.length 0 false).1, ((dOut (p ++ x :: t) p.length 0 false).2.1 : Int), (dOut (p ++ x :: t) p.length 0 false).2.2) := by
            refine Ev.step (fun k => ?_) hj
            simp only [incipitref09_Dest.j4]
            rw [if_pos (nn _), if_pos hlt, hb, if_pos (c41.2 h41), if_pos hltm, hr0]
            rfl
          have e3 : Ev (fun k => incipitref09_Dest.j3 k (B (p ++ x :: t)) (mk (p ++ x :: t)) ((0 : Nat) : Int) (p.length : Int) false) (B (dOut (p ++ x :: t) p.length 0 false).1, ((dOut (p ++ x :: t) p.length 0 false).2.1 : Int), (dOut (p ++ x :: t) p.length 0 false).2.2) := by
            refine Ev.step (fun k => ?_) e4
            simp only [incipitref09_Dest.j3]
            rw [if_neg (by decide)]
          have e2 : Ev (fun k => incipitref09_Dest.j2 k (B (p ++ x :: t)) (mk (p ++ x :: t)) ((0 : Nat) : Int) (p.length : Int) true) (B (dOut (p ++ x :: t) p.length 0 false).1, ((dOut (p ++ x :: t) p.length 0 false).2.1 : Int), (dOut (p ++ x :: t) p.length 0 false).2.2) := by
            refine Ev.step (fun k => ?_) e3
            simp only [incipitref09_Dest.j2]
            rw [if_pos (by first | trivial | rfl), if_pos (nn _), if_pos hlt, hb, if_neg (by rw [h41]; decide)]
          refine Ev.step (fun k => ?_) e2
          simp only [incipitref09_Dest.l0]
          rw [if_pos hlt, if_pos (nn _), hb, if_pos (by rw [h41]; decide), show ((x.toNat : Int) != 127) = true by rw [h41]; decide]
      · rw [if_neg hp]
        simp only
        rw [show p.length + ((dstL t (dsto o x) (dstd o false x)).1 + 1) = p.length + 1 + (dstL t (dsto o x) (dstd o false x)).1 by omega]
        obtain ⟨hx1, hx2⟩ := dstp_above o x hp
        have hn41 : x = 41 → o ≠ 0 := by
          intro e h0
          apply hp
          unfold dstp
          rw [decide_eq_true e, decide_eq_true h0]
          simp
        have ih := fun o' ho' => rdst_l n t (p ++ [x]) (P ++ [false]) o' (by omega) (by simp [hP]) (by simp; omega) (by rw [← snoc, hM]; simp) ho'
        rw [← snoc, snoc_len] at ih
        have head : ∀ R : ByteArray × Int × Bool, Ev (fun k => incipitref09_Dest.j2 k (B (p ++ x :: t)) (mk (p ++ x :: t)) (o : Int) (p.length : Int) true) R → Ev (fun k => incipitref09_Dest.l0 k (B (p ++ x :: t)) (mk (p ++ x :: t)) (o : Int) (p.length : Int)) R := by
          intro R h
          refine Ev.step (fun k => ?_) h
          simp only [incipitref09_Dest.l0]
          rw [if_pos hlt, if_pos (nn _), hb, if_pos (by omega), show ((x.toNat : Int) != 127) = true by rw [bne, beq_eq_false_iff_ne.2 (fun e => hx2 (c127.1 e))]; rfl]
        have tail5 : ∀ (o' : Nat) (R : ByteArray × Int × Bool), (x = 41 → False) → Ev (fun k => incipitref09_Dest.l0 k (B (p ++ x :: t)) (mk (p ++ x :: t)) (o' : Int) (((p.length + 1 : Nat)) : Int)) R → Ev (fun k => incipitref09_Dest.j4 k (B (p ++ x :: t)) (mk (p ++ x :: t)) (o' : Int) (p.length : Int)) R := by
          intro o' R hx h
          refine Ev.step (f := fun k => incipitref09_Dest.j5 k (B (p ++ x :: t)) (mk (p ++ x :: t)) (o' : Int) (p.length : Int) false) (fun k => ?_) (Ev.step (fun k => ?_) h)
          · simp only [incipitref09_Dest.j4]
            rw [if_pos (nn _), if_pos hlt, hb, if_neg (fun e => hx (c41.1 e))]
          · simp only [incipitref09_Dest.j5]
            rw [if_neg (by decide), winc (by omega)]
        by_cases h40 : x = 40
        · have ho1 : dsto o x = o + 1 := by unfold dsto; rw [if_neg (by rw [h40]; decide), if_pos h40]
          have hd1 : dstd o false x = decide (32 < o + 1) := by unfold dstd; rw [if_pos h40, Bool.false_or]
          rw [ho1, hd1]
          refine head _ (Ev.step (f := fun k => incipitref09_Dest.j3 k (B (p ++ x :: t)) (mk (p ++ x :: t)) (o : Int) (p.length : Int) true) (fun k => ?_) ?_)
          · simp only [incipitref09_Dest.j2]
            rw [if_pos (by first | trivial | rfl), if_pos (nn _), if_pos hlt, hb, if_pos (c40.2 h40), if_pos hltm, hr0]
            rfl
          · by_cases hbig : 32 < o + 1
            · rw [decide_eq_true hbig]
              have e : dOut (p ++ x :: t) (p.length + 1 + (dstL t (o + 1) true).1) (dstL t (o + 1) true).2.1 (dstL t (o + 1) true).2.2 = ([], 0, false) := if_pos (.inr (.inr (dstL_deep t.length t (o + 1) (Nat.le_refl _))))
              rw [e]
              refine Ev.step (f := fun _ => some (B [], 0, false)) (fun k => ?_) (Ev.now _)
              simp only [incipitref09_Dest.j3]
              rw [if_pos (by first | trivial | rfl), winc (by omega), if_pos (by omega)]
              rfl
            · rw [decide_eq_false hbig]
              refine Ev.step (fun k => ?_) (tail5 (o + 1) _ (fun e => by rw [h40] at e; cases e) (ih (o + 1) (by omega)))
              simp only [incipitref09_Dest.j3]
              rw [if_pos (by first | trivial | rfl), winc (by omega), if_neg (by omega)]
        · have hd1 : dstd o false x = false := by unfold dstd; rw [if_neg h40]
          rw [hd1]
          have h2 : ∀ R : ByteArray × Int × Bool, Ev (fun k => incipitref09_Dest.j4 k (B (p ++ x :: t)) (mk (p ++ x :: t)) (o : Int) (p.length : Int)) R → Ev (fun k => incipitref09_Dest.j2 k (B (p ++ x :: t)) (mk (p ++ x :: t)) (o : Int) (p.length : Int) true) R := by
            intro R h
            refine Ev.step (f := fun k => incipitref09_Dest.j3 k (B (p ++ x :: t)) (mk (p ++ x :: t)) (o : Int) (p.length : Int) false) (fun k => ?_) (Ev.step (fun k => ?_) h)
            · simp only [incipitref09_Dest.j2]
              rw [if_pos (by first | trivial | rfl), if_pos (nn _), if_pos hlt, hb, if_neg (fun e => h40 (c40.1 e))]
            · simp only [incipitref09_Dest.j3]
              rw [if_neg (by decide)]
          by_cases h41 : x = 41
          · have ho0 := hn41 h41
            have ho1 : dsto o x = o - 1 := by unfold dsto; rw [if_pos h41]
            rw [ho1]
            refine head _ (h2 _ (Ev.step (f := fun k => incipitref09_Dest.j5 k (B (p ++ x :: t)) (mk (p ++ x :: t)) (o : Int) (p.length : Int) true) (fun k => ?_) (Ev.step (fun k => ?_) (ih (o - 1) (by omega)))))
            · simp only [incipitref09_Dest.j4]
              rw [if_pos (nn _), if_pos hlt, hb, if_pos (c41.2 h41), if_pos hltm, hr0]
              rfl
            · simp only [incipitref09_Dest.j5]
              rw [if_pos (by first | trivial | rfl), if_neg (by omega), winc (by omega), show wrap64 ((o : Int) - 1) = ((o - 1 : Nat) : Int) by rw [w64 (by omega) (by omega)]; omega]
          · have ho1 : dsto o x = o := by unfold dsto; rw [if_neg h41, if_neg h40]
            rw [ho1]
            exact head _ (h2 _ (tail5 o _ h41 (ih o ho)))
theorem rdest_ev (s : List UInt8) (h : s.length ≤ 2000) : Ev (fun k => incipitref09_Dest.f k (B s)) (B (dst s).1, ((dst s).2.1 : Int), (dst s).2.2) := by
  unfold incipitref09_Dest.f
  have hno : s.head? ≠ some 60 → Ev (fun k => incipitref09_Dest.j0 k (B s) false) (B (dst s).1, ((dst s).2.1 : Int), (dst s).2.2) := by
    intro h60
    have hm := marks_ev s (by omega)
    have hl := rdst_l s.length s [] [] 0 (Nat.le_refl _) rfl h rfl (by omega)
    rw [List.nil_append, List.length_nil, Nat.zero_add] at hl
    have e : dst s = dOut s (dstL s 0 false).1 (dstL s 0 false).2.1 (dstL s 0 false).2.2 := if_neg h60
    rw [e]
    refine Ev.step (f := fun k => (incipitref09_marks.f k (B s)).bind _) (fun k => by simp only [incipitref09_Dest.j0]; rw [if_neg (by decide)]) (Ev.bind hm ?_)
    exact hl
  cases s with
  | nil => exact Ev.congr (fun k => if_pos (by exact B_toList [])) (hno (by simp))
  | cons x t =>
    have c60 : ((x.toNat : Int) = 60) ↔ x = 60 := u8_eq _ 60 (by omega)
    have hb : bt (B (x :: t)) 0 = (x.toNat : Int) := B_bt (x :: t) 0 (by simp)
    refine Ev.congr (f := fun k => incipitref09_Dest.j0 k (B (x :: t)) ((x.toNat : Int) == 60)) (fun k => by rw [if_neg (by rw [B_toList]; simp), if_pos (by rw [B_size]; simp <;> omega), hb]) ?_
    by_cases h60 : x = 60
    · rw [beq_iff_eq.2 (c60.2 h60)]
      subst h60
      have hm := marks_ev (60 :: t) (by omega)
      have hl := rang_l t.length t [] [] (Nat.le_refl _) rfl h (mk_one 60 t (fun e => absurd e (by decide))) (by simp)
      rw [List.nil_append, List.length_nil, Nat.zero_add] at hl
      have e : dst (60 :: t) = ang t := if_pos rfl
      rw [e]
      have ha : Ev (fun k => incipitref09_angled.f k (B (60 :: t))) (B (ang t).1, ((ang t).2.1 : Int), (ang t).2.2) := by
        unfold incipitref09_angled.f
        exact Ev.bind hm hl
      refine Ev.step (f := fun k => (incipitref09_angled.f k (B (60 :: t))).bind _) (fun k => by simp only [incipitref09_Dest.j0]; rw [if_pos (by first | trivial | rfl)]) (Ev.bind ha ?_)
      exact Ev.now _
    · rw [beq_eq_false_iff_ne.2 (fun e => h60 (c60.1 e))]
      exact hno (by intro e; exact h60 (Option.some.inj e))
/-! #### Title -/
theorem rttl_l (q c : UInt8) (hc : ∀ r, cls (q :: r) = c) (h0 : c ≠ 0) (h40 : q = 40 ↔ c = 41) (hq : q ≠ 92) : ∀ (n : Nat) (r p : List UInt8) (P : List Bool), r.length ≤ n → P.length = p.length → (q :: (p ++ r)).length ≤ 2000 → mk (q :: (p ++ r)) = (false :: P) ++ mk r → eachL (pTit c) (p ++ r) = p.length + eachL (pTit c) r →
    Ev (fun k => incipitref09_Title.l0 k (B (q :: (p ++ r))) ((c.toNat : Nat) : Int) (mk (q :: (p ++ r))) (((p.length + 1 : Nat)) : Int)) (B (ttl (q :: (p ++ r))).1, ((ttl (q :: (p ++ r))).2 : Int))
  | _, [], p, P, _, hP, hl, hM, hE => by
    have e : ttl (q :: (p ++ [])) = ([], 0) := by rw [ttl_cons, hc, if_neg h0, hE]; simp [eachL]
    rw [e]
    refine Ev.step (f := fun _ => some (B [], 0)) (fun k => ?_) (Ev.now _)
    simp only [incipitref09_Title.l0]
    rw [if_neg (by rw [B_size]; simp)]
    rfl
  | 0, x :: t, p, P, hn, hP, hl, hM, hE => by simp at hn
  | n + 1, x :: t, p, P, hn, hP, hl, hM, hE => by
    simp only [List.length_cons] at hn
    have hl2 : p.length + t.length + 2 ≤ 2000 := by simp at hl; omega
    have hlt : (((p.length + 1 : Nat)) : Int) < ((B (q :: (p ++ x :: t))).size : Int) := by rw [B_size]; simp <;> omega
    have hltm : (((p.length + 1 : Nat)) : Int) < ((mk (q :: (p ++ x :: t))).length : Int) := by rw [mk_len]; simp; omega
    have hb : bt (B (q :: (p ++ x :: t))) (((p.length + 1 : Nat)) : Int) = (x.toNat : Int) := bt_mid (q :: p) t x
    by_cases he : x = 92 ∧ ∃ y u, t = y :: u ∧ sgn y = true
    · obtain ⟨h92, y, u, rfl, hs⟩ := he
      rw [List.length_cons] at hn hl2
      rw [mk_esc x y u h92 hs] at hM
      rw [each_esc (pTit c) x y u h92 hs] at hE
      have ih := rttl_l q c hc h0 h40 hq n u (p ++ [x] ++ [y]) (P ++ [false, true]) (by omega) (by simp [hP]) (by simp; omega) (by rw [← snoc, ← snoc, hM]; simp) (by rw [← snoc, ← snoc, hE]; simp; omega)
      rw [← snoc, ← snoc, snoc_len, snoc_len] at ih
      have hr0 : rdOf false (mk (q :: (p ++ x :: y :: u))) (((p.length + 1 : Nat)) : Int) = false := by rw [hM]; exact rd_mid (false :: P) false _ _ (by simp [hP])
      have hr1 : rdOf false (mk (q :: (p ++ x :: y :: u))) (((p.length + 1 + 1 : Nat)) : Int) = true := by rw [hM, show (false :: P) ++ false :: true :: mk u = (false :: P ++ [false]) ++ true :: mk u by simp]; exact rd_mid _ true _ _ (by simp [hP])
      have hx92 : ¬ ((x.toNat : Int) = ((c.toNat : Nat) : Int)) := by
        intro e
        have : x = c := UInt8.toNat_inj.1 (by omega)
        have h9 := cls_ne (q :: [])
        rw [hc, ← this] at h9
        exact h9 h92
      have b0 : bt (B (q :: (p ++ x :: y :: u))) 0 = (q.toNat : Int) := B_bt _ 0 (by simp)
      refine Ev.step (f := fun k => incipitref09_Title.l0 k (B (q :: (p ++ x :: y :: u))) ((c.toNat : Nat) : Int) (mk (q :: (p ++ x :: y :: u))) (((p.length + 1 + 1 : Nat)) : Int)) (fun k => ?_) (Ev.step (fun k => ?_) ih)
      · simp only [incipitref09_Title.l0]
        rw [if_pos hlt, if_pos (nn _), if_pos hltm, hr0, if_neg (by decide), hb, if_neg hx92, if_pos (by rw [B_size]; simp <;> omega), b0]
        have hx40 : ¬ ((x.toNat : Int) = 40) := by rw [h92]; decide
        by_cases hq40 : (q.toNat : Int) = 40
        · rw [if_pos hq40, if_neg hx40, winc (by omega)]
        · rw [if_neg hq40, winc (by omega)]
      · simp only [incipitref09_Title.l0]
        rw [if_pos (by rw [B_size]; simp <;> omega), if_pos (nn _), if_pos (by rw [mk_len]; simp; omega), hr1, if_pos (by first | trivial | rfl), winc (by omega)]
    · have h3 : x = 92 → ∀ y u, t = y :: u → sgn y = false := by
        intro e y u e2
        cases hs : sgn y with
        | false => rfl
        | true => exact absurd ⟨e, y, u, e2, hs⟩ he
      rw [mk_one x t h3] at hM
      have hr0 : rdOf false (mk (q :: (p ++ x :: t))) (((p.length + 1 : Nat)) : Int) = false := by rw [hM]; exact rd_mid (false :: P) false _ _ (by simp [hP])
      have b0 : bt (B (q :: (p ++ x :: t))) 0 = (q.toNat : Int) := B_bt _ 0 (by simp)
      have c40 : ((x.toNat : Int) = 40) ↔ x = 40 := u8_eq _ 40 (by omega)
      have d40 : ((q.toNat : Int) = 40) ↔ q = 40 := u8_eq _ 40 (by omega)
      have cc : ((x.toNat : Int) = ((c.toNat : Nat) : Int)) ↔ x = c := ⟨fun e => UInt8.toNat_inj.1 (by omega), fun e => by rw [e]⟩
      have hE1 := each_one (pTit c) x t h3
      by_cases hp : pTit c x = true
      · rw [hE1, if_pos hp, Nat.add_zero] at hE
        have hl4 := ttl_at q p t x c hc h0 hE
        by_cases hxc : x = c
        · rw [if_pos hxc] at hl4
          have hx : (B (q :: (p ++ x :: t))).extract 1 ((((p.length + 1 : Nat)) : Int)).toNat = B p := by
            rw [Int.toNat_natCast, B_extract, List.drop_succ_cons, List.drop_zero, Nat.add_sub_cancel, List.take_left' rfl]
          have hg := rgap_ev p (by omega)
          refine Ev.step (f := fun k => (incipitref09_gap.f k (B p)).bind _) (fun k => by
            simp only [incipitref09_Title.l0]
            rw [if_pos hlt, if_pos (nn _), if_pos hltm, hr0, if_neg (by decide), hb, if_pos (cc.2 hxc), if_pos (by omega), if_pos (by rw [B_size]; simp <;> omega), hx]) (Ev.bind hg ?_)
          cases hgp : gp false p with
          | true =>
            rw [if_pos hgp] at hl4
            rw [hl4]
            exact Ev.congr (f := fun _ => some (B [], 0)) (fun k => if_pos (by first | trivial | rfl)) (Ev.now _)
          | false =>
            rw [if_neg (by rw [hgp]; decide)] at hl4
            rw [hl4]
            have hu := runesc_ev p (by omega)
            refine Ev.congr (f := fun k => (incipitref05_Unescape.f k (B p)).bind _) (fun k => by rw [if_neg (by decide)]) (Ev.bind hu ?_)
            refine Ev.congr (f := fun _ => some (B (une p), ((p.length + 2 : Nat) : Int))) (fun k => ?_) (Ev.now _)
            rw [winc (by omega)]
        · rw [if_neg hxc] at hl4
          have hx40 : x = 40 ∧ c = 41 := by
            unfold pTit at hp
            simp only [Bool.or_eq_true, Bool.and_eq_true, decide_eq_true_eq] at hp
            exact hp.resolve_left hxc
          rw [hl4]
          refine Ev.step (f := fun _ => some (B [], 0)) (fun k => ?_) (Ev.now _)
          simp only [incipitref09_Title.l0]
          rw [if_pos hlt, if_pos (nn _), if_pos hltm, hr0, if_neg (by decide), hb, if_neg (fun e => hxc (cc.1 e)), if_pos (by rw [B_size]; simp <;> omega), b0, if_pos (d40.2 (h40.2 hx40.2)), if_pos (c40.2 hx40.1)]
          rfl
      · rw [hE1, if_neg hp] at hE
        have ih := rttl_l q c hc h0 h40 hq n t (p ++ [x]) (P ++ [false]) (by omega) (by simp [hP]) (by simp; omega) (by rw [← snoc, hM]; simp) (by rw [← snoc, hE]; simp; omega)
        rw [← snoc, snoc_len] at ih
        have hne : x ≠ c ∧ (x = 40 → c ≠ 41) := by
          unfold pTit at hp
          simp only [Bool.or_eq_true, Bool.and_eq_true, decide_eq_true_eq, not_or, not_and] at hp
          exact hp
        refine Ev.step (fun k => ?_) ih
        simp only [incipitref09_Title.l0]
        rw [if_pos hlt, if_pos (nn _), if_pos hltm, hr0, if_neg (by decide), hb, if_neg (fun e => hne.1 (cc.1 e)), if_pos (by rw [B_size]; simp <;> omega), b0, winc (by omega)]
        by_cases hq40 : (q.toNat : Int) = 40
        · rw [if_pos hq40, if_neg (fun e => hne.2 (c40.1 e) (h40.1 (d40.1 hq40)))]
        · rw [if_neg hq40]
theorem rtitle_ev (s : List UInt8) (h : s.length ≤ 2000) : Ev (fun k => incipitref09_Title.f k (B s)) (B (ttl s).1, ((ttl s).2 : Int)) := by
  unfold incipitref09_Title.f
  cases s with
  | nil =>
    refine Ev.congr (fun k => if_pos (by exact B_toList [])) ?_
    refine Ev.step (f := fun _ => some (B [], 0)) (fun k => ?_) (Ev.now _)
    simp only [incipitref09_Title.j0]
    exact if_pos (by first | trivial | rfl)
  | cons q t =>
    have b0 : bt (B (q :: t)) 0 = (q.toNat : Int) := B_bt (q :: t) 0 (by simp)
    have c34 : ((q.toNat : Int) = 34) ↔ q = 34 := u8_eq _ 34 (by omega)
    have c39 : ((q.toNat : Int) = 39) ↔ q = 39 := u8_eq _ 39 (by omega)
    have c40 : ((q.toNat : Int) = 40) ↔ q = 40 := u8_eq _ 40 (by omega)
    have hyes : ∀ c : UInt8, (∀ r, cls (q :: r) = c) → c ≠ 0 → (q = 40 ↔ c = 41) → q ≠ 92 → ((q = 40 ∧ c = 41) ∨ (q ≠ 40 ∧ c = q)) → Ev (fun k => incipitref09_Title.j0 k (B (q :: t)) false) (B (ttl (q :: t)).1, ((ttl (q :: t)).2 : Int)) := by
      intro c hc h0 h41 hq hcq
      have hm := marks_ev (q :: t) (by omega)
      have hl := rttl_l q c hc h0 h41 hq t.length t [] [] (Nat.le_refl _) rfl h (mk_one q t (fun e => absurd e hq)) (by simp)
      rw [List.nil_append, List.length_nil, Nat.zero_add] at hl
      refine Ev.step (f := fun k => incipitref09_Title.j1 k (B (q :: t)) ((c.toNat : Nat) : Int)) (fun k => ?_) (Ev.step (f := fun k => (incipitref09_marks.f k (B (q :: t))).bind _) (fun k => by simp only [incipitref09_Title.j1]; rfl) (Ev.bind hm hl))
      simp only [incipitref09_Title.j0]
      rw [if_neg (by decide), if_pos (by rw [B_size]; simp <;> omega), b0]
      rcases hcq with ⟨e1, e2⟩ | ⟨e1, e2⟩
      · rw [if_pos (c40.2 e1), e2]
        rfl
      · rw [if_neg (fun e => e1 (c40.1 e)), e2]
    have hcl := fun r => cls_cons q r
    by_cases h34 : q = 34
    · refine Ev.congr (fun k => by rw [if_neg (by rw [B_toList]; simp), if_pos (by rw [B_size]; simp <;> omega), b0, if_pos (c34.2 h34)]) (hyes q (fun r => by rw [hcl, if_pos h34]) (by rw [h34]; decide) (by rw [h34]; decide) (by rw [h34]; decide) (.inr ⟨by rw [h34]; decide, rfl⟩))
    · by_cases h39 : q = 39
      · refine Ev.congr (fun k => by rw [if_neg (by rw [B_toList]; simp), if_pos (by rw [B_size]; simp <;> omega), b0, if_neg (fun e => h34 (c34.1 e)), if_pos (c39.2 h39)]) (hyes q (fun r => by rw [hcl, if_neg h34, if_pos h39]) (by rw [h39]; decide) (by rw [h39]; decide) (by rw [h39]; decide) (.inr ⟨by rw [h39]; decide, rfl⟩))
      · by_cases h40 : q = 40
        · refine Ev.congr (fun k => by rw [if_neg (by rw [B_toList]; simp), if_pos (by rw [B_size]; simp <;> omega), b0, if_neg (fun e => h34 (c34.1 e)), if_neg (fun e => h39 (c39.1 e)), show ((q.toNat : Int) != 40) = false by rw [bne, beq_iff_eq.2 (c40.2 h40)]; rfl]) (hyes 41 (fun r => by rw [hcl, if_neg h34, if_neg h39, if_pos h40]) (by decide) (by rw [h40]; decide) (by rw [h40]; decide) (.inl ⟨h40, rfl⟩))
        · have e : ttl (q :: t) = ([], 0) := by rw [ttl_cons, hcl, if_neg h34, if_neg h39, if_neg h40, if_pos rfl]
          rw [e]
          refine Ev.congr (f := fun k => incipitref09_Title.j0 k (B (q :: t)) true) (fun k => by rw [if_neg (by rw [B_toList]; simp), if_pos (by rw [B_size]; simp <;> omega), b0, if_neg (fun e => h34 (c34.1 e)), if_neg (fun e => h39 (c39.1 e)), show ((q.toNat : Int) != 40) = true by rw [bne, beq_eq_false_iff_ne.2 (fun e => h40 (c40.1 e))]; rfl]) ?_
          refine Ev.step (f := fun _ => some (B [], 0)) (fun k => ?_) (Ev.now _)
          simp only [incipitref09_Title.j0]
          exact if_pos (by first | trivial | rfl)
end Go.Proofs.YtjobchgncdgfaaaGreatDoor.Pure

namespace Go.Proofs.YtjobchgncdgfaaaGreatDoor.PA
open Go.RowKit Go.Proofs.YtjobchgncdgfaaaGreatDoorW.PrintWords Go.Proofs.YtjobchgncdgfaaaGreatDoorW.PrintLast Go.Proofs.YtjobchgncdgfaaaGreatDoorW.PrintMore
attribute [local go_sem] max2_int min2_int max_two min_two max_three min_three max_four min_four   -- for this text's walks alone
set_option linter.unusedVariables false
set_option linter.unusedSimpArgs false

/-! ### incipitref09_Tail: function 17 -/
mutual
def incipitref09_Tail.j0 : Nat → ByteArray → Bool → Option (ByteArray × ByteArray × Int)
  | 0, _, _ => none
  | k + 1, x0, x19 => if x19 = true then (some ((⟨#[]⟩ : ByteArray), (⟨#[]⟩ : ByteArray), 0)) else (if 1 ≤ (x0.size : Int) then ((incipitref09_White.f k (x0.extract 1 x0.size)).bind fun t169 => (if 0 ≤ (wrap64 (1 + t169)) then (if (wrap64 (1 + t169)) ≤ (x0.size : Int) then ((incipitref09_Dest.f k (x0.extract ((wrap64 (1 + t169)) : Int).toNat x0.size)).bind fun bt170 => (if 0 ≤ (wrap64 ((wrap64 (1 + t169)) + bt170.2.1)) then (if (wrap64 ((wrap64 (1 + t169)) + bt170.2.1)) ≤ (x0.size : Int) then ((incipitref09_White.f k (x0.extract ((wrap64 ((wrap64 (1 + t169)) + bt170.2.1)) : Int).toNat x0.size)).bind fun t173 => (if bt170.2.1 > 0 then (incipitref09_Tail.j1 k x0 (wrap64 ((wrap64 (1 + t169)) + bt170.2.1)) bt170.1 t173 (⟨#[]⟩ : ByteArray) (decide (t173 > 0))) else (incipitref09_Tail.j1 k x0 (wrap64 ((wrap64 (1 + t169)) + bt170.2.1)) bt170.1 t173 (⟨#[]⟩ : ByteArray) false))) else (none)) else (none))) else (none)) else (none))) else (none))
def incipitref09_Tail.j1 : Nat → ByteArray → Int → ByteArray → Int → ByteArray → Bool → Option (ByteArray × ByteArray × Int)
  | 0, _, _, _, _, _, _ => none
  | k + 1, x0, x5, x6, x9, x10, x44 => if x44 = true then (if 0 ≤ (wrap64 (x5 + x9)) then (if (wrap64 (x5 + x9)) ≤ (x0.size : Int) then ((incipitref09_Title.f k (x0.extract ((wrap64 (x5 + x9)) : Int).toNat x0.size)).bind fun bt174 => (if bt174.2 > 0 then (if 0 ≤ (wrap64 ((wrap64 (x5 + x9)) + bt174.2)) then (if (wrap64 ((wrap64 (x5 + x9)) + bt174.2)) ≤ (x0.size : Int) then ((incipitref09_White.f k (x0.extract ((wrap64 ((wrap64 (x5 + x9)) + bt174.2)) : Int).toNat x0.size)).bind fun t176 => (if (wrap64 ((wrap64 ((wrap64 (x5 + x9)) + bt174.2)) + t176)) ≥ (x0.size : Int) then (some ((⟨#[]⟩ : ByteArray), (⟨#[]⟩ : ByteArray), 0)) else (if 0 ≤ (wrap64 ((wrap64 ((wrap64 (x5 + x9)) + bt174.2)) + t176)) then (if (wrap64 ((wrap64 ((wrap64 (x5 + x9)) + bt174.2)) + t176)) < (x0.size : Int) then (if (bt x0 (wrap64 ((wrap64 ((wrap64 (x5 + x9)) + bt174.2)) + t176))) = 41 then (some (x6, bt174.1, wrap64 ((wrap64 ((wrap64 ((wrap64 (x5 + x9)) + bt174.2)) + t176)) + 1))) else (some ((⟨#[]⟩ : ByteArray), (⟨#[]⟩ : ByteArray), 0))) else (none)) else (none)))) else (none)) else (none)) else (if 0 ≤ x5 then (if x5 ≤ (x0.size : Int) then ((incipitref09_White.f k (x0.extract (x5 : Int).toNat x0.size)).bind fun t177 => (if (wrap64 (x5 + t177)) ≥ (x0.size : Int) then (some ((⟨#[]⟩ : ByteArray), (⟨#[]⟩ : ByteArray), 0)) else (if 0 ≤ (wrap64 (x5 + t177)) then (if (wrap64 (x5 + t177)) < (x0.size : Int) then (if (bt x0 (wrap64 (x5 + t177))) = 41 then (some (x6, x10, wrap64 ((wrap64 (x5 + t177)) + 1))) else (some ((⟨#[]⟩ : ByteArray), (⟨#[]⟩ : ByteArray), 0))) else (none)) else (none)))) else (none)) else (none)))) else (none)) else (none)) else (if 0 ≤ x5 then (if x5 ≤ (x0.size : Int) then ((incipitref09_White.f k (x0.extract (x5 : Int).toNat x0.size)).bind fun t178 => (if (wrap64 (x5 + t178)) ≥ (x0.size : Int) then (some ((⟨#[]⟩ : ByteArray), (⟨#[]⟩ : ByteArray), 0)) else (if 0 ≤ (wrap64 (x5 + t178)) then (if (wrap64 (x5 + t178)) < (x0.size : Int) then (if (bt x0 (wrap64 (x5 + t178))) = 41 then (some (x6, x10, wrap64 ((wrap64 (x5 + t178)) + 1))) else (some ((⟨#[]⟩ : ByteArray), (⟨#[]⟩ : ByteArray), 0))) else (none)) else (none)))) else (none)) else (none))
end
def incipitref09_Tail.f (k : Nat) (a0 : ByteArray) : Option (ByteArray × ByteArray × Int) := if a0.toList = ([] : List UInt8) then (incipitref09_Tail.j0 k a0 true) else (if 0 < (a0.size : Int) then (incipitref09_Tail.j0 k a0 ((bt a0 0) != 40)) else (none))
set_option maxHeartbeats 8000000 in
set_option maxRecDepth 100000 in
theorem incipitref09_Tail.calls (k : Nat) (a0 : ByteArray) (r1 : ByteArray) (r2 : ByteArray) (r3 : Int) (w : World) (h : incipitref09_Tail.f k a0 = some (r1, r2, r3)) :
    Calls Tryz.prog 17 #[.string a0] w fun e w' => e = .returned (.tuple #[.string r1, .string r2, .int .i64 r3]) ∧ Below w.heap.size w w' := by
  have HB := Aside0.mk (Below.refl w.heap.size w)
  have H : (if a0.toList = ([] : List UInt8) then (incipitref09_Tail.j0 k a0 true) else (if 0 < (a0.size : Int) then (incipitref09_Tail.j0 k a0 ((bt a0 0) != 40)) else (none))) = some (r1, r2, r3) := h
  clear h
  have HC2 := Aside0.mk H
  clear H
  go_enter Tryz.func17, Tryz.ntmps17
  go_upto_region 1 with (fail)
  go_cut [19] (fun v19 wc => ∃ (kq : Nat) (x19_1 : Bool), v19 = .bool x19_1 ∧ Aside0 (incipitref09_Tail.j0 kq a0 x19_1 = some (r1, r2, r3)) ∧ Aside0 (kq ≤ k) ∧ Aside0 (Below w.heap.size w wc))
  case first =>
    have H := HC2.out
    clear HC2
    by_cases c3 : a0.toList = ([] : List UInt8)
    · rw [if_pos c3] at H
      have c3b0 : (a0.toList == ([] : List UInt8)) = true := beq_iff_eq.mpr c3
      have c3b1 : (a0.toList != ([] : List UInt8)) = false := bne_eq_false_iff_eq.mpr c3
      clear c3
      (first | rw [c3b0] | (simp only [i64_w, i32_w]; rw [c3b0]) | skip)
      have H' := Aside0.mk H
      clear H
      go_wp2
      go_meet
      case rel => exact ⟨_, (true), (by first | rfl | (simp; done) | (simp [*]; done)), H', ⟨by first | omega | exact Nat.le_refl _⟩, ⟨by repeat (first | (with_reducible first | exact HB.out | apply below_alloc | apply pw_below_drewN | apply below_drew1) | exact HB.out)⟩⟩
    · rw [if_neg c3] at H
      have c3b0 : (a0.toList == ([] : List UInt8)) = false := beq_eq_false_iff_ne.mpr c3
      have c3b1 : (a0.toList != ([] : List UInt8)) = true := bne_iff_ne.mpr c3
      (first | rw [c3b0] | (simp only [i64_w, i32_w]; rw [c3b0]) | skip)
      by_cases c4 : 0 < (a0.size : Int)
      · rw [if_pos c4] at H
        have c4b0 : decide (0 < (a0.size : Int)) = true := decide_eq_true c4
        have c4b1 : decide (0 < a0.size) = true := decide_eq_true (by omega)
        clear c4
        have H' := Aside0.mk H
        clear H
        have p5 : 0 ≤ (0 : Int) := (by omega)
        have q5 : 0 < a0.size := (by have : (0 : Int) < (a0.size : Int) := of_decide_eq_true (by first | (with_reducible assumption) | assumption); omega)
        have hx5 : ∀ h : 0 < a0.size, ((a0[0]'h).toNat : Int) = bt a0 0 := bt_at a0 0
        clear p5
        have qi5 : (0 < (a0.size : Int)) = True := eq_true (of_decide_eq_true (by first | (with_reducible assumption) | assumption))
        replace q5 := eq_true q5
        go_wp2
        go_meet
        case rel => exact ⟨_, (((bt a0 0) != 40)), (by first | rfl | (simp; done) | (simp [*]; done)), H', ⟨by first | omega | exact Nat.le_refl _⟩, ⟨by repeat (first | (with_reducible first | exact HB.out | apply below_alloc | apply pw_below_drewN | apply below_drew1) | exact HB.out)⟩⟩
      · rw [if_neg c4] at H
        exact absurd H (by simp)
  case rest =>
    clear HC2
    try clear c1
    try clear p2
    try clear c3
    try clear c3b0
    try clear c3b1
    try clear c4
    try clear c4b0
    try clear c4b1
    try clear p5
    try clear q5
    try clear hx5
    try clear qi5
    try clear p5
    try clear q5
    obtain ⟨kq, x19_1, rfl, HA, HJ1, HB⟩ := hcut
    cases kq with
    | zero => exact absurd HA.out (by simp [incipitref09_Tail.j0])
    | succ kj1 =>
      have H := HA.out
      clear HA
      simp only [incipitref09_Tail.j0] at H
      by_cases c6 : x19_1 = true
      · subst c6
        have H1 : (some ((⟨#[]⟩ : ByteArray), (⟨#[]⟩ : ByteArray), 0)) = some (r1, r2, r3) := by rw [if_pos rfl] at H; exact H
        clear H
        have H := H1
        clear H1
        simp only [Option.some.injEq, Prod.mk.injEq] at H
        obtain ⟨rfl, rfl, rfl⟩ := H
        go_wp2
        go_ret3
        exact ⟨by first | rfl | exact retNe _ | (simp [errW_none, errW_some] <;> rfl) | (simp [*, errW_none, errW_some] <;> rfl), by repeat (first | (with_reducible first | exact HB.out | apply below_alloc | apply pw_below_drewN | apply below_drew1) | exact HB.out)⟩
      · replace c6 := Bool.eq_false_iff.mpr c6
        subst c6
        have H1 : (if 1 ≤ (a0.size : Int) then ((incipitref09_White.f kj1 (a0.extract 1 a0.size)).bind fun t169 => (if 0 ≤ (wrap64 (1 + t169)) then (if (wrap64 (1 + t169)) ≤ (a0.size : Int) then ((incipitref09_Dest.f kj1 (a0.extract ((wrap64 (1 + t169)) : Int).toNat a0.size)).bind fun bt170 => (if 0 ≤ (wrap64 ((wrap64 (1 + t169)) + bt170.2.1)) then (if (wrap64 ((wrap64 (1 + t169)) + bt170.2.1)) ≤ (a0.size : Int) then ((incipitref09_White.f kj1 (a0.extract ((wrap64 ((wrap64 (1 + t169)) + bt170.2.1)) : Int).toNat a0.size)).bind fun t173 => (if bt170.2.1 > 0 then (incipitref09_Tail.j1 kj1 a0 (wrap64 ((wrap64 (1 + t169)) + bt170.2.1)) bt170.1 t173 (⟨#[]⟩ : ByteArray) (decide (t173 > 0))) else (incipitref09_Tail.j1 kj1 a0 (wrap64 ((wrap64 (1 + t169)) + bt170.2.1)) bt170.1 t173 (⟨#[]⟩ : ByteArray) false))) else (none)) else (none))) else (none)) else (none))) else (none)) = some (r1, r2, r3) := by rw [if_neg (show ¬ (false = true) by decide)] at H; exact H
        clear H
        have H := H1
        clear H1
        by_cases c7 : 1 ≤ (a0.size : Int)
        · rw [if_pos c7] at H
          have c7b0 := eq_true c7
          have c7b1 : decide (1 ≤ (a0.size : Int)) = true := decide_eq_true c7
          clear c7
          replace H := Option.bind_eq_some_iff.mp H
          obtain ⟨t169, A80, H⟩ := H
          replace H : (if 0 ≤ (wrap64 (1 + t169)) then (if (wrap64 (1 + t169)) ≤ (a0.size : Int) then ((incipitref09_Dest.f kj1 (a0.extract ((wrap64 (1 + t169)) : Int).toNat a0.size)).bind fun bt170 => (if 0 ≤ (wrap64 ((wrap64 (1 + t169)) + bt170.2.1)) then (if (wrap64 ((wrap64 (1 + t169)) + bt170.2.1)) ≤ (a0.size : Int) then ((incipitref09_White.f kj1 (a0.extract ((wrap64 ((wrap64 (1 + t169)) + bt170.2.1)) : Int).toNat a0.size)).bind fun t173 => (if bt170.2.1 > 0 then (incipitref09_Tail.j1 kj1 a0 (wrap64 ((wrap64 (1 + t169)) + bt170.2.1)) bt170.1 t173 (⟨#[]⟩ : ByteArray) (decide (t173 > 0))) else (incipitref09_Tail.j1 kj1 a0 (wrap64 ((wrap64 (1 + t169)) + bt170.2.1)) bt170.1 t173 (⟨#[]⟩ : ByteArray) false))) else (none)) else (none))) else (none)) else (none)) = some (r1, r2, r3) := H
          have A8 := Aside0.mk A80
          clear A80
          obtain ⟨ji9, hji9⟩ : ∃ j_ : Int, (wrap64 (1 + t169)) = j_ := ⟨_, rfl⟩
          replace H : (if 0 ≤ (ji9) then (if (ji9) ≤ (a0.size : Int) then ((incipitref09_Dest.f kj1 (a0.extract ((ji9) : Int).toNat a0.size)).bind fun bt170 => (if 0 ≤ (wrap64 ((ji9) + bt170.2.1)) then (if (wrap64 ((ji9) + bt170.2.1)) ≤ (a0.size : Int) then ((incipitref09_White.f kj1 (a0.extract ((wrap64 ((ji9) + bt170.2.1)) : Int).toNat a0.size)).bind fun t173 => (if bt170.2.1 > 0 then (incipitref09_Tail.j1 kj1 a0 (wrap64 ((ji9) + bt170.2.1)) bt170.1 t173 (⟨#[]⟩ : ByteArray) (decide (t173 > 0))) else (incipitref09_Tail.j1 kj1 a0 (wrap64 ((ji9) + bt170.2.1)) bt170.1 t173 (⟨#[]⟩ : ByteArray) false))) else (none)) else (none))) else (none)) else (none)) = some (r1, r2, r3) := by first | (rw [hji9] at H; exact H) | (simp only [hji9] at H ⊢; exact H)
          (try rw [hji9] at A8)
          have hji9w : (IntKind.i64.wrap (1 + t169)) = ji9 := (i64_w _).trans hji9
          by_cases c10 : 0 ≤ (ji9)
          · rw [if_pos c10] at H
            have c10b0 := eq_true c10
            have c10b1 : decide (0 ≤ (ji9)) = true := decide_eq_true c10
            clear c10
            by_cases c11 : (ji9) ≤ (a0.size : Int)
            · rw [if_pos c11] at H
              have c11b0 := eq_true c11
              have c11b1 : decide ((ji9) ≤ (a0.size : Int)) = true := decide_eq_true c11
              clear c11
              replace H := Option.bind_eq_some_iff.mp H
              obtain ⟨⟨t170, t171, t172⟩, A120, H⟩ := H
              replace H : (if 0 ≤ (wrap64 ((ji9) + t171)) then (if (wrap64 ((ji9) + t171)) ≤ (a0.size : Int) then ((incipitref09_White.f kj1 (a0.extract ((wrap64 ((ji9) + t171)) : Int).toNat a0.size)).bind fun t173 => (if t171 > 0 then (incipitref09_Tail.j1 kj1 a0 (wrap64 ((ji9) + t171)) t170 t173 (⟨#[]⟩ : ByteArray) (decide (t173 > 0))) else (incipitref09_Tail.j1 kj1 a0 (wrap64 ((ji9) + t171)) t170 t173 (⟨#[]⟩ : ByteArray) false))) else (none)) else (none)) = some (r1, r2, r3) := H
              have A12 := Aside0.mk A120
              clear A120
              obtain ⟨ji13, hji13⟩ : ∃ j_ : Int, (wrap64 ((ji9) + t171)) = j_ := ⟨_, rfl⟩
              replace H : (if 0 ≤ (ji13) then (if (ji13) ≤ (a0.size : Int) then ((incipitref09_White.f kj1 (a0.extract ((ji13) : Int).toNat a0.size)).bind fun t173 => (if t171 > 0 then (incipitref09_Tail.j1 kj1 a0 ji13 t170 t173 (⟨#[]⟩ : ByteArray) (decide (t173 > 0))) else (incipitref09_Tail.j1 kj1 a0 ji13 t170 t173 (⟨#[]⟩ : ByteArray) false))) else (none)) else (none)) = some (r1, r2, r3) := by first | (rw [hji13] at H; exact H) | (simp only [hji13] at H ⊢; exact H)
              (try rw [hji13] at A8)
              (try rw [hji13] at A12)
              have hji13w : (IntKind.i64.wrap ((ji9) + t171)) = ji13 := (i64_w _).trans hji13
              by_cases c14 : 0 ≤ (ji13)
              · rw [if_pos c14] at H
                have c14b0 := eq_true c14
                have c14b1 : decide (0 ≤ (ji13)) = true := decide_eq_true c14
                clear c14
                by_cases c15 : (ji13) ≤ (a0.size : Int)
                · rw [if_pos c15] at H
                  have c15b0 := eq_true c15
                  have c15b1 : decide ((ji13) ≤ (a0.size : Int)) = true := decide_eq_true c15
                  clear c15
                  replace H := Option.bind_eq_some_iff.mp H
                  obtain ⟨t173, A160, H⟩ := H
                  replace H : (if t171 > 0 then (incipitref09_Tail.j1 kj1 a0 ji13 t170 t173 (⟨#[]⟩ : ByteArray) (decide (t173 > 0))) else (incipitref09_Tail.j1 kj1 a0 ji13 t170 t173 (⟨#[]⟩ : ByteArray) false)) = some (r1, r2, r3) := H
                  have A16 := Aside0.mk A160
                  clear A160
                  have HC17 := Aside0.mk H
                  clear H
                  go_upto_region 8 with (first | ((with_reducible refine gate_callee (f := 19) rfl ?_); refine goesL_ (some 22) rfl rfl Tryz.func19 (by kernel_rfl) rfl #[.string (a0.extract 1 a0.size)] rfl (by (try simp only [List.map_toArray, List.map_cons, List.map_nil]); first | done | rfl | (simp only [List.length_drop, List.length_take]; rfl)) ?_; (with_reducible refine (incipitref09_White.calls kj1 (a0.extract 1 a0.size) t169 _ A8.out).mono ?_); rintro e w' ⟨rfl, ⟨nd, rfl⟩⟩; refine ⟨_, rfl, ?_⟩) | ((with_reducible refine gate_callee (f := 13) rfl ?_); refine goesL_ (some 28) rfl rfl Tryz.func13 (by kernel_rfl) rfl #[.string (a0.extract ((ji9) : Int).toNat a0.size)] rfl (by (try simp only [List.map_toArray, List.map_cons, List.map_nil]); first | done | (simp only [hji9]; rfl) | rfl | (simp only [List.length_drop, List.length_take]; rfl)) ?_; (with_reducible refine (incipitref09_Dest.calls kj1 (a0.extract ((ji9) : Int).toNat a0.size) t170 t171 t172 _ A12.out).mono ?_); rintro e w18 ⟨rfl, hb⟩; refine ⟨_, rfl, ?_⟩; have n0_ := Aside0.mk (below_step (by repeat (first | (with_reducible first | exact HB.out | apply below_alloc | apply pw_below_drewN | apply below_drew1) | exact HB.out)) hb); clear HB; have HB := n0_; clear n0_; (try clear hb); (try clear hb2); (try clear hk); (try clear hi)) | ((with_reducible refine gate_callee (f := 19) rfl ?_); refine goesL_ (some 38) rfl rfl Tryz.func19 (by kernel_rfl) rfl #[.string (a0.extract ((ji13) : Int).toNat a0.size)] rfl (by (try simp only [List.map_toArray, List.map_cons, List.map_nil]); first | done | (simp only [hji13]; rfl) | rfl | (simp only [List.length_drop, List.length_take]; rfl)) ?_; (with_reducible refine (incipitref09_White.calls kj1 (a0.extract ((ji13) : Int).toNat a0.size) t173 _ A16.out).mono ?_); rintro e w' ⟨rfl, ⟨nd, rfl⟩⟩; refine ⟨_, rfl, ?_⟩))
                  (try simp only [Act.put, List.setIfInBounds_toArray, List.set_cons_zero, List.set_cons_succ])
                  go_cut [44] (fun v44 wc => ∃ (kq : Nat) (x44_16 : Bool), v44 = .bool x44_16 ∧ Aside0 (incipitref09_Tail.j1 kq a0 ji13 t170 t173 (⟨#[]⟩ : ByteArray) x44_16 = some (r1, r2, r3)) ∧ Aside0 (kq ≤ kj1) ∧ Aside0 (Below w.heap.size w wc))
                  case first =>
                    have H := HC17.out
                    clear HC17
                    by_cases c19 : t171 > 0
                    · rw [if_pos c19] at H
                      have c19b0 : decide (0 < t171) = true := decide_eq_true c19
                      clear c19
                      (first | rw [c19b0] | (simp only [i64_w, i32_w]; rw [c19b0]) | skip)
                      have H' := Aside0.mk H
                      clear H
                      go_wp2
                      go_meet
                      case rel => exact ⟨_, (decide (t173 > 0)), (by first | rfl | (simp; done) | (simp [*]; done)), H', ⟨by have := HJ1.out; first | omega | exact Nat.le_refl _⟩, ⟨by repeat (first | (with_reducible first | exact HB.out | apply below_alloc | apply pw_below_drewN | apply below_drew1) | exact HB.out)⟩⟩
                    · rw [if_neg c19] at H
                      have c19b0 : decide (0 < t171) = false := decide_eq_false c19
                      clear c19
                      (first | rw [c19b0] | (simp only [i64_w, i32_w]; rw [c19b0]) | skip)
                      have H' := Aside0.mk H
                      clear H
                      go_wp2
                      go_meet
                      case rel => exact ⟨_, (false), (by first | rfl | (simp; done) | (simp [*]; done)), H', ⟨by have := HJ1.out; first | omega | exact Nat.le_refl _⟩, ⟨by repeat (first | (with_reducible first | exact HB.out | apply below_alloc | apply pw_below_drewN | apply below_drew1) | exact HB.out)⟩⟩
                  case rest =>
                    clear HC17
                    try clear c1
                    try clear p2
                    try clear c3
                    try clear c3b0
                    try clear c3b1
                    try clear c4
                    try clear c4b0
                    try clear c4b1
                    try clear p5
                    try clear q5
                    try clear hx5
                    try clear qi5
                    try clear c6
                    try clear p6
                    try clear c7
                    try clear c7b0
                    try clear c7b1
                    try clear c10
                    try clear c10b0
                    try clear c10b1
                    try clear c11
                    try clear c11b0
                    try clear c11b1
                    try clear c13
                    try clear c14
                    try clear c14b0
                    try clear c14b1
                    try clear c15
                    try clear c15b0
                    try clear c15b1
                    try clear c17
                    try clear c19
                    try clear c19b0
                    try clear p2
                    try clear p5
                    try clear q5
                    obtain ⟨kq, x44_16, rfl, HA, HJ16, HB⟩ := hcut
                    cases kq with
                    | zero => exact absurd HA.out (by simp [incipitref09_Tail.j1])
                    | succ kj16 =>
                      have H := HA.out
                      clear HA
                      simp only [incipitref09_Tail.j1] at H
                      by_cases c20 : x44_16 = true
                      · subst c20
                        have H1 : (if 0 ≤ (wrap64 (ji13 + t173)) then (if (wrap64 (ji13 + t173)) ≤ (a0.size : Int) then ((incipitref09_Title.f kj16 (a0.extract ((wrap64 (ji13 + t173)) : Int).toNat a0.size)).bind fun bt174 => (if bt174.2 > 0 then (if 0 ≤ (wrap64 ((wrap64 (ji13 + t173)) + bt174.2)) then (if (wrap64 ((wrap64 (ji13 + t173)) + bt174.2)) ≤ (a0.size : Int) then ((incipitref09_White.f kj16 (a0.extract ((wrap64 ((wrap64 (ji13 + t173)) + bt174.2)) : Int).toNat a0.size)).bind fun t176 => (if (wrap64 ((wrap64 ((wrap64 (ji13 + t173)) + bt174.2)) + t176)) ≥ (a0.size : Int) then (some ((⟨#[]⟩ : ByteArray), (⟨#[]⟩ : ByteArray), 0)) else (if 0 ≤ (wrap64 ((wrap64 ((wrap64 (ji13 + t173)) + bt174.2)) + t176)) then (if (wrap64 ((wrap64 ((wrap64 (ji13 + t173)) + bt174.2)) + t176)) < (a0.size : Int) then (if (bt a0 (wrap64 ((wrap64 ((wrap64 (ji13 + t173)) + bt174.2)) + t176))) = 41 then (some (t170, bt174.1, wrap64 ((wrap64 ((wrap64 ((wrap64 (ji13 + t173)) + bt174.2)) + t176)) + 1))) else (some ((⟨#[]⟩ : ByteArray), (⟨#[]⟩ : ByteArray), 0))) else (none)) else (none)))) else (none)) else (none)) else (if 0 ≤ ji13 then (if ji13 ≤ (a0.size : Int) then ((incipitref09_White.f kj16 (a0.extract (ji13 : Int).toNat a0.size)).bind fun t177 => (if (wrap64 (ji13 + t177)) ≥ (a0.size : Int) then (some ((⟨#[]⟩ : ByteArray), (⟨#[]⟩ : ByteArray), 0)) else (if 0 ≤ (wrap64 (ji13 + t177)) then (if (wrap64 (ji13 + t177)) < (a0.size : Int) then (if (bt a0 (wrap64 (ji13 + t177))) = 41 then (some (t170, (⟨#[]⟩ : ByteArray), wrap64 ((wrap64 (ji13 + t177)) + 1))) else (some ((⟨#[]⟩ : ByteArray), (⟨#[]⟩ : ByteArray), 0))) else (none)) else (none)))) else (none)) else (none)))) else (none)) else (none)) = some (r1, r2, r3) := by rw [if_pos rfl] at H; exact H
                        clear H
                        have H := H1
                        clear H1
                        obtain ⟨ji21, hji21⟩ : ∃ j_ : Int, (wrap64 (ji13 + t173)) = j_ := ⟨_, rfl⟩
                        replace H : (if 0 ≤ (ji21) then (if (ji21) ≤ (a0.size : Int) then ((incipitref09_Title.f kj16 (a0.extract ((ji21) : Int).toNat a0.size)).bind fun bt174 => (if bt174.2 > 0 then (if 0 ≤ (wrap64 ((ji21) + bt174.2)) then (if (wrap64 ((ji21) + bt174.2)) ≤ (a0.size : Int) then ((incipitref09_White.f kj16 (a0.extract ((wrap64 ((ji21) + bt174.2)) : Int).toNat a0.size)).bind fun t176 => (if (wrap64 ((wrap64 ((ji21) + bt174.2)) + t176)) ≥ (a0.size : Int) then (some ((⟨#[]⟩ : ByteArray), (⟨#[]⟩ : ByteArray), 0)) else (if 0 ≤ (wrap64 ((wrap64 ((ji21) + bt174.2)) + t176)) then (if (wrap64 ((wrap64 ((ji21) + bt174.2)) + t176)) < (a0.size : Int) then (if (bt a0 (wrap64 ((wrap64 ((ji21) + bt174.2)) + t176))) = 41 then (some (t170, bt174.1, wrap64 ((wrap64 ((wrap64 ((ji21) + bt174.2)) + t176)) + 1))) else (some ((⟨#[]⟩ : ByteArray), (⟨#[]⟩ : ByteArray), 0))) else (none)) else (none)))) else (none)) else (none)) else (if 0 ≤ ji13 then (if ji13 ≤ (a0.size : Int) then ((incipitref09_White.f kj16 (a0.extract (ji13 : Int).toNat a0.size)).bind fun t177 => (if (wrap64 (ji13 + t177)) ≥ (a0.size : Int) then (some ((⟨#[]⟩ : ByteArray), (⟨#[]⟩ : ByteArray), 0)) else (if 0 ≤ (wrap64 (ji13 + t177)) then (if (wrap64 (ji13 + t177)) < (a0.size : Int) then (if (bt a0 (wrap64 (ji13 + t177))) = 41 then (some (t170, (⟨#[]⟩ : ByteArray), wrap64 ((wrap64 (ji13 + t177)) + 1))) else (some ((⟨#[]⟩ : ByteArray), (⟨#[]⟩ : ByteArray), 0))) else (none)) else (none)))) else (none)) else (none)))) else (none)) else (none)) = some (r1, r2, r3) := by first | (rw [hji21] at H; exact H) | (simp only [hji21] at H ⊢; exact H)
                        have hji21w : (IntKind.i64.wrap (ji13 + t173)) = ji21 := (i64_w _).trans hji21
                        by_cases c22 : 0 ≤ (ji21)
                        · rw [if_pos c22] at H
                          have c22b0 := eq_true c22
                          have c22b1 : decide (0 ≤ (ji21)) = true := decide_eq_true c22
                          clear c22
                          by_cases c23 : (ji21) ≤ (a0.size : Int)
                          · rw [if_pos c23] at H
                            have c23b0 := eq_true c23
                            have c23b1 : decide ((ji21) ≤ (a0.size : Int)) = true := decide_eq_true c23
                            clear c23
                            replace H := Option.bind_eq_some_iff.mp H
                            obtain ⟨⟨t174, t175⟩, A240, H⟩ := H
                            replace H : (if t175 > 0 then (if 0 ≤ (wrap64 ((ji21) + t175)) then (if (wrap64 ((ji21) + t175)) ≤ (a0.size : Int) then ((incipitref09_White.f kj16 (a0.extract ((wrap64 ((ji21) + t175)) : Int).toNat a0.size)).bind fun t176 => (if (wrap64 ((wrap64 ((ji21) + t175)) + t176)) ≥ (a0.size : Int) then (some ((⟨#[]⟩ : ByteArray), (⟨#[]⟩ : ByteArray), 0)) else (if 0 ≤ (wrap64 ((wrap64 ((ji21) + t175)) + t176)) then (if (wrap64 ((wrap64 ((ji21) + t175)) + t176)) < (a0.size : Int) then (if (bt a0 (wrap64 ((wrap64 ((ji21) + t175)) + t176))) = 41 then (some (t170, t174, wrap64 ((wrap64 ((wrap64 ((ji21) + t175)) + t176)) + 1))) else (some ((⟨#[]⟩ : ByteArray), (⟨#[]⟩ : ByteArray), 0))) else (none)) else (none)))) else (none)) else (none)) else (if 0 ≤ ji13 then (if ji13 ≤ (a0.size : Int) then ((incipitref09_White.f kj16 (a0.extract (ji13 : Int).toNat a0.size)).bind fun t177 => (if (wrap64 (ji13 + t177)) ≥ (a0.size : Int) then (some ((⟨#[]⟩ : ByteArray), (⟨#[]⟩ : ByteArray), 0)) else (if 0 ≤ (wrap64 (ji13 + t177)) then (if (wrap64 (ji13 + t177)) < (a0.size : Int) then (if (bt a0 (wrap64 (ji13 + t177))) = 41 then (some (t170, (⟨#[]⟩ : ByteArray), wrap64 ((wrap64 (ji13 + t177)) + 1))) else (some ((⟨#[]⟩ : ByteArray), (⟨#[]⟩ : ByteArray), 0))) else (none)) else (none)))) else (none)) else (none))) = some (r1, r2, r3) := H
                            have A24 := Aside0.mk A240
                            clear A240
                            by_cases c25 : t175 > 0
                            · rw [if_pos c25] at H
                              have c25b0 : decide (0 < t175) = true := decide_eq_true c25
                              clear c25
                              obtain ⟨ji26, hji26⟩ : ∃ j_ : Int, (wrap64 ((ji21) + t175)) = j_ := ⟨_, rfl⟩
                              replace H : (if 0 ≤ (ji26) then (if (ji26) ≤ (a0.size : Int) then ((incipitref09_White.f kj16 (a0.extract ((ji26) : Int).toNat a0.size)).bind fun t176 => (if (wrap64 ((ji26) + t176)) ≥ (a0.size : Int) then (some ((⟨#[]⟩ : ByteArray), (⟨#[]⟩ : ByteArray), 0)) else (if 0 ≤ (wrap64 ((ji26) + t176)) then (if (wrap64 ((ji26) + t176)) < (a0.size : Int) then (if (bt a0 (wrap64 ((ji26) + t176))) = 41 then (some (t170, t174, wrap64 ((wrap64 ((ji26) + t176)) + 1))) else (some ((⟨#[]⟩ : ByteArray), (⟨#[]⟩ : ByteArray), 0))) else (none)) else (none)))) else (none)) else (none)) = some (r1, r2, r3) := by first | (rw [hji26] at H; exact H) | (simp only [hji26] at H ⊢; exact H)
                              (try rw [hji26] at A24)
                              have hji26w : (IntKind.i64.wrap ((ji21) + t175)) = ji26 := (i64_w _).trans hji26
                              by_cases c27 : 0 ≤ (ji26)
                              · rw [if_pos c27] at H
                                have c27b0 := eq_true c27
                                have c27b1 : decide (0 ≤ (ji26)) = true := decide_eq_true c27
                                clear c27
                                by_cases c28 : (ji26) ≤ (a0.size : Int)
                                · rw [if_pos c28] at H
                                  have c28b0 := eq_true c28
                                  have c28b1 : decide ((ji26) ≤ (a0.size : Int)) = true := decide_eq_true c28
                                  clear c28
                                  replace H := Option.bind_eq_some_iff.mp H
                                  obtain ⟨t176, A290, H⟩ := H
                                  replace H : (if (wrap64 ((ji26) + t176)) ≥ (a0.size : Int) then (some ((⟨#[]⟩ : ByteArray), (⟨#[]⟩ : ByteArray), 0)) else (if 0 ≤ (wrap64 ((ji26) + t176)) then (if (wrap64 ((ji26) + t176)) < (a0.size : Int) then (if (bt a0 (wrap64 ((ji26) + t176))) = 41 then (some (t170, t174, wrap64 ((wrap64 ((ji26) + t176)) + 1))) else (some ((⟨#[]⟩ : ByteArray), (⟨#[]⟩ : ByteArray), 0))) else (none)) else (none))) = some (r1, r2, r3) := H
                                  have A29 := Aside0.mk A290
                                  clear A290
                                  by_cases c30 : (wrap64 ((ji26) + t176)) ≥ (a0.size : Int)
                                  · rw [if_pos c30] at H
                                    have c30b0 : decide ((a0.size : Int) ≤ (wrap64 ((ji26) + t176))) = true := decide_eq_true c30
                                    clear c30
                                    simp only [Option.some.injEq, Prod.mk.injEq] at H
                                    obtain ⟨rfl, rfl, rfl⟩ := H
                                    go_wp2_with (first | ((with_reducible refine gate_callee (f := 15) rfl ?_); refine goesL_ (some 51) rfl rfl Tryz.func15 (by kernel_rfl) rfl #[.string (a0.extract ((ji21) : Int).toNat a0.size)] rfl (by (try simp only [List.map_toArray, List.map_cons, List.map_nil]); first | done | (simp only [hji21]; rfl) | rfl | (simp only [List.length_drop, List.length_take]; rfl)) ?_; (with_reducible refine (incipitref09_Title.calls kj16 (a0.extract ((ji21) : Int).toNat a0.size) t174 t175 _ A24.out).mono ?_); rintro e w31 ⟨rfl, hb⟩; refine ⟨_, rfl, ?_⟩; have n0_ := Aside0.mk (below_step (by repeat (first | (with_reducible first | exact HB.out | apply below_alloc | apply pw_below_drewN | apply below_drew1) | exact HB.out)) hb); clear HB; have HB := n0_; clear n0_; (try clear hb); (try clear hb2); (try clear hk); (try clear hi)) | ((with_reducible refine gate_callee (f := 19) rfl ?_); refine goesL_ (some 66) rfl rfl Tryz.func19 (by kernel_rfl) rfl #[.string (a0.extract ((ji26) : Int).toNat a0.size)] rfl (by (try simp only [List.map_toArray, List.map_cons, List.map_nil]); first | done | (simp only [hji26]; rfl) | rfl | (simp only [List.length_drop, List.length_take]; rfl)) ?_; (with_reducible refine (incipitref09_White.calls kj16 (a0.extract ((ji26) : Int).toNat a0.size) t176 _ A29.out).mono ?_); rintro e w' ⟨rfl, ⟨nd, rfl⟩⟩; refine ⟨_, rfl, ?_⟩))
                                    go_ret3
                                    exact ⟨by first | rfl | exact retNe _ | (simp [errW_none, errW_some] <;> rfl) | (simp only [← hji9, ← hji13, ← hji21, ← hji26]; first | rfl | (simp [errW_none, errW_some] <;> rfl)) | (simp [*, errW_none, errW_some] <;> rfl), by repeat (first | (with_reducible first | exact HB.out | apply below_alloc | apply pw_below_drewN | apply below_drew1) | exact HB.out)⟩
                                  · rw [if_neg c30] at H
                                    have c30b0 : decide ((a0.size : Int) ≤ (wrap64 ((ji26) + t176))) = false := decide_eq_false c30
                                    clear c30
                                    obtain ⟨ji32, hji32⟩ : ∃ j_ : Int, (wrap64 ((ji26) + t176)) = j_ := ⟨_, rfl⟩
                                    replace H : (if 0 ≤ (ji32) then (if (ji32) < (a0.size : Int) then (if (bt a0 (ji32)) = 41 then (some (t170, t174, wrap64 ((ji32) + 1))) else (some ((⟨#[]⟩ : ByteArray), (⟨#[]⟩ : ByteArray), 0))) else (none)) else (none)) = some (r1, r2, r3) := by first | (rw [hji32] at H; exact H) | (simp only [hji32] at H ⊢; exact H)
                                    (try rw [hji32] at c30b0)
                                    (try rw [hji32] at A24)
                                    (try rw [hji32] at A29)
                                    have hji32w : (IntKind.i64.wrap ((ji26) + t176)) = ji32 := (i64_w _).trans hji32
                                    by_cases c33 : 0 ≤ (ji32)
                                    · rw [if_pos c33] at H
                                      have c33b0 : decide (0 ≤ (ji32)) = true := decide_eq_true c33
                                      clear c33
                                      by_cases c34 : (ji32) < (a0.size : Int)
                                      · rw [if_pos c34] at H
                                        have c34b0 : decide ((ji32) < (a0.size : Int)) = true := decide_eq_true c34
                                        clear c34
                                        by_cases c36 : (bt a0 (ji32)) = 41
                                        · rw [if_pos c36] at H
                                          have c36b0 : ((bt a0 (ji32)) == 41) = true := beq_iff_eq.mpr c36
                                          have c36b1 : ((bt a0 (ji32)) != 41) = false := bne_eq_false_iff_eq.mpr c36
                                          clear c36
                                          simp only [Option.some.injEq, Prod.mk.injEq] at H
                                          obtain ⟨rfl, rfl, rfl⟩ := H
                                          go_wp2_with (first | ((with_reducible refine gate_callee (f := 15) rfl ?_); refine goesL_ (some 51) rfl rfl Tryz.func15 (by kernel_rfl) rfl #[.string (a0.extract ((ji21) : Int).toNat a0.size)] rfl (by (try simp only [List.map_toArray, List.map_cons, List.map_nil]); first | done | (simp only [hji21]; rfl) | rfl | (simp only [List.length_drop, List.length_take]; rfl)) ?_; (with_reducible refine (incipitref09_Title.calls kj16 (a0.extract ((ji21) : Int).toNat a0.size) t174 t175 _ A24.out).mono ?_); rintro e w37 ⟨rfl, hb⟩; refine ⟨_, rfl, ?_⟩; have n0_ := Aside0.mk (below_step (by repeat (first | (with_reducible first | exact HB.out | apply below_alloc | apply pw_below_drewN | apply below_drew1) | exact HB.out)) hb); clear HB; have HB := n0_; clear n0_; (try clear hb); (try clear hb2); (try clear hk); (try clear hi)) | ((with_reducible refine gate_callee (f := 19) rfl ?_); refine goesL_ (some 66) rfl rfl Tryz.func19 (by kernel_rfl) rfl #[.string (a0.extract ((ji26) : Int).toNat a0.size)] rfl (by (try simp only [List.map_toArray, List.map_cons, List.map_nil]); first | done | (simp only [hji26]; rfl) | rfl | (simp only [List.length_drop, List.length_take]; rfl)) ?_; (with_reducible refine (incipitref09_White.calls kj16 (a0.extract ((ji26) : Int).toNat a0.size) t176 _ A29.out).mono ?_); rintro e w' ⟨rfl, ⟨nd, rfl⟩⟩; refine ⟨_, rfl, ?_⟩; have p35 : 0 ≤ ((ji32) : Int) := of_decide_eq_true (by first | (with_reducible assumption) | assumption); have q35 : (ji32) < (a0.size : Int) := of_decide_eq_true (by first | (with_reducible assumption) | assumption); have hx35 := bt_at a0 (ji32); replace p35 := eq_true p35; replace q35 := eq_true q35))
                                          go_ret3
                                          exact ⟨by first | rfl | exact retNe _ | (simp [errW_none, errW_some] <;> rfl) | (simp only [← hji9, ← hji13, ← hji21, ← hji26, ← hji32]; first | rfl | (simp [errW_none, errW_some] <;> rfl)) | (simp [*, errW_none, errW_some] <;> rfl), by repeat (first | (with_reducible first | exact HB.out | apply below_alloc | apply pw_below_drewN | apply below_drew1) | exact HB.out)⟩
                                        · rw [if_neg c36] at H
                                          have c36b0 : ((bt a0 (ji32)) == 41) = false := beq_eq_false_iff_ne.mpr c36
                                          have c36b1 : ((bt a0 (ji32)) != 41) = true := bne_iff_ne.mpr c36
                                          simp only [Option.some.injEq, Prod.mk.injEq] at H
                                          obtain ⟨rfl, rfl, rfl⟩ := H
                                          go_wp2_with (first | ((with_reducible refine gate_callee (f := 15) rfl ?_); refine goesL_ (some 51) rfl rfl Tryz.func15 (by kernel_rfl) rfl #[.string (a0.extract ((ji21) : Int).toNat a0.size)] rfl (by (try simp only [List.map_toArray, List.map_cons, List.map_nil]); first | done | (simp only [hji21]; rfl) | rfl | (simp only [List.length_drop, List.length_take]; rfl)) ?_; (with_reducible refine (incipitref09_Title.calls kj16 (a0.extract ((ji21) : Int).toNat a0.size) t174 t175 _ A24.out).mono ?_); rintro e w38 ⟨rfl, hb⟩; refine ⟨_, rfl, ?_⟩; have n0_ := Aside0.mk (below_step (by repeat (first | (with_reducible first | exact HB.out | apply below_alloc | apply pw_below_drewN | apply below_drew1) | exact HB.out)) hb); clear HB; have HB := n0_; clear n0_; (try clear hb); (try clear hb2); (try clear hk); (try clear hi)) | ((with_reducible refine gate_callee (f := 19) rfl ?_); refine goesL_ (some 66) rfl rfl Tryz.func19 (by kernel_rfl) rfl #[.string (a0.extract ((ji26) : Int).toNat a0.size)] rfl (by (try simp only [List.map_toArray, List.map_cons, List.map_nil]); first | done | (simp only [hji26]; rfl) | rfl | (simp only [List.length_drop, List.length_take]; rfl)) ?_; (with_reducible refine (incipitref09_White.calls kj16 (a0.extract ((ji26) : Int).toNat a0.size) t176 _ A29.out).mono ?_); rintro e w' ⟨rfl, ⟨nd, rfl⟩⟩; refine ⟨_, rfl, ?_⟩; have p35 : 0 ≤ ((ji32) : Int) := of_decide_eq_true (by first | (with_reducible assumption) | assumption); have q35 : (ji32) < (a0.size : Int) := of_decide_eq_true (by first | (with_reducible assumption) | assumption); have hx35 := bt_at a0 (ji32); replace p35 := eq_true p35; replace q35 := eq_true q35))
                                          go_ret3
                                          exact ⟨by first | rfl | exact retNe _ | (simp [errW_none, errW_some] <;> rfl) | (simp only [← hji9, ← hji13, ← hji21, ← hji26, ← hji32]; first | rfl | (simp [errW_none, errW_some] <;> rfl)) | (simp [*, errW_none, errW_some] <;> rfl), by repeat (first | (with_reducible first | exact HB.out | apply below_alloc | apply pw_below_drewN | apply below_drew1) | exact HB.out)⟩
                                      · rw [if_neg c34] at H
                                        exact absurd H (by simp)
                                    · rw [if_neg c33] at H
                                      exact absurd H (by simp)
                                · rw [if_neg c28] at H
                                  exact absurd H (by simp)
                              · rw [if_neg c27] at H
                                exact absurd H (by simp)
                            · rw [if_neg c25] at H
                              have c25b0 : decide (0 < t175) = false := decide_eq_false c25
                              clear c25
                              by_cases c39 : 0 ≤ ji13
                              · rw [if_pos c39] at H
                                have c39b0 := eq_true c39
                                have c39b1 : decide (0 ≤ ji13) = true := decide_eq_true c39
                                clear c39
                                by_cases c40 : ji13 ≤ (a0.size : Int)
                                · rw [if_pos c40] at H
                                  have c40b0 := eq_true c40
                                  have c40b1 : decide (ji13 ≤ (a0.size : Int)) = true := decide_eq_true c40
                                  clear c40
                                  replace H := Option.bind_eq_some_iff.mp H
                                  obtain ⟨t177, A410, H⟩ := H
                                  replace H : (if (wrap64 (ji13 + t177)) ≥ (a0.size : Int) then (some ((⟨#[]⟩ : ByteArray), (⟨#[]⟩ : ByteArray), 0)) else (if 0 ≤ (wrap64 (ji13 + t177)) then (if (wrap64 (ji13 + t177)) < (a0.size : Int) then (if (bt a0 (wrap64 (ji13 + t177))) = 41 then (some (t170, (⟨#[]⟩ : ByteArray), wrap64 ((wrap64 (ji13 + t177)) + 1))) else (some ((⟨#[]⟩ : ByteArray), (⟨#[]⟩ : ByteArray), 0))) else (none)) else (none))) = some (r1, r2, r3) := H
                                  have A41 := Aside0.mk A410
                                  clear A410
                                  by_cases c42 : (wrap64 (ji13 + t177)) ≥ (a0.size : Int)
                                  · rw [if_pos c42] at H
                                    have c42b0 : decide ((a0.size : Int) ≤ (wrap64 (ji13 + t177))) = true := decide_eq_true c42
                                    clear c42
                                    simp only [Option.some.injEq, Prod.mk.injEq] at H
                                    obtain ⟨rfl, rfl, rfl⟩ := H
                                    go_wp2_with (first | ((with_reducible refine gate_callee (f := 15) rfl ?_); refine goesL_ (some 51) rfl rfl Tryz.func15 (by kernel_rfl) rfl #[.string (a0.extract ((ji21) : Int).toNat a0.size)] rfl (by (try simp only [List.map_toArray, List.map_cons, List.map_nil]); first | done | (simp only [hji21]; rfl) | rfl | (simp only [List.length_drop, List.length_take]; rfl)) ?_; (with_reducible refine (incipitref09_Title.calls kj16 (a0.extract ((ji21) : Int).toNat a0.size) t174 t175 _ A24.out).mono ?_); rintro e w43 ⟨rfl, hb⟩; refine ⟨_, rfl, ?_⟩; have n0_ := Aside0.mk (below_step (by repeat (first | (with_reducible first | exact HB.out | apply below_alloc | apply pw_below_drewN | apply below_drew1) | exact HB.out)) hb); clear HB; have HB := n0_; clear n0_; (try clear hb); (try clear hb2); (try clear hk); (try clear hi)) | ((with_reducible refine gate_callee (f := 19) rfl ?_); refine goesL_ (some 66) rfl rfl Tryz.func19 (by kernel_rfl) rfl #[.string (a0.extract (ji13 : Int).toNat a0.size)] rfl (by (try simp only [List.map_toArray, List.map_cons, List.map_nil]); first | done | (simp only [hji13]; rfl) | rfl | (simp only [List.length_drop, List.length_take]; rfl)) ?_; (with_reducible refine (incipitref09_White.calls kj16 (a0.extract (ji13 : Int).toNat a0.size) t177 _ A41.out).mono ?_); rintro e w' ⟨rfl, ⟨nd, rfl⟩⟩; refine ⟨_, rfl, ?_⟩))
                                    go_ret3
                                    exact ⟨by first | rfl | exact retNe _ | (simp [errW_none, errW_some] <;> rfl) | (simp only [← hji9, ← hji13, ← hji21]; first | rfl | (simp [errW_none, errW_some] <;> rfl)) | (simp [*, errW_none, errW_some] <;> rfl), by repeat (first | (with_reducible first | exact HB.out | apply below_alloc | apply pw_below_drewN | apply below_drew1) | exact HB.out)⟩
                                  · rw [if_neg c42] at H
                                    have c42b0 : decide ((a0.size : Int) ≤ (wrap64 (ji13 + t177))) = false := decide_eq_false c42
                                    clear c42
                                    obtain ⟨ji44, hji44⟩ : ∃ j_ : Int, (wrap64 (ji13 + t177)) = j_ := ⟨_, rfl⟩
                                    replace H : (if 0 ≤ (ji44) then (if (ji44) < (a0.size : Int) then (if (bt a0 (ji44)) = 41 then (some (t170, (⟨#[]⟩ : ByteArray), wrap64 ((ji44) + 1))) else (some ((⟨#[]⟩ : ByteArray), (⟨#[]⟩ : ByteArray), 0))) else (none)) else (none)) = some (r1, r2, r3) := by first | (rw [hji44] at H; exact H) | (simp only [hji44] at H ⊢; exact H)
                                    (try rw [hji44] at c42b0)
                                    (try rw [hji44] at A24)
                                    (try rw [hji44] at A41)
                                    have hji44w : (IntKind.i64.wrap (ji13 + t177)) = ji44 := (i64_w _).trans hji44
                                    by_cases c45 : 0 ≤ (ji44)
                                    · rw [if_pos c45] at H
                                      have c45b0 : decide (0 ≤ (ji44)) = true := decide_eq_true c45
                                      clear c45
                                      by_cases c46 : (ji44) < (a0.size : Int)
                                      · rw [if_pos c46] at H
                                        have c46b0 : decide ((ji44) < (a0.size : Int)) = true := decide_eq_true c46
                                        clear c46
                                        by_cases c48 : (bt a0 (ji44)) = 41
                                        · rw [if_pos c48] at H
                                          have c48b0 : ((bt a0 (ji44)) == 41) = true := beq_iff_eq.mpr c48
                                          have c48b1 : ((bt a0 (ji44)) != 41) = false := bne_eq_false_iff_eq.mpr c48
                                          clear c48
                                          simp only [Option.some.injEq, Prod.mk.injEq] at H
                                          obtain ⟨rfl, rfl, rfl⟩ := H
                                          go_wp2_with (first | ((with_reducible refine gate_callee (f := 15) rfl ?_); refine goesL_ (some 51) rfl rfl Tryz.func15 (by kernel_rfl) rfl #[.string (a0.extract ((ji21) : Int).toNat a0.size)] rfl (by (try simp only [List.map_toArray, List.map_cons, List.map_nil]); first | done | (simp only [hji21]; rfl) | rfl | (simp only [List.length_drop, List.length_take]; rfl)) ?_; (with_reducible refine (incipitref09_Title.calls kj16 (a0.extract ((ji21) : Int).toNat a0.size) t174 t175 _ A24.out).mono ?_); rintro e w49 ⟨rfl, hb⟩; refine ⟨_, rfl, ?_⟩; have n0_ := Aside0.mk (below_step (by repeat (first | (with_reducible first | exact HB.out | apply below_alloc | apply pw_below_drewN | apply below_drew1) | exact HB.out)) hb); clear HB; have HB := n0_; clear n0_; (try clear hb); (try clear hb2); (try clear hk); (try clear hi)) | ((with_reducible refine gate_callee (f := 19) rfl ?_); refine goesL_ (some 66) rfl rfl Tryz.func19 (by kernel_rfl) rfl #[.string (a0.extract (ji13 : Int).toNat a0.size)] rfl (by (try simp only [List.map_toArray, List.map_cons, List.map_nil]); first | done | (simp only [hji13]; rfl) | rfl | (simp only [List.length_drop, List.length_take]; rfl)) ?_; (with_reducible refine (incipitref09_White.calls kj16 (a0.extract (ji13 : Int).toNat a0.size) t177 _ A41.out).mono ?_); rintro e w' ⟨rfl, ⟨nd, rfl⟩⟩; refine ⟨_, rfl, ?_⟩; have p47 : 0 ≤ ((ji44) : Int) := of_decide_eq_true (by first | (with_reducible assumption) | assumption); have q47 : (ji44) < (a0.size : Int) := of_decide_eq_true (by first | (with_reducible assumption) | assumption); have hx47 := bt_at a0 (ji44); replace p47 := eq_true p47; replace q47 := eq_true q47))
                                          go_ret3
                                          exact ⟨by first | rfl | exact retNe _ | (simp [errW_none, errW_some] <;> rfl) | (simp only [← hji9, ← hji13, ← hji21, ← hji44]; first | rfl | (simp [errW_none, errW_some] <;> rfl)) | (simp [*, errW_none, errW_some] <;> rfl), by repeat (first | (with_reducible first | exact HB.out | apply below_alloc | apply pw_below_drewN | apply below_drew1) | exact HB.out)⟩
                                        · rw [if_neg c48] at H
                                          have c48b0 : ((bt a0 (ji44)) == 41) = false := beq_eq_false_iff_ne.mpr c48
                                          have c48b1 : ((bt a0 (ji44)) != 41) = true := bne_iff_ne.mpr c48
                                          simp only [Option.some.injEq, Prod.mk.injEq] at H
                                          obtain ⟨rfl, rfl, rfl⟩ := H
                                          go_wp2_with (first | ((with_reducible refine gate_callee (f := 15) rfl ?_); refine goesL_ (some 51) rfl rfl Tryz.func15 (by kernel_rfl) rfl #[.string (a0.extract ((ji21) : Int).toNat a0.size)] rfl (by (try simp only [List.map_toArray, List.map_cons, List.map_nil]); first | done | (simp only [hji21]; rfl) | rfl | (simp only [List.length_drop, List.length_take]; rfl)) ?_; (with_reducible refine (incipitref09_Title.calls kj16 (a0.extract ((ji21) : Int).toNat a0.size) t174 t175 _ A24.out).mono ?_); rintro e w50 ⟨rfl, hb⟩; refine ⟨_, rfl, ?_⟩; have n0_ := Aside0.mk (below_step (by repeat (first | (with_reducible first | exact HB.out | apply below_alloc | apply pw_below_drewN | apply below_drew1) | exact HB.out)) hb); clear HB; have HB := n0_; clear n0_; (try clear hb); (try clear hb2); (try clear hk); (try clear hi)) | ((with_reducible refine gate_callee (f := 19) rfl ?_); refine goesL_ (some 66) rfl rfl Tryz.func19 (by kernel_rfl) rfl #[.string (a0.extract (ji13 : Int).toNat a0.size)] rfl (by (try simp only [List.map_toArray, List.map_cons, List.map_nil]); first | done | (simp only [hji13]; rfl) | rfl | (simp only [List.length_drop, List.length_take]; rfl)) ?_; (with_reducible refine (incipitref09_White.calls kj16 (a0.extract (ji13 : Int).toNat a0.size) t177 _ A41.out).mono ?_); rintro e w' ⟨rfl, ⟨nd, rfl⟩⟩; refine ⟨_, rfl, ?_⟩; have p47 : 0 ≤ ((ji44) : Int) := of_decide_eq_true (by first | (with_reducible assumption) | assumption); have q47 : (ji44) < (a0.size : Int) := of_decide_eq_true (by first | (with_reducible assumption) | assumption); have hx47 := bt_at a0 (ji44); replace p47 := eq_true p47; replace q47 := eq_true q47))
                                          go_ret3
                                          exact ⟨by first | rfl | exact retNe _ | (simp [errW_none, errW_some] <;> rfl) | (simp only [← hji9, ← hji13, ← hji21, ← hji44]; first | rfl | (simp [errW_none, errW_some] <;> rfl)) | (simp [*, errW_none, errW_some] <;> rfl), by repeat (first | (with_reducible first | exact HB.out | apply below_alloc | apply pw_below_drewN | apply below_drew1) | exact HB.out)⟩
                                      · rw [if_neg c46] at H
                                        exact absurd H (by simp)
                                    · rw [if_neg c45] at H
                                      exact absurd H (by simp)
                                · rw [if_neg c40] at H
                                  exact absurd H (by simp)
                              · rw [if_neg c39] at H
                                exact absurd H (by simp)
                          · rw [if_neg c23] at H
                            exact absurd H (by simp)
                        · rw [if_neg c22] at H
                          exact absurd H (by simp)
                      · replace c20 := Bool.eq_false_iff.mpr c20
                        subst c20
                        have H1 : (if 0 ≤ ji13 then (if ji13 ≤ (a0.size : Int) then ((incipitref09_White.f kj16 (a0.extract (ji13 : Int).toNat a0.size)).bind fun t178 => (if (wrap64 (ji13 + t178)) ≥ (a0.size : Int) then (some ((⟨#[]⟩ : ByteArray), (⟨#[]⟩ : ByteArray), 0)) else (if 0 ≤ (wrap64 (ji13 + t178)) then (if (wrap64 (ji13 + t178)) < (a0.size : Int) then (if (bt a0 (wrap64 (ji13 + t178))) = 41 then (some (t170, (⟨#[]⟩ : ByteArray), wrap64 ((wrap64 (ji13 + t178)) + 1))) else (some ((⟨#[]⟩ : ByteArray), (⟨#[]⟩ : ByteArray), 0))) else (none)) else (none)))) else (none)) else (none)) = some (r1, r2, r3) := by rw [if_neg (show ¬ (false = true) by decide)] at H; exact H
                        clear H
                        have H := H1
                        clear H1
                        by_cases c51 : 0 ≤ ji13
                        · rw [if_pos c51] at H
                          have c51b0 := eq_true c51
                          have c51b1 : decide (0 ≤ ji13) = true := decide_eq_true c51
                          clear c51
                          by_cases c52 : ji13 ≤ (a0.size : Int)
                          · rw [if_pos c52] at H
                            have c52b0 := eq_true c52
                            have c52b1 : decide (ji13 ≤ (a0.size : Int)) = true := decide_eq_true c52
                            clear c52
                            replace H := Option.bind_eq_some_iff.mp H
                            obtain ⟨t178, A530, H⟩ := H
                            replace H : (if (wrap64 (ji13 + t178)) ≥ (a0.size : Int) then (some ((⟨#[]⟩ : ByteArray), (⟨#[]⟩ : ByteArray), 0)) else (if 0 ≤ (wrap64 (ji13 + t178)) then (if (wrap64 (ji13 + t178)) < (a0.size : Int) then (if (bt a0 (wrap64 (ji13 + t178))) = 41 then (some (t170, (⟨#[]⟩ : ByteArray), wrap64 ((wrap64 (ji13 + t178)) + 1))) else (some ((⟨#[]⟩ : ByteArray), (⟨#[]⟩ : ByteArray), 0))) else (none)) else (none))) = some (r1, r2, r3) := H
                            have A53 := Aside0.mk A530
                            clear A530
                            by_cases c54 : (wrap64 (ji13 + t178)) ≥ (a0.size : Int)
                            · rw [if_pos c54] at H
                              have c54b0 : decide ((a0.size : Int) ≤ (wrap64 (ji13 + t178))) = true := decide_eq_true c54
                              clear c54
                              simp only [Option.some.injEq, Prod.mk.injEq] at H
                              obtain ⟨rfl, rfl, rfl⟩ := H
                              go_wp2_with (first | ((with_reducible refine gate_callee (f := 19) rfl ?_); refine goesL_ (some 66) rfl rfl Tryz.func19 (by kernel_rfl) rfl #[.string (a0.extract (ji13 : Int).toNat a0.size)] rfl (by (try simp only [List.map_toArray, List.map_cons, List.map_nil]); first | done | (simp only [hji13]; rfl) | rfl | (simp only [List.length_drop, List.length_take]; rfl)) ?_; (with_reducible refine (incipitref09_White.calls kj16 (a0.extract (ji13 : Int).toNat a0.size) t178 _ A53.out).mono ?_); rintro e w' ⟨rfl, ⟨nd, rfl⟩⟩; refine ⟨_, rfl, ?_⟩))
                              go_ret3
                              exact ⟨by first | rfl | exact retNe _ | (simp [errW_none, errW_some] <;> rfl) | (simp only [← hji9, ← hji13]; first | rfl | (simp [errW_none, errW_some] <;> rfl)) | (simp [*, errW_none, errW_some] <;> rfl), by repeat (first | (with_reducible first | exact HB.out | apply below_alloc | apply pw_below_drewN | apply below_drew1) | exact HB.out)⟩
                            · rw [if_neg c54] at H
                              have c54b0 : decide ((a0.size : Int) ≤ (wrap64 (ji13 + t178))) = false := decide_eq_false c54
                              clear c54
                              obtain ⟨ji55, hji55⟩ : ∃ j_ : Int, (wrap64 (ji13 + t178)) = j_ := ⟨_, rfl⟩
                              replace H : (if 0 ≤ (ji55) then (if (ji55) < (a0.size : Int) then (if (bt a0 (ji55)) = 41 then (some (t170, (⟨#[]⟩ : ByteArray), wrap64 ((ji55) + 1))) else (some ((⟨#[]⟩ : ByteArray), (⟨#[]⟩ : ByteArray), 0))) else (none)) else (none)) = some (r1, r2, r3) := by first | (rw [hji55] at H; exact H) | (simp only [hji55] at H ⊢; exact H)
                              (try rw [hji55] at c54b0)
                              (try rw [hji55] at A53)
                              have hji55w : (IntKind.i64.wrap (ji13 + t178)) = ji55 := (i64_w _).trans hji55
                              by_cases c56 : 0 ≤ (ji55)
                              · rw [if_pos c56] at H
                                have c56b0 : decide (0 ≤ (ji55)) = true := decide_eq_true c56
                                clear c56
                                by_cases c57 : (ji55) < (a0.size : Int)
                                · rw [if_pos c57] at H
                                  have c57b0 : decide ((ji55) < (a0.size : Int)) = true := decide_eq_true c57
                                  clear c57
                                  by_cases c59 : (bt a0 (ji55)) = 41
                                  · rw [if_pos c59] at H
                                    have c59b0 : ((bt a0 (ji55)) == 41) = true := beq_iff_eq.mpr c59
                                    have c59b1 : ((bt a0 (ji55)) != 41) = false := bne_eq_false_iff_eq.mpr c59
                                    clear c59
                                    simp only [Option.some.injEq, Prod.mk.injEq] at H
                                    obtain ⟨rfl, rfl, rfl⟩ := H
                                    go_wp2_with (first | ((with_reducible refine gate_callee (f := 19) rfl ?_); refine goesL_ (some 66) rfl rfl Tryz.func19 (by kernel_rfl) rfl #[.string (a0.extract (ji13 : Int).toNat a0.size)] rfl (by (try simp only [List.map_toArray, List.map_cons, List.map_nil]); first | done | (simp only [hji13]; rfl) | rfl | (simp only [List.length_drop, List.length_take]; rfl)) ?_; (with_reducible refine (incipitref09_White.calls kj16 (a0.extract (ji13 : Int).toNat a0.size) t178 _ A53.out).mono ?_); rintro e w' ⟨rfl, ⟨nd, rfl⟩⟩; refine ⟨_, rfl, ?_⟩; have p58 : 0 ≤ ((ji55) : Int) := of_decide_eq_true (by first | (with_reducible assumption) | assumption); have q58 : (ji55) < (a0.size : Int) := of_decide_eq_true (by first | (with_reducible assumption) | assumption); have hx58 := bt_at a0 (ji55); replace p58 := eq_true p58; replace q58 := eq_true q58))
                                    go_ret3
                                    exact ⟨by first | rfl | exact retNe _ | (simp [errW_none, errW_some] <;> rfl) | (simp only [← hji9, ← hji13, ← hji55]; first | rfl | (simp [errW_none, errW_some] <;> rfl)) | (simp [*, errW_none, errW_some] <;> rfl), by repeat (first | (with_reducible first | exact HB.out | apply below_alloc | apply pw_below_drewN | apply below_drew1) | exact HB.out)⟩
                                  · rw [if_neg c59] at H
                                    have c59b0 : ((bt a0 (ji55)) == 41) = false := beq_eq_false_iff_ne.mpr c59
                                    have c59b1 : ((bt a0 (ji55)) != 41) = true := bne_iff_ne.mpr c59
                                    simp only [Option.some.injEq, Prod.mk.injEq] at H
                                    obtain ⟨rfl, rfl, rfl⟩ := H
                                    go_wp2_with (first | ((with_reducible refine gate_callee (f := 19) rfl ?_); refine goesL_ (some 66) rfl rfl Tryz.func19 (by kernel_rfl) rfl #[.string (a0.extract (ji13 : Int).toNat a0.size)] rfl (by (try simp only [List.map_toArray, List.map_cons, List.map_nil]); first | done | (simp only [hji13]; rfl) | rfl | (simp only [List.length_drop, List.length_take]; rfl)) ?_; (with_reducible refine (incipitref09_White.calls kj16 (a0.extract (ji13 : Int).toNat a0.size) t178 _ A53.out).mono ?_); rintro e w' ⟨rfl, ⟨nd, rfl⟩⟩; refine ⟨_, rfl, ?_⟩; have p58 : 0 ≤ ((ji55) : Int) := of_decide_eq_true (by first | (with_reducible assumption) | assumption); have q58 : (ji55) < (a0.size : Int) := of_decide_eq_true (by first | (with_reducible assumption) | assumption); have hx58 := bt_at a0 (ji55); replace p58 := eq_true p58; replace q58 := eq_true q58))
                                    go_ret3
                                    exact ⟨by first | rfl | exact retNe _ | (simp [errW_none, errW_some] <;> rfl) | (simp only [← hji9, ← hji13, ← hji55]; first | rfl | (simp [errW_none, errW_some] <;> rfl)) | (simp [*, errW_none, errW_some] <;> rfl), by repeat (first | (with_reducible first | exact HB.out | apply below_alloc | apply pw_below_drewN | apply below_drew1) | exact HB.out)⟩
                                · rw [if_neg c57] at H
                                  exact absurd H (by simp)
                              · rw [if_neg c56] at H
                                exact absurd H (by simp)
                          · rw [if_neg c52] at H
                            exact absurd H (by simp)
                        · rw [if_neg c51] at H
                          exact absurd H (by simp)
                · rw [if_neg c15] at H
                  exact absurd H (by simp)
              · rw [if_neg c14] at H
                exact absurd H (by simp)
            · rw [if_neg c11] at H
              exact absurd H (by simp)
          · rw [if_neg c10] at H
            exact absurd H (by simp)
        · rw [if_neg c7] at H
          exact absurd H (by simp)

/-! ### incipitlaw09_LinkReads: function 3 -/
def incipitlaw09_LinkReads.f (k : Nat) (a0 : ByteArray) : Option (Bool) := (incipitlaw09_awake.f k).bind fun t179 => (if (a0.size : Int) > 2000 then (some t179) else ((link_Label.f a0).bind fun bt180 => ((incipitref09_Label.f k a0).bind fun bt182 => ((link_Dest.f a0).bind fun bt184 => ((incipitref09_Dest.f k a0).bind fun bt187 => ((link_Title.f a0).bind fun bt190 => ((incipitref09_Title.f k a0).bind fun bt192 => ((link_Tail.f k a0).bind fun bt194 => ((incipitref09_Tail.f k a0).bind fun bt197 => (if t179 = true then (if bt180.1.toList = bt182.1.toList then (if bt180.2 = bt182.2 then (if bt184.1.toList = bt187.1.toList then (if bt184.2.1 = bt187.2.1 then (if (bt184.2.2 == bt187.2.2) = true then (if bt190.1.toList = bt192.1.toList then (if bt190.2 = bt192.2 then (if bt194.1.toList = bt197.1.toList then (if bt194.2.1.toList = bt197.2.1.toList then (if bt194.2.2 = bt197.2.2 then ((link_White.f a0).bind fun t200 => ((incipitref09_White.f k a0).bind fun t201 => (some (t200 == t201)))) else (none)) else (none)) else (none)) else (none)) else (none)) else (none)) else (none)) else (none)) else (none)) else (none)) else (none)))))))))))
set_option maxHeartbeats 8000000 in
set_option maxRecDepth 100000 in
theorem incipitlaw09_LinkReads.calls (k : Nat) (a0 : ByteArray) (r : Bool) (w : World) (hLd : Laid w) (h : incipitlaw09_LinkReads.f k a0 = some r) :
    Calls Tryz.prog 3 #[.string a0] w fun e w' => e = .returned (.bool r) ∧ Below w.heap.size w w' := by
  have HB := Aside0.mk (Below.refl w.heap.size w)
  have H : ((incipitlaw09_awake.f k).bind fun t179 => (if (a0.size : Int) > 2000 then (some t179) else ((link_Label.f a0).bind fun bt180 => ((incipitref09_Label.f k a0).bind fun bt182 => ((link_Dest.f a0).bind fun bt184 => ((incipitref09_Dest.f k a0).bind fun bt187 => ((link_Title.f a0).bind fun bt190 => ((incipitref09_Title.f k a0).bind fun bt192 => ((link_Tail.f k a0).bind fun bt194 => ((incipitref09_Tail.f k a0).bind fun bt197 => (if t179 = true then (if bt180.1.toList = bt182.1.toList then (if bt180.2 = bt182.2 then (if bt184.1.toList = bt187.1.toList then (if bt184.2.1 = bt187.2.1 then (if (bt184.2.2 == bt187.2.2) = true then (if bt190.1.toList = bt192.1.toList then (if bt190.2 = bt192.2 then (if bt194.1.toList = bt197.1.toList then (if bt194.2.1.toList = bt197.2.1.toList then (if bt194.2.2 = bt197.2.2 then ((link_White.f a0).bind fun t200 => ((incipitref09_White.f k a0).bind fun t201 => (some (t200 == t201)))) else (none)) else (none)) else (none)) else (none)) else (none)) else (none)) else (none)) else (none)) else (none)) else (none)) else (none)))))))))))) = some r := h
  clear h
  replace H := Option.bind_eq_some_iff.mp H
  obtain ⟨t179, A20, H⟩ := H
  replace H : (if (a0.size : Int) > 2000 then (some t179) else ((link_Label.f a0).bind fun bt180 => ((incipitref09_Label.f k a0).bind fun bt182 => ((link_Dest.f a0).bind fun bt184 => ((incipitref09_Dest.f k a0).bind fun bt187 => ((link_Title.f a0).bind fun bt190 => ((incipitref09_Title.f k a0).bind fun bt192 => ((link_Tail.f k a0).bind fun bt194 => ((incipitref09_Tail.f k a0).bind fun bt197 => (if t179 = true then (if bt180.1.toList = bt182.1.toList then (if bt180.2 = bt182.2 then (if bt184.1.toList = bt187.1.toList then (if bt184.2.1 = bt187.2.1 then (if (bt184.2.2 == bt187.2.2) = true then (if bt190.1.toList = bt192.1.toList then (if bt190.2 = bt192.2 then (if bt194.1.toList = bt197.1.toList then (if bt194.2.1.toList = bt197.2.1.toList then (if bt194.2.2 = bt197.2.2 then ((link_White.f a0).bind fun t200 => ((incipitref09_White.f k a0).bind fun t201 => (some (t200 == t201)))) else (none)) else (none)) else (none)) else (none)) else (none)) else (none)) else (none)) else (none)) else (none)) else (none)) else (none))))))))))) = some r := H
  have A2 := Aside0.mk A20
  clear A20
  by_cases c3 : (a0.size : Int) > 2000
  · rw [if_pos c3] at H
    have c3b0 : decide (2000 < (a0.size : Int)) = true := decide_eq_true c3
    have c3b1 : decide (2000 < a0.size) = true := decide_eq_true (by omega)
    clear c3
    obtain rfl := Option.some.inj H
    go_enter Tryz.func3, Tryz.ntmps3
    go_wp2_with (first | ((with_reducible refine gate_callee (f := 9) rfl ?_); refine goesL_ (some 24) rfl rfl Tryz.func9 (by kernel_rfl) rfl #[] rfl (by (try simp only [List.map_toArray, List.map_cons, List.map_nil]); first | done | rfl | (simp only [List.length_drop, List.length_take]; rfl)) ?_; (with_reducible refine (incipitlaw09_awake.calls k  t179 _ ?side1 A2.out).mono ?_); (case side1 => exact Laid.go hLd (by repeat (first | (with_reducible first | exact HB.out | apply below_alloc | apply pw_below_drewN | apply below_drew1) | exact HB.out))); rintro e w4 ⟨rfl, hb⟩; refine ⟨_, rfl, ?_⟩; have n0_ := Aside0.mk (below_step (by repeat (first | (with_reducible first | exact HB.out | apply below_alloc | apply pw_below_drewN | apply below_drew1) | exact HB.out)) hb); clear HB; have HB := n0_; clear n0_; (try clear hb); (try clear hb2); (try clear hk); (try clear hi)))
    go_ret
    exact ⟨by first | rfl | exact retNe _ | (simp [errW_none, errW_some] <;> rfl) | (simp [*, errW_none, errW_some] <;> rfl), by repeat (first | (with_reducible first | exact HB.out | apply below_alloc | apply pw_below_drewN | apply below_drew1) | exact HB.out)⟩
  · rw [if_neg c3] at H
    have c3b0 : decide (2000 < (a0.size : Int)) = false := decide_eq_false c3
    have c3b1 : decide (2000 < a0.size) = false := decide_eq_false (by omega)
    clear c3
    replace H := Option.bind_eq_some_iff.mp H
    obtain ⟨⟨t180, t181⟩, A50, H⟩ := H
    replace H : ((incipitref09_Label.f k a0).bind fun bt182 => ((link_Dest.f a0).bind fun bt184 => ((incipitref09_Dest.f k a0).bind fun bt187 => ((link_Title.f a0).bind fun bt190 => ((incipitref09_Title.f k a0).bind fun bt192 => ((link_Tail.f k a0).bind fun bt194 => ((incipitref09_Tail.f k a0).bind fun bt197 => (if t179 = true then (if t180.toList = bt182.1.toList then (if t181 = bt182.2 then (if bt184.1.toList = bt187.1.toList then (if bt184.2.1 = bt187.2.1 then (if (bt184.2.2 == bt187.2.2) = true then (if bt190.1.toList = bt192.1.toList then (if bt190.2 = bt192.2 then (if bt194.1.toList = bt197.1.toList then (if bt194.2.1.toList = bt197.2.1.toList then (if bt194.2.2 = bt197.2.2 then ((link_White.f a0).bind fun t200 => ((incipitref09_White.f k a0).bind fun t201 => (some (t200 == t201)))) else (none)) else (none)) else (none)) else (none)) else (none)) else (none)) else (none)) else (none)) else (none)) else (none)) else (none))))))))) = some r := H
    have A5 := Aside0.mk A50
    clear A50
    replace H := Option.bind_eq_some_iff.mp H
    obtain ⟨⟨t182, t183⟩, A60, H⟩ := H
    replace H : ((link_Dest.f a0).bind fun bt184 => ((incipitref09_Dest.f k a0).bind fun bt187 => ((link_Title.f a0).bind fun bt190 => ((incipitref09_Title.f k a0).bind fun bt192 => ((link_Tail.f k a0).bind fun bt194 => ((incipitref09_Tail.f k a0).bind fun bt197 => (if t179 = true then (if t180.toList = t182.toList then (if t181 = t183 then (if bt184.1.toList = bt187.1.toList then (if bt184.2.1 = bt187.2.1 then (if (bt184.2.2 == bt187.2.2) = true then (if bt190.1.toList = bt192.1.toList then (if bt190.2 = bt192.2 then (if bt194.1.toList = bt197.1.toList then (if bt194.2.1.toList = bt197.2.1.toList then (if bt194.2.2 = bt197.2.2 then ((link_White.f a0).bind fun t200 => ((incipitref09_White.f k a0).bind fun t201 => (some (t200 == t201)))) else (none)) else (none)) else (none)) else (none)) else (none)) else (none)) else (none)) else (none)) else (none)) else (none)) else (none)))))))) = some r := H
    have A6 := Aside0.mk A60
    clear A60
    replace H := Option.bind_eq_some_iff.mp H
    obtain ⟨⟨t184, t185, t186⟩, A70, H⟩ := H
    replace H : ((incipitref09_Dest.f k a0).bind fun bt187 => ((link_Title.f a0).bind fun bt190 => ((incipitref09_Title.f k a0).bind fun bt192 => ((link_Tail.f k a0).bind fun bt194 => ((incipitref09_Tail.f k a0).bind fun bt197 => (if t179 = true then (if t180.toList = t182.toList then (if t181 = t183 then (if t184.toList = bt187.1.toList then (if t185 = bt187.2.1 then (if (t186 == bt187.2.2) = true then (if bt190.1.toList = bt192.1.toList then (if bt190.2 = bt192.2 then (if bt194.1.toList = bt197.1.toList then (if bt194.2.1.toList = bt197.2.1.toList then (if bt194.2.2 = bt197.2.2 then ((link_White.f a0).bind fun t200 => ((incipitref09_White.f k a0).bind fun t201 => (some (t200 == t201)))) else (none)) else (none)) else (none)) else (none)) else (none)) else (none)) else (none)) else (none)) else (none)) else (none)) else (none))))))) = some r := H
    have A7 := Aside0.mk A70
    clear A70
    replace H := Option.bind_eq_some_iff.mp H
    obtain ⟨⟨t187, t188, t189⟩, A80, H⟩ := H
    replace H : ((link_Title.f a0).bind fun bt190 => ((incipitref09_Title.f k a0).bind fun bt192 => ((link_Tail.f k a0).bind fun bt194 => ((incipitref09_Tail.f k a0).bind fun bt197 => (if t179 = true then (if t180.toList = t182.toList then (if t181 = t183 then (if t184.toList = t187.toList then (if t185 = t188 then (if (t186 == t189) = true then (if bt190.1.toList = bt192.1.toList then (if bt190.2 = bt192.2 then (if bt194.1.toList = bt197.1.toList then (if bt194.2.1.toList = bt197.2.1.toList then (if bt194.2.2 = bt197.2.2 then ((link_White.f a0).bind fun t200 => ((incipitref09_White.f k a0).bind fun t201 => (some (t200 == t201)))) else (none)) else (none)) else (none)) else (none)) else (none)) else (none)) else (none)) else (none)) else (none)) else (none)) else (none)))))) = some r := H
    have A8 := Aside0.mk A80
    clear A80
    replace H := Option.bind_eq_some_iff.mp H
    obtain ⟨⟨t190, t191⟩, A90, H⟩ := H
    replace H : ((incipitref09_Title.f k a0).bind fun bt192 => ((link_Tail.f k a0).bind fun bt194 => ((incipitref09_Tail.f k a0).bind fun bt197 => (if t179 = true then (if t180.toList = t182.toList then (if t181 = t183 then (if t184.toList = t187.toList then (if t185 = t188 then (if (t186 == t189) = true then (if t190.toList = bt192.1.toList then (if t191 = bt192.2 then (if bt194.1.toList = bt197.1.toList then (if bt194.2.1.toList = bt197.2.1.toList then (if bt194.2.2 = bt197.2.2 then ((link_White.f a0).bind fun t200 => ((incipitref09_White.f k a0).bind fun t201 => (some (t200 == t201)))) else (none)) else (none)) else (none)) else (none)) else (none)) else (none)) else (none)) else (none)) else (none)) else (none)) else (none))))) = some r := H
    have A9 := Aside0.mk A90
    clear A90
    replace H := Option.bind_eq_some_iff.mp H
    obtain ⟨⟨t192, t193⟩, A100, H⟩ := H
    replace H : ((link_Tail.f k a0).bind fun bt194 => ((incipitref09_Tail.f k a0).bind fun bt197 => (if t179 = true then (if t180.toList = t182.toList then (if t181 = t183 then (if t184.toList = t187.toList then (if t185 = t188 then (if (t186 == t189) = true then (if t190.toList = t192.toList then (if t191 = t193 then (if bt194.1.toList = bt197.1.toList then (if bt194.2.1.toList = bt197.2.1.toList then (if bt194.2.2 = bt197.2.2 then ((link_White.f a0).bind fun t200 => ((incipitref09_White.f k a0).bind fun t201 => (some (t200 == t201)))) else (none)) else (none)) else (none)) else (none)) else (none)) else (none)) else (none)) else (none)) else (none)) else (none)) else (none)))) = some r := H
    have A10 := Aside0.mk A100
    clear A100
    replace H := Option.bind_eq_some_iff.mp H
    obtain ⟨⟨t194, t195, t196⟩, A110, H⟩ := H
    replace H : ((incipitref09_Tail.f k a0).bind fun bt197 => (if t179 = true then (if t180.toList = t182.toList then (if t181 = t183 then (if t184.toList = t187.toList then (if t185 = t188 then (if (t186 == t189) = true then (if t190.toList = t192.toList then (if t191 = t193 then (if t194.toList = bt197.1.toList then (if t195.toList = bt197.2.1.toList then (if t196 = bt197.2.2 then ((link_White.f a0).bind fun t200 => ((incipitref09_White.f k a0).bind fun t201 => (some (t200 == t201)))) else (none)) else (none)) else (none)) else (none)) else (none)) else (none)) else (none)) else (none)) else (none)) else (none)) else (none))) = some r := H
    have A11 := Aside0.mk A110
    clear A110
    replace H := Option.bind_eq_some_iff.mp H
    obtain ⟨⟨t197, t198, t199⟩, A120, H⟩ := H
    replace H : (if t179 = true then (if t180.toList = t182.toList then (if t181 = t183 then (if t184.toList = t187.toList then (if t185 = t188 then (if (t186 == t189) = true then (if t190.toList = t192.toList then (if t191 = t193 then (if t194.toList = t197.toList then (if t195.toList = t198.toList then (if t196 = t199 then ((link_White.f a0).bind fun t200 => ((incipitref09_White.f k a0).bind fun t201 => (some (t200 == t201)))) else (none)) else (none)) else (none)) else (none)) else (none)) else (none)) else (none)) else (none)) else (none)) else (none)) else (none)) = some r := H
    have A12 := Aside0.mk A120
    clear A120
    by_cases c13 : t179 = true
    · subst c13
      have H1 : (if t180.toList = t182.toList then (if t181 = t183 then (if t184.toList = t187.toList then (if t185 = t188 then (if (t186 == t189) = true then (if t190.toList = t192.toList then (if t191 = t193 then (if t194.toList = t197.toList then (if t195.toList = t198.toList then (if t196 = t199 then ((link_White.f a0).bind fun t200 => ((incipitref09_White.f k a0).bind fun t201 => (some (t200 == t201)))) else (none)) else (none)) else (none)) else (none)) else (none)) else (none)) else (none)) else (none)) else (none)) else (none)) = some r := by rw [if_pos rfl] at H; exact H
      clear H
      have H := H1
      clear H1
      by_cases c14 : t180.toList = t182.toList
      · rw [if_pos c14] at H
        have c14b0 : (t180.toList == t182.toList) = true := beq_iff_eq.mpr c14
        have c14b1 : (t180.toList != t182.toList) = false := bne_eq_false_iff_eq.mpr c14
        clear c14
        by_cases c15 : t181 = t183
        · rw [if_pos c15] at H
          have c15b0 : (t181 == t183) = true := beq_iff_eq.mpr c15
          have c15b1 : (t181 != t183) = false := bne_eq_false_iff_eq.mpr c15
          clear c15
          by_cases c16 : t184.toList = t187.toList
          · rw [if_pos c16] at H
            have c16b0 : (t184.toList == t187.toList) = true := beq_iff_eq.mpr c16
            have c16b1 : (t184.toList != t187.toList) = false := bne_eq_false_iff_eq.mpr c16
            clear c16
            by_cases c17 : t185 = t188
            · rw [if_pos c17] at H
              have c17b0 : (t185 == t188) = true := beq_iff_eq.mpr c17
              have c17b1 : (t185 != t188) = false := bne_eq_false_iff_eq.mpr c17
              clear c17
              by_cases c18 : (t186 == t189) = true
              · rw [if_pos c18] at H
                have c18b0 : (t186 == t189) = true := c18
                (try (have c18b1 : decide (t186 = t189) = true := by simpa using c18))
                (try (have c18b2 : (t186 == t189) = true := by simpa using c18))
                clear c18
                by_cases c19 : t190.toList = t192.toList
                · rw [if_pos c19] at H
                  have c19b0 : (t190.toList == t192.toList) = true := beq_iff_eq.mpr c19
                  have c19b1 : (t190.toList != t192.toList) = false := bne_eq_false_iff_eq.mpr c19
                  clear c19
                  by_cases c20 : t191 = t193
                  · rw [if_pos c20] at H
                    have c20b0 : (t191 == t193) = true := beq_iff_eq.mpr c20
                    have c20b1 : (t191 != t193) = false := bne_eq_false_iff_eq.mpr c20
                    clear c20
                    by_cases c21 : t194.toList = t197.toList
                    · rw [if_pos c21] at H
                      have c21b0 : (t194.toList == t197.toList) = true := beq_iff_eq.mpr c21
                      have c21b1 : (t194.toList != t197.toList) = false := bne_eq_false_iff_eq.mpr c21
                      clear c21
                      by_cases c22 : t195.toList = t198.toList
                      · rw [if_pos c22] at H
                        have c22b0 : (t195.toList == t198.toList) = true := beq_iff_eq.mpr c22
                        have c22b1 : (t195.toList != t198.toList) = false := bne_eq_false_iff_eq.mpr c22
                        clear c22
                        by_cases c23 : t196 = t199
                        · rw [if_pos c23] at H
                          have c23b0 : (t196 == t199) = true := beq_iff_eq.mpr c23
                          have c23b1 : (t196 != t199) = false := bne_eq_false_iff_eq.mpr c23
                          clear c23
                          replace H := Option.bind_eq_some_iff.mp H
                          obtain ⟨t200, A240, H⟩ := H
                          replace H : ((incipitref09_White.f k a0).bind fun t201 => (some (t200 == t201))) = some r := H
                          have A24 := Aside0.mk A240
                          clear A240
                          replace H := Option.bind_eq_some_iff.mp H
                          obtain ⟨t201, A250, H⟩ := H
                          replace H : (some (t200 == t201)) = some r := H
                          have A25 := Aside0.mk A250
                          clear A250
                          obtain rfl := Option.some.inj H
                          go_enter Tryz.func3, Tryz.ntmps3
                          go_wp2_with (first | ((with_reducible refine gate_callee (f := 9) rfl ?_); refine goesL_ (some 24) rfl rfl Tryz.func9 (by kernel_rfl) rfl #[] rfl (by (try simp only [List.map_toArray, List.map_cons, List.map_nil]); first | done | rfl | (simp only [List.length_drop, List.length_take]; rfl)) ?_; (with_reducible refine (incipitlaw09_awake.calls k  true _ ?side1 A2.out).mono ?_); (case side1 => exact Laid.go hLd (by repeat (first | (with_reducible first | exact HB.out | apply below_alloc | apply pw_below_drewN | apply below_drew1) | exact HB.out))); rintro e w26 ⟨rfl, hb⟩; refine ⟨_, rfl, ?_⟩; have n0_ := Aside0.mk (below_step (by repeat (first | (with_reducible first | exact HB.out | apply below_alloc | apply pw_below_drewN | apply below_drew1) | exact HB.out)) hb); clear HB; have HB := n0_; clear n0_; (try clear hb); (try clear hb2); (try clear hk); (try clear hi)) | ((with_reducible refine gate_callee (f := 10) rfl ?_); refine goesL_ (some 31) rfl rfl Tryz.func10 (by kernel_rfl) rfl #[.string a0] rfl (by (try simp only [List.map_toArray, List.map_cons, List.map_nil]); first | done | rfl | (simp only [List.length_drop, List.length_take]; rfl)) ?_; (with_reducible refine (link_Label.calls a0 t180 t181 _ A5.out).mono ?_); rintro e w27 ⟨rfl, hb⟩; refine ⟨_, rfl, ?_⟩; have n0_ := Aside0.mk (below_step (by repeat (first | (with_reducible first | exact HB.out | apply below_alloc | apply pw_below_drewN | apply below_drew1) | exact HB.out)) hb); clear HB; have HB := n0_; clear n0_; (try clear hb); (try clear hb2); (try clear hk); (try clear hi)) | ((with_reducible refine gate_callee (f := 11) rfl ?_); refine goesL_ (some 36) rfl rfl Tryz.func11 (by kernel_rfl) rfl #[.string a0] rfl (by (try simp only [List.map_toArray, List.map_cons, List.map_nil]); first | done | rfl | (simp only [List.length_drop, List.length_take]; rfl)) ?_; (with_reducible refine (incipitref09_Label.calls k a0 t182 t183 _ A6.out).mono ?_); rintro e w28 ⟨rfl, hb⟩; refine ⟨_, rfl, ?_⟩; have n0_ := Aside0.mk (below_step (by repeat (first | (with_reducible first | exact HB.out | apply below_alloc | apply pw_below_drewN | apply below_drew1) | exact HB.out)) hb); clear HB; have HB := n0_; clear n0_; (try clear hb); (try clear hb2); (try clear hk); (try clear hi)) | ((with_reducible refine gate_callee (f := 12) rfl ?_); refine goesL_ (some 41) rfl rfl Tryz.func12 (by kernel_rfl) rfl #[.string a0] rfl (by (try simp only [List.map_toArray, List.map_cons, List.map_nil]); first | done | rfl | (simp only [List.length_drop, List.length_take]; rfl)) ?_; (with_reducible refine (link_Dest.calls a0 t184 t185 t186 _ ?side1 A7.out).mono ?_); (case side1 => exact Laid.go hLd (by repeat (first | (with_reducible first | exact HB.out | apply below_alloc | apply pw_below_drewN | apply below_drew1) | exact HB.out))); rintro e w29 ⟨rfl, hb⟩; refine ⟨_, rfl, ?_⟩; have n0_ := Aside0.mk (below_step (by repeat (first | (with_reducible first | exact HB.out | apply below_alloc | apply pw_below_drewN | apply below_drew1) | exact HB.out)) hb); clear HB; have HB := n0_; clear n0_; (try clear hb); (try clear hb2); (try clear hk); (try clear hi)) | ((with_reducible refine gate_callee (f := 13) rfl ?_); refine goesL_ (some 47) rfl rfl Tryz.func13 (by kernel_rfl) rfl #[.string a0] rfl (by (try simp only [List.map_toArray, List.map_cons, List.map_nil]); first | done | rfl | (simp only [List.length_drop, List.length_take]; rfl)) ?_; (with_reducible refine (incipitref09_Dest.calls k a0 t187 t188 t189 _ A8.out).mono ?_); rintro e w30 ⟨rfl, hb⟩; refine ⟨_, rfl, ?_⟩; have n0_ := Aside0.mk (below_step (by repeat (first | (with_reducible first | exact HB.out | apply below_alloc | apply pw_below_drewN | apply below_drew1) | exact HB.out)) hb); clear HB; have HB := n0_; clear n0_; (try clear hb); (try clear hb2); (try clear hk); (try clear hi)) | ((with_reducible refine gate_callee (f := 14) rfl ?_); refine goesL_ (some 53) rfl rfl Tryz.func14 (by kernel_rfl) rfl #[.string a0] rfl (by (try simp only [List.map_toArray, List.map_cons, List.map_nil]); first | done | rfl | (simp only [List.length_drop, List.length_take]; rfl)) ?_; (with_reducible refine (link_Title.calls a0 t190 t191 _ ?side1 A9.out).mono ?_); (case side1 => exact Laid.go hLd (by repeat (first | (with_reducible first | exact HB.out | apply below_alloc | apply pw_below_drewN | apply below_drew1) | exact HB.out))); rintro e w31 ⟨rfl, hb⟩; refine ⟨_, rfl, ?_⟩; have n0_ := Aside0.mk (below_step (by repeat (first | (with_reducible first | exact HB.out | apply below_alloc | apply pw_below_drewN | apply below_drew1) | exact HB.out)) hb); clear HB; have HB := n0_; clear n0_; (try clear hb); (try clear hb2); (try clear hk); (try clear hi)) | ((with_reducible refine gate_callee (f := 15) rfl ?_); refine goesL_ (some 58) rfl rfl Tryz.func15 (by kernel_rfl) rfl #[.string a0] rfl (by (try simp only [List.map_toArray, List.map_cons, List.map_nil]); first | done | rfl | (simp only [List.length_drop, List.length_take]; rfl)) ?_; (with_reducible refine (incipitref09_Title.calls k a0 t192 t193 _ A10.out).mono ?_); rintro e w32 ⟨rfl, hb⟩; refine ⟨_, rfl, ?_⟩; have n0_ := Aside0.mk (below_step (by repeat (first | (with_reducible first | exact HB.out | apply below_alloc | apply pw_below_drewN | apply below_drew1) | exact HB.out)) hb); clear HB; have HB := n0_; clear n0_; (try clear hb); (try clear hb2); (try clear hk); (try clear hi)) | ((with_reducible refine gate_callee (f := 16) rfl ?_); refine goesL_ (some 63) rfl rfl Tryz.func16 (by kernel_rfl) rfl #[.string a0] rfl (by (try simp only [List.map_toArray, List.map_cons, List.map_nil]); first | done | rfl | (simp only [List.length_drop, List.length_take]; rfl)) ?_; (with_reducible refine (link_Tail.calls k a0 t194 t195 t196 _ ?side1 A11.out).mono ?_); (case side1 => exact Laid.go hLd (by repeat (first | (with_reducible first | exact HB.out | apply below_alloc | apply pw_below_drewN | apply below_drew1) | exact HB.out))); rintro e w33 ⟨rfl, hb⟩; refine ⟨_, rfl, ?_⟩; have n0_ := Aside0.mk (below_step (by repeat (first | (with_reducible first | exact HB.out | apply below_alloc | apply pw_below_drewN | apply below_drew1) | exact HB.out)) hb); clear HB; have HB := n0_; clear n0_; (try clear hb); (try clear hb2); (try clear hk); (try clear hi)) | ((with_reducible refine gate_callee (f := 17) rfl ?_); refine goesL_ (some 69) rfl rfl Tryz.func17 (by kernel_rfl) rfl #[.string a0] rfl (by (try simp only [List.map_toArray, List.map_cons, List.map_nil]); first | done | rfl | (simp only [List.length_drop, List.length_take]; rfl)) ?_; (with_reducible refine (incipitref09_Tail.calls k a0 t197 t198 t199 _ A12.out).mono ?_); rintro e w34 ⟨rfl, hb⟩; refine ⟨_, rfl, ?_⟩; have n0_ := Aside0.mk (below_step (by repeat (first | (with_reducible first | exact HB.out | apply below_alloc | apply pw_below_drewN | apply below_drew1) | exact HB.out)) hb); clear HB; have HB := n0_; clear n0_; (try clear hb); (try clear hb2); (try clear hk); (try clear hi)) | (go_at_call 18; (with_reducible refine (link_White.calls a0 t200 _ A24.out).mono ?_); rintro e w35 ⟨rfl, hb⟩; have n0_ := Aside0.mk (below_step (by repeat (first | (with_reducible first | exact HB.out | apply below_alloc | apply pw_below_drewN | apply below_drew1) | exact HB.out)) hb); clear HB; have HB := n0_; clear n0_; (try clear hb); (try clear hb2); (try clear hk); (try clear hi)) | (go_at_call 19; (with_reducible refine (incipitref09_White.calls k a0 t201 _ A25.out).mono ?_); rintro e w' ⟨rfl, ⟨nd, rfl⟩⟩))
                          go_ret
                          exact ⟨by first | rfl | exact retNe _ | (simp [errW_none, errW_some] <;> rfl) | (simp [*, errW_none, errW_some] <;> rfl), by repeat (first | (with_reducible first | exact HB.out | apply below_alloc | apply pw_below_drewN | apply below_drew1) | exact HB.out)⟩
                        · rw [if_neg c23] at H
                          cases H
                      · rw [if_neg c22] at H
                        cases H
                    · rw [if_neg c21] at H
                      cases H
                  · rw [if_neg c20] at H
                    cases H
                · rw [if_neg c19] at H
                  cases H
              · rw [if_neg c18] at H
                cases H
            · rw [if_neg c17] at H
              cases H
          · rw [if_neg c16] at H
            cases H
        · rw [if_neg c15] at H
          cases H
      · rw [if_neg c14] at H
        cases H
    · replace c13 := Bool.eq_false_iff.mpr c13
      subst c13
      have H1 : (none) = some r := by rw [if_neg (show ¬ (false = true) by decide)] at H; exact H
      cases H1
end Go.Proofs.YtjobchgncdgfaaaGreatDoor.PA

namespace Go.Proofs.YtjobchgncdgfaaaGreatDoor.Pure
open Go.RowKit Go.Proofs.YtjobchgncdgfaaaGreatDoorW.PrintWords Go.Proofs.YtjobchgncdgfaaaGreatDoorW.PrintMore Go.Proofs.YtjobchgncdgfaaaGreatDoor.Pl Go.Proofs.YtjobchgncdgfaaaGreatDoor.PA

/-- What the reference's Tail answers at its end. -/
theorem rtl_end (s : List UInt8) (hs : s.length ≤ 2000) (a : Nat) (ha : a + wht (s.drop a) ≤ s.length) (d t : List UInt8) (g : Nat → Option (ByteArray × ByteArray × Int))
    (hg : ∀ n, g n = if wrap64 ((a : Int) + ((wht (s.drop a) : Nat) : Int)) ≥ ((B s).size : Int) then some (B [], B [], 0) else if 0 ≤ wrap64 ((a : Int) + ((wht (s.drop a) : Nat) : Int)) then (if wrap64 ((a : Int) + ((wht (s.drop a) : Nat) : Int)) < ((B s).size : Int) then (if bt (B s) (wrap64 ((a : Int) + ((wht (s.drop a) : Nat) : Int))) = 41 then some (B d, B t, wrap64 (wrap64 ((a : Int) + ((wht (s.drop a) : Nat) : Int)) + 1)) else some (B [], B [], 0)) else none) else none) :
    Ev g (tlE s d t (a + wht (s.drop a))) := by
  have hw : wrap64 ((a : Int) + ((wht (s.drop a) : Nat) : Int)) = ((a + wht (s.drop a) : Nat) : Int) := wadd (by omega)
  obtain ⟨i, hi⟩ : ∃ i, a + wht (s.drop a) = i := ⟨_, rfl⟩
  rw [hw] at hg
  rw [hi] at hg ha ⊢
  refine Ev.congr (f := fun _ => some (tlE s d t i)) (fun n => ?_) (Ev.now _)
  rw [hg]
  unfold tlE
  by_cases hl : i < s.length
  · have hb : bt (B s) (i : Int) = ((s[i]).toNat : Int) := B_bt s i hl
    have hh : (s.drop i).head? = some s[i] := by rw [List.head?_drop]; exact List.getElem?_eq_getElem hl
    have c41 : (((s[i]).toNat : Int) = 41) ↔ s[i] = 41 := u8_eq _ 41 (by omega)
    rw [if_neg (by rw [B_size]; omega), if_pos (nn _), if_pos (by rw [B_size]; omega), hb, hh]
    by_cases h : s[i] = 41
    · rw [if_pos (c41.2 h), if_pos (by rw [h]), winc (by omega)]
    · rw [if_neg (fun e => h (c41.1 e)), if_neg (fun e => h (Option.some.inj e))]
  · rw [if_pos (by rw [B_size]; omega), List.drop_eq_nil_of_le (by omega), if_neg (by simp)]
theorem rtail_j1 (s : List UInt8) (hs : s.length ≤ 2000) (p g : Nat) (l2 : p + g ≤ s.length) (hgw : g = wht (s.drop p)) (d : List UInt8) (T : List UInt8 × Nat) (hT : ttl (s.drop (p + g)) = T) (lT : p + g + T.2 ≤ s.length) (b : Bool) :
    Ev (fun k => incipitref09_Tail.j1 k (B s) (p : Int) (B d) (g : Int) (B []) b) (if b = true ∧ 0 < T.2 then tlE s d T.1 (p + g + T.2 + wht (s.drop (p + g + T.2))) else tlE s d [] (p + wht (s.drop p))) := by
  have x0 : (B s).extract ((p : Int)).toNat (B s).size = B (s.drop p) := by rw [Int.toNat_natCast]; exact B_from s p _ (B_size _)
  have hw0 := rwhite_ev (s.drop p) (by rw [List.length_drop]; omega)
  have hwl := wht_le (s.drop p)
  rw [List.length_drop] at hwl
  have hlp : p ≤ s.length := by omega
  cases b with
  | false =>
    rw [if_neg (by rintro ⟨h, _⟩; cases h)]
    refine Ev.step (f := fun k => (incipitref09_White.f k (B (s.drop p))).bind _) (fun k => by
      simp only [incipitref09_Tail.j1]
      rw [if_neg (by decide), if_pos (nn p), if_pos (szl hlp), x0]) (Ev.bind hw0 ?_)
    exact rtl_end s hs p (by omega) d [] _ (fun n => rfl)
  | true =>
    have w3 : wrap64 ((p : Int) + (g : Int)) = ((p + g : Nat) : Int) := wadd (by omega)
    have x1 : (B s).extract (((p + g : Nat) : Int)).toNat (B s).size = B (s.drop (p + g)) := by rw [Int.toNat_natCast]; exact B_from s _ _ (B_size _)
    have ht := rtitle_ev (s.drop (p + g)) (by rw [List.length_drop]; omega)
    rw [hT] at ht
    by_cases h0 : 0 < T.2
    · rw [if_pos ⟨rfl, h0⟩]
      have w4 : wrap64 (((p + g : Nat) : Int) + ((T.2 : Nat) : Int)) = ((p + g + T.2 : Nat) : Int) := wadd (by omega)
      have x2 : (B s).extract (((p + g + T.2 : Nat) : Int)).toNat (B s).size = B (s.drop (p + g + T.2)) := by rw [Int.toNat_natCast]; exact B_from s _ _ (B_size _)
      have hw1 := rwhite_ev (s.drop (p + g + T.2)) (by rw [List.length_drop]; omega)
      have hwl1 := wht_le (s.drop (p + g + T.2))
      rw [List.length_drop] at hwl1
      refine Ev.step (f := fun k => (incipitref09_Title.f k (B (s.drop (p + g)))).bind _) (fun k => by
        simp only [incipitref09_Tail.j1]
        rw [if_pos (by first | trivial | rfl), w3, if_pos (nn _), if_pos (szl l2), x1]) (Ev.bind ht ?_)
      refine Ev.congr (f := fun k => (incipitref09_White.f k (B (s.drop (p + g + T.2)))).bind _) (fun k => by
        dsimp only
        rw [if_pos (ipos h0), w4, if_pos (nn _), if_pos (szl lT), x2]) (Ev.bind hw1 ?_)
      exact rtl_end s hs (p + g + T.2) (by omega) d T.1 _ (fun n => rfl)
    · rw [if_neg (fun h => h0 h.2)]
      refine Ev.step (f := fun k => (incipitref09_Title.f k (B (s.drop (p + g)))).bind _) (fun k => by
        simp only [incipitref09_Tail.j1]
        rw [if_pos (by first | trivial | rfl), w3, if_pos (nn _), if_pos (szl l2), x1]) (Ev.bind ht ?_)
      refine Ev.congr (f := fun k => (incipitref09_White.f k (B (s.drop p))).bind _) (fun k => by
        dsimp only
        rw [if_neg (inpos h0), if_pos (nn p), if_pos (szl hlp), x0]) (Ev.bind hw0 ?_)
      exact rtl_end s hs p (by omega) d [] _ (fun n => rfl)
theorem rtail_ev (s : List UInt8) (hs : s.length ≤ 2000) : Ev (fun k => incipitref09_Tail.f k (B s)) (B (tlr s).1, B (tlr s).2.1, ((tlr s).2.2 : Int)) := by
  unfold incipitref09_Tail.f
  have hno : s.head? ≠ some 40 → Ev (fun k => incipitref09_Tail.j0 k (B s) true) (B (tlr s).1, B (tlr s).2.1, ((tlr s).2.2 : Int)) := by
    intro h
    have e : tlr s = ([], [], 0) := if_neg h
    rw [e]
    refine Ev.step (f := fun _ => some (B [], B [], 0)) (fun k => ?_) (Ev.now _)
    simp only [incipitref09_Tail.j0]
    exact if_pos (by first | trivial | rfl)
  cases s with
  | nil => exact Ev.congr (fun k => if_pos (by exact B_toList [])) (hno (by simp))
  | cons x r =>
    have c40 : ((x.toNat : Int) = 40) ↔ x = 40 := u8_eq _ 40 (by omega)
    have hb : bt (B (x :: r)) 0 = (x.toNat : Int) := B_bt (x :: r) 0 (by simp)
    refine Ev.congr (f := fun k => incipitref09_Tail.j0 k (B (x :: r)) ((x.toNat : Int) != 40)) (fun k => by rw [if_neg (by rw [B_toList]; simp), if_pos (by rw [B_size]; simp <;> omega), hb]) ?_
    by_cases h40x : x = 40
    · rw [show ((x.toNat : Int) != 40) = false by rw [bne, beq_iff_eq.2 (c40.2 h40x)]; rfl]
      obtain ⟨s, hS⟩ : ∃ s, x :: r = s := ⟨_, rfl⟩
      have h40 : s.head? = some 40 := by rw [← hS, h40x]; rfl
      have hne : s ≠ [] := by rw [← hS]; simp
      rw [hS] at hs ⊢
      clear hb hno hS
      obtain ⟨l1, l2, l3, l4, l5⟩ := a_le s hne
      have h0 : 1 ≤ s.length := by rcases Nat.eq_zero_or_pos s.length with e | e; exact absurd (List.length_eq_zero_iff.1 e) hne; exact e
      have hout : (B (tlr s).1, B (tlr s).2.1, ((tlr s).2.2 : Int)) = tlE s (tD s).1 (if tOk s = true then (tT s).1 else []) (a4 s) := by
        unfold tlr tlE
        rw [if_pos h40]
        split <;> rfl
      rw [hout]
      have x1 : (B s).extract 1 (B s).size = B (s.drop 1) := B_from s 1 _ (B_size _)
      have hw1 := rwhite_ev (s.drop 1) (by rw [List.length_drop]; omega)
      have w1 : wrap64 (1 + (wht (s.drop 1) : Int)) = ((a1 s : Nat) : Int) := wadd1 (Nat.le_trans l1 (by omega))
      have x2 : (B s).extract (((a1 s : Nat) : Int)).toNat (B s).size = B (s.drop (a1 s)) := by rw [Int.toNat_natCast]; exact B_from s _ _ (B_size _)
      have hd : Ev (fun k => incipitref09_Dest.f k (B (s.drop (a1 s)))) (B (tD s).1, ((tD s).2.1 : Int), (tD s).2.2) := rdest_ev (s.drop (a1 s)) (by rw [List.length_drop]; omega)
      have w2 : wrap64 (((a1 s : Nat) : Int) + ((tD s).2.1 : Int)) = ((a2 s : Nat) : Int) := wadd (Nat.le_trans l2 (by omega))
      have x3 : (B s).extract (((a2 s : Nat) : Int)).toNat (B s).size = B (s.drop (a2 s)) := by rw [Int.toNat_natCast]; exact B_from s _ _ (B_size _)
      have hw3 : Ev (fun k => incipitref09_White.f k (B (s.drop (a2 s)))) ((tG s : Nat) : Int) := rwhite_ev (s.drop (a2 s)) (by rw [List.length_drop]; omega)
      have l6 := ttl_le (s.drop (a2 s + tG s))
      rw [List.length_drop] at l6
      have lT : a2 s + tG s + (tT s).2 ≤ s.length := by
        have l7 : (tT s).2 ≤ s.length - (a2 s + tG s) := l6
        omega
      have hj := fun b => rtail_j1 s hs (a2 s) (tG s) l3 rfl (tD s).1 (tT s) rfl lT b
      have hfin : ∀ b : Bool, b = (decide (0 < (tD s).2.1) && decide (0 < tG s)) → Ev (fun k => incipitref09_Tail.j1 k (B s) ((a2 s : Nat) : Int) (B (tD s).1) ((tG s : Nat) : Int) (B []) b) (tlE s (tD s).1 (if tOk s = true then (tT s).1 else []) (a4 s)) := by
        intro b hb
        have hok : tOk s = (b && decide (0 < (tT s).2)) := by rw [tOk_eq, ← Bool.and_assoc, ← hb]
        have h := hj b
        cases hk : tOk s with
        | true =>
          rw [hk] at hok
          have hb2 : b = true ∧ 0 < (tT s).2 := by
            have := hok.symm
            simp only [Bool.and_eq_true, decide_eq_true_eq] at this
            exact this
          have e3 : a3 s = a2 s + tG s + (tT s).2 := by unfold a3; rw [if_pos hk]
          rw [if_pos hb2, ← e3] at h
          rw [if_pos rfl]
          exact h
        | false =>
          rw [hk] at hok
          have hb2 : ¬ (b = true ∧ 0 < (tT s).2) := by
            rintro ⟨h1, h2⟩
            rw [h1, decide_eq_true h2] at hok
            cases hok
          have e3 : a3 s = a2 s := by unfold a3; rw [if_neg (by rw [hk]; decide)]
          rw [if_neg hb2] at h
          rw [if_neg (by decide)]
          unfold a4
          rw [e3]
          exact h
      refine Ev.step (f := fun k => (incipitref09_White.f k (B (s.drop 1))).bind _) (fun k => by
        simp only [incipitref09_Tail.j0]
        rw [if_neg (by decide), if_pos (show (1 : Int) ≤ _ from szl (n := 1) h0), x1]) (Ev.bind hw1 ?_)
      refine Ev.congr (f := fun k => (incipitref09_Dest.f k (B (s.drop (a1 s)))).bind _) (fun k => by rw [w1, if_pos (nn _), if_pos (szl l1), x2]) (Ev.bind hd ?_)
      refine Ev.congr (f := fun k => (incipitref09_White.f k (B (s.drop (a2 s)))).bind _) (fun k => by
        dsimp only
        rw [w2, if_pos (nn _), if_pos (szl l2), x3]) (Ev.bind hw3 ?_)
      by_cases hdp : 0 < (tD s).2.1
      · refine Ev.congr (fun k => ?_) (hfin _ rfl)
        rw [if_pos (ipos hdp), decide_eq_true hdp, Bool.true_and, show decide (((tG s : Nat) : Int) > 0) = decide (0 < tG s) from decide_eq_decide.2 ⟨fun h => by omega, fun h => ipos h⟩]
        rfl
      · refine Ev.congr (fun k => ?_) (hfin _ rfl)
        rw [if_neg (inpos hdp), decide_eq_false hdp, Bool.false_and]
        rfl
    · rw [show ((x.toNat : Int) != 40) = true by rw [bne, beq_eq_false_iff_ne.2 (fun e => h40x (c40.1 e))]; rfl]
      exact hno (fun e => h40x (Option.some.inj e))
theorem LinkReads : ∀ (a0 : ByteArray), a0.size ≤ 140737488351232 → ∃ k, PA.incipitlaw09_LinkReads.f k a0 = some true := by
  intro a0 _
  obtain ⟨s, rfl⟩ : ∃ s, a0 = B s := ⟨_, (B_eta a0).symm⟩
  apply Ev.rounds
  unfold incipitlaw09_LinkReads.f
  refine Ev.bind awake_ev ?_
  by_cases h : ((B s).size : Int) > 2000
  · exact Ev.congr (fun k => if_pos h) (Ev.now _)
  · have hs : s.length ≤ 2000 := by rw [B_size] at h; omega
    refine Ev.congr (f := fun k => (incipitref09_Label.f k (B s)).bind _) (fun k => by rw [if_neg h, label_f s (by omega), Option.bind_some]) (Ev.bind (rlabel_ev s hs) ?_)
    refine Ev.congr (f := fun k => (incipitref09_Dest.f k (B s)).bind _) (fun k => by rw [dest_f s (by omega), Option.bind_some]) (Ev.bind (rdest_ev s hs) ?_)
    refine Ev.congr (f := fun k => (incipitref09_Title.f k (B s)).bind _) (fun k => by rw [title_f s (by omega), Option.bind_some]) (Ev.bind (rtitle_ev s hs) ?_)
    refine Ev.bind (tail_ev s (by omega)) ?_
    refine Ev.bind (rtail_ev s hs) ?_
    refine Ev.congr (f := fun k => (incipitref09_White.f k (B s)).bind _) (fun k => by
      dsimp only
      rw [if_pos (by rfl), if_pos (by rfl), if_pos (by rfl), if_pos (by rfl), if_pos (by rfl), if_pos (beq_self_eq_true _), if_pos (by rfl), if_pos (by rfl), if_pos (by rfl), if_pos (by rfl), if_pos (by rfl), white_f s (by omega), Option.bind_some]) (Ev.bind (rwhite_ev s (by omega)) ?_)
    exact Ev.congr (fun k => by rw [beq_self_eq_true]) (Ev.now _)
end Go.Proofs.YtjobchgncdgfaaaGreatDoor.Pure

namespace Go.Proofs.YtjobchgncdgfaaaGreatDoor.linkReads
open Go.ChangeShapes Go.WideShapes Go.ChangeAt Go.RowKit Go.Proofs.YtjobchgncdgfaaaGreatDoorW.PrintWords Go.Proofs.YtjobchgncdgfaaaGreatDoor.RowU8
open Go.ChangeMaps (open_string shut_string)
set_option linter.unusedVariables false
set_option maxRecDepth 100000 in
theorem contract (H : Type) (enc : TypeId × Value → H) (W : World) (base : Nat) (args : Array Value) (ds gs : List (DataW H)) (before : List MemPlace)
    (hval0 : ∀ (j : Nat) t v, Tryz.f3.params[j]? = some t → args[j]? = some v → Value.okWide Tryz.prog W .any base t v)
    (hW : DataW.Whole enc Tryz.prog Tryz.f3.params.toList Rows.linkReadsSpec.vars false W args.toList ds gs before) (hsz0 : (DataW.weightsEach Tryz.prog (Tryz.f3.params.toList ++ (OpenSpec.ofChange Rows.linkReadsSpec).bare.plain.varTypes Tryz.prog) (ds ++ gs)).all (· ≤ reachBytes) = true) (hSh : W.ShapedOpen Tryz.prog) :
    Calls Tryz.prog 3 args W fun e W' => ∃ v, e = .returned v ∧ Rows.linkReadsSpec.post enc Tryz.prog Tryz.f3 false true false false W args v W' := by
  have hsz : (DataW.weightsEach Tryz.prog (Tryz.f3.params.toList ++ Rows.linkReadsSpec.plain.varTypes Tryz.prog) (ds ++ gs)).all (· ≤ reachBytes) = true := hsz0
  have hval : ∀ (j : Nat) t v, Tryz.f3.params[j]? = some t → args[j]? = some v → Value.okWide Tryz.prog W .any base t v := hval0
  have hW' := hW
  obtain ⟨p, q, hA0, hV, rfl, hfz, hnd⟩ := hW
  have hA : DataW.TrodAll enc Tryz.prog W 0 (fun _ => true) true Tryz.f3.params.toList args.toList ds p := hA0
  rw [Tryz.params3] at hA hval hsz
  obtain ⟨v0, vs0, d0, ds0, p0, q0, hargs, rfl, rfl, h0, r0⟩ := trodAll_cons hA
  obtain ⟨rfl, rfl, rfl⟩ := trodAll_nil r0
  obtain rfl : args = #[v0] := by cases args; simp_all
  obtain ⟨rfl, rfl⟩ := trodVars_none hV
  obtain ⟨a0, rfl, rfl, rfl, y0⟩ := open_string Tryz.underlying9 (hval 0 9 v0 rfl rfl) h0
  have w0 : a0.size ≤ 140737488351232 := by
    have z := sized_string hsz (j := 0) (t := 9) rfl rfl
    rw [Array.length_toList] at z
    exact z
  clear hA0 hval0 hsz0 hsz
  obtain ⟨k, hp⟩ := Pure.LinkReads a0 w0
  refine (PA.incipitlaw09_LinkReads.calls k a0 true W (laidOf hSh) hp).mono ?_
  rintro e W' ⟨rfl, bel⟩
  exact ⟨_, rfl, _, _, _, [], _, [], hW', trodAll_mk1 (shut_bool Tryz.underlying4 _), (trodAll_cons_mk (shut_string Tryz.underlying9 y0) trodAll_mk0), rfl, bel.frame _, fun h => by cases h⟩
theorem laid_met (os : Os) : laidMet Tryz.prog Rows.linkReadsRow.laid ((laidWorld os).forCall (fun _ _ => 0) ⟨#[], #[.string ByteArray.empty], []⟩).memory :=
  laidMet_of_run' 8 (by kernel_rfl) (by kernel_rfl)
theorem reads (os : Os) {H : Type} (enc : TypeId × Value → H) : ∃ places, DataW.whole enc Tryz.prog ((laidWorld os).forCall (fun _ _ => 0) ⟨#[], #[.string ByteArray.empty], []⟩).memory Tryz.f3.params.toList Rows.linkReadsSpec.vars false (#[.string ByteArray.empty] : Array Value).toList 8 = some ([.lit (.string [])], [], places) :=
  ⟨[], by kernel_rfl⟩
set_option maxRecDepth 100000 in
theorem lifted (os : Os) (started : os.Started) (H : Type) (enc : TypeId × Value → H) (F : Stop.Interp) :
    ReturnsInHanded {} Tryz.checked os 3 .any ((OpenSpec.ofChange Rows.linkReadsSpec).preRow enc Tryz.prog Tryz.f3 Rows.linkReadsRow.domain false Rows.linkReadsRow.laid) (((OpenSpec.ofChange Rows.linkReadsSpec).at F).post enc Tryz.prog Tryz.f3 false true false false) := by
  obtain ⟨places, hx⟩ := reads os enc
  refine returnsInHanded_of_row (C := Tryz.checked) (s := OpenSpec.ofChange Rows.linkReadsSpec) own started (by kernel_rfl) Tryz.func3
    (witness_row_atRef (enc := enc) (C := Tryz.checked) false (laidWorld os) #[.string ByteArray.empty] (laidWorld_os os) (by kernel_rfl) (by kernel_rfl) (by kernel_rfl)
      (OpenSpec.preRow_of_cond 8 hx (by kernel_rfl) (fun k hk => by cases hk) (by kernel_rfl) (laid_met os))) ?_
  intro W base args ds gs before hval hW _ _ hsz hL hSh _
  exact contract H enc W base args ds gs before hval hW hsz hSh
theorem said : Rows.LinkReadsSaid :=
  OpenClaim.holds_of_cond 3 Tryz.f3 rfl rfl rfl rfl rfl rfl rfl ⟨rfl, rfl, rfl, rfl, rfl⟩ rfl rfl rfl rfl rfl (by kernel_rfl) Tryz.func3 (by kernel_rfl)
    (of_decide_eq_true (by kernel_rfl)) (by unfold Func.isWrapper; first | (rw [if_pos (by decide +kernel)]; kernel_rfl) | (rw [if_neg (by decide +kernel)]; exact ⟨rfl, rfl⟩))
    (fun os started H enc _ F => by rw [OpenClaim.pre_eq_preRow]; exact lifted os started H enc F)
theorem plain (f : FuncId) (fn : Func) (hf : Tryz.pinned.checked.prog.funcNamed "incipit/incipitlaw09.LinkReads" = some f) (hfn : Tryz.pinned.checked.prog.funcs[f]? = some fn) :
    true = Tryz.pinned.checked.prog.looks [] ∧ ∀ (j : Nat) t, fn.params[j]? = some t → Tryz.pinned.checked.prog.wantsStandIn t = false := by
  obtain rfl : f = 3 := Option.some.inj ((show Tryz.prog.funcNamed "incipit/incipitlaw09.LinkReads" = some 3 by kernel_rfl).symm.trans hf) |>.symm
  obtain rfl : fn = Tryz.f3 := (Option.some.inj (Tryz.func3.symm.trans hfn)).symm
  refine ⟨by kernel_rfl, fun j t ht => ?_⟩
  rw [Tryz.params3] at ht
  have hall : ∀ t ∈ (#[9] : Array Nat), Tryz.prog.wantsStandIn t = false := by
    intro t ht
    simp at ht
    subst ht
    exact (show Tryz.prog.wantsStandIn 9 = false by kernel_rfl)
  exact hall t (Array.mem_of_getElem? ht)
theorem card : Rows.LinkReadsCardSaid :=
  Claim7.holds_tied_plain_at .later [] _ _ _ _ said (fun _ h => by cases h) (by kernel_rfl) (fun _ h => by cases h) linkReads_row_tie rfl ⟨rfl, rfl⟩ (by kernel_rfl) rfl plain (by kernel_rfl)
end Go.Proofs.YtjobchgncdgfaaaGreatDoor.linkReads
namespace Go.Proofs.YtjobchgncdgfaaaGreatDoor
/-- The statement, under a short name, for the claim. -/
theorem linkReads_holds : Rows.LinkReadsCardSaid := linkReads.card
end Go.Proofs.YtjobchgncdgfaaaGreatDoor
