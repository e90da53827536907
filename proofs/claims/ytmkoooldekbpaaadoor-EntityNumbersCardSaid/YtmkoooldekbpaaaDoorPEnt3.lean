/-
  The reference's Read answers what entity.Read answers. Condition: a text of at most 2^30 bytes.
-/
import Derived.Test.YtmkoooldekbpaaaDoorPEnt2
namespace Go.Proofs.YtmkoooldekbpaaaDoor.Pure
open Go.RowKit Go.Proofs.YtmkoooldekbpaaaDoorW.PrintWords Go.Proofs.YtmkoooldekbpaaaDoorW.PrintMore Go.Proofs.YtmkoooldekbpaaaDoor.Pl Go.Proofs.YtmkoooldekbpaaaDoor.PA

/-- What is answered, by the character and the place of the ;. -/
def resE (c : ByteArray × Bool) (e : Int) : ByteArray × Int := if c.2 = true then (c.1, e + 1) else (⟨#[]⟩, 0)
theorem rd_no (a : ByteArray) (e : Int) : Ev (fun k => incipitref04_Read.j0 k a e true) ((⟨#[]⟩, 0) : ByteArray × Int) := by
  refine Ev.step (f := fun _ => some (⟨#[]⟩, 0)) (fun k => ?_) (Ev.now _)
  simp only [incipitref04_Read.j0, if_true]
theorem j2_ev (e : Nat) (he : e ≤ 1073741824) (b most : Nat) (hb : b = 10 ∨ b = 16) (hm : most ≤ 7) (ok : UInt8 → Bool) (hok : ∀ x, ok x = true ↔ dOk b x) (t : List UInt8) :
    Ev (fun k => incipitref04_Read.j2 k (e : Int) (rnum b most t)) (resE (chr b most ok t) (e : Int)) := by
  have hall : t.all ok = true ↔ ∀ x ∈ t, dOk b x := by rw [List.all_eq_true]; exact ⟨fun h x hx => (hok x).1 (h x hx), fun h x hx => (hok x).2 (h x hx)⟩
  have hneg : rnum b most t = -1 → (chr b most ok t).2 = false → Ev (fun k => incipitref04_Read.j2 k (e : Int) (rnum b most t)) (resE (chr b most ok t) (e : Int)) := by
    intro h1 h2
    rw [h1]
    unfold resE
    rw [h2, if_neg (by decide)]
    refine Ev.step (f := fun _ => some (⟨#[]⟩, 0)) (fun k => ?_) (Ev.now _)
    simp only [incipitref04_Read.j2]
    rw [if_pos (by decide)]
  by_cases h1 : t = [] ∨ most < t.length
  · refine hneg (by unfold rnum; rw [if_pos h1]) ?_
    unfold chr
    rw [if_pos (by rcases h1 with h | h; exact .inl h; exact .inr (.inl h))]
  · by_cases h2 : ∀ x ∈ t, dOk b x
    · have hlt := num_lt b hb t.length t rfl h2
      have hlen : t.length ≤ 7 := by rw [not_or] at h1; omega
      have h16 : 16 ^ t.length ≤ 268435456 := Nat.le_trans (Nat.pow_le_pow_right (by omega) hlen) (by decide)
      have hr : rnum b most t = (num b t : Int) := by unfold rnum; rw [if_neg h1, if_pos h2]
      have hc : chr b most ok t = (Go.Utf8.encode (fixr (num b t)), true) := by
        unfold chr
        rw [if_neg]
        rintro (h | h | h)
        · exact h1 (.inl h)
        · exact h1 (.inr h)
        · rw [hall.2 h2] at h; cases h
      rw [hr, hc]
      unfold resE
      rw [if_pos rfl]
      generalize num b t = n at hlt
      clear hr hc hneg h1 h2
      have hn : n ≤ 268435456 := by omega
      clear hlt h16
      refine Ev.step (f := fun _ => some (Go.Utf8.encode (fixr n), (e : Int) + 1)) (fun k => ?_) (Ev.now _)
      simp only [incipitref04_Read.j2]
      rw [if_neg (by omega), w64 (x := (e : Int) + 1) (by omega) (by omega)]
      unfold fixr Lib.validRune
      by_cases c0 : n = 0
      · rw [if_pos (by omega), if_pos (.inl c0)]
      · rw [if_neg (by omega)]
        have hw : wrap32 (n : Int) = if n ≤ 1114111 then (n : Int) else wrap32 (n : Int) := by
          split
          · unfold wrap32; omega
          · rfl
        by_cases c1 : (n : Int) ≥ 55296
        · rw [if_pos c1]
          by_cases c2 : (n : Int) ≤ 57343
          · rw [if_pos c2, if_pos (.inr (by rw [decide_eq_false_iff_not]; omega))]
          · rw [if_neg c2]
            by_cases c3 : (n : Int) > 1114111
            · rw [if_pos c3, if_pos (.inr (by rw [decide_eq_false_iff_not]; omega))]
            · rw [if_neg c3, if_neg (by rw [not_or]; refine ⟨c0, ?_⟩; rw [decide_eq_false_iff_not, Classical.not_not]; omega), hw, if_pos (by omega)]
        · rw [if_neg c1, if_neg (show ¬ (n : Int) > 1114111 by omega), if_neg (by rw [not_or]; refine ⟨c0, ?_⟩; rw [decide_eq_false_iff_not, Classical.not_not]; omega), hw, if_pos (by omega)]
    · refine hneg (by unfold rnum; rw [if_neg h1, if_neg h2]) ?_
      unfold chr
      rw [if_pos (.inr (.inr (by cases ha : t.all ok with | true => exact absurd (hall.1 ha) h2 | false => rfl)))]
theorem dg_ok (x : UInt8) : dg x = true ↔ dOk 10 x := by unfold dg dOk; rw [decide_eq_true_iff]; omega
theorem hxd_ok (x : UInt8) : hxd x = true ↔ dOk 16 x := by unfold hxd; rw [decide_eq_true_iff]
theorem j1_hex (y : UInt8) (t : List UInt8) (hs : t.length ≤ 1073741820) : Ev (fun k => incipitref04_Read.j1 k (B (38 :: 35 :: y :: t)) (((upto t).length + 3 : Nat) : Int) true) (resE (chr 16 6 hxd (upto t)) (((upto t).length + 3 : Nat) : Int)) := by
  have hl := upto_len t
  refine Ev.step (f := fun k => (incipitref04_number.f k (B (upto t)) 16 6).bind fun t123 => (incipitref04_Read.j2 k (((upto t).length + 3 : Nat) : Int) t123)) (fun k => ?_) (Ev.bind (rnum_ev 16 6 (.inr rfl) (by decide) (upto t) (by omega)) (j2_ev ((upto t).length + 3) (by omega) 16 6 (.inr rfl) (by decide) hxd hxd_ok _))
  simp only [incipitref04_Read.j1]
  rw [if_pos trivial, if_pos (by omega), if_pos (by rw [B_size]; simp only [List.length_cons]; omega), B_extract, Int.toNat_natCast, Nat.add_sub_cancel]
  show (incipitref04_number.f k (B (t.take (upto t).length)) 16 6).bind _ = _
  rw [upto_take]
theorem j1_dec (t : List UInt8) (hs : t.length ≤ 1073741820) : Ev (fun k => incipitref04_Read.j1 k (B (38 :: 35 :: t)) (((upto t).length + 2 : Nat) : Int) false) (resE (chr 10 7 dg (upto t)) (((upto t).length + 2 : Nat) : Int)) := by
  have hl := upto_len t
  refine Ev.step (f := fun k => (incipitref04_number.f k (B (upto t)) 10 7).bind fun t124 => (incipitref04_Read.j2 k (((upto t).length + 2 : Nat) : Int) t124)) (fun k => ?_) (Ev.bind (rnum_ev 10 7 (.inl rfl) (by decide) (upto t) (by omega)) (j2_ev ((upto t).length + 2) (by omega) 10 7 (.inl rfl) (by decide) dg dg_ok _))
  simp only [incipitref04_Read.j1]
  rw [if_neg (by simp), if_pos (by omega), if_pos (by rw [B_size]; simp only [List.length_cons]; omega), B_extract, Int.toNat_natCast, Nat.add_sub_cancel]
  show (incipitref04_number.f k (B (t.take (upto t).length)) 10 7).bind _ = _
  rw [upto_take]
theorem or_x : ∀ y : UInt8, (y.toNat ||| 32) = 120 ↔ y = 120 ∨ y = 88 := by
  have h : ∀ y : Fin 256, (y.val ||| 32) = 120 ↔ y.val = 120 ∨ y.val = 88 := by decide +kernel
  intro y
  rw [h ⟨y.toNat, y.toNat_lt⟩]
  constructor
  · rintro (e | e)
    · exact .inl (UInt8.toNat_inj.1 e)
    · exact .inr (UInt8.toNat_inj.1 e)
  · rintro (rfl | rfl)
    · exact .inl rfl
    · exact .inr rfl
theorem nmd_nil : nmd [] = (⟨#[]⟩, false) := nmd_miss [] (fun k hk e => by have := (enm_facts k hk).1; rw [e] at this; simp at this)
/-- Behind &: the reference's answer where something stands ahead of the ;. -/
theorem j0_ev (x1 : UInt8) (t1 : List UInt8) (h59 : x1 ≠ 59) (hm : (59 : UInt8) ∈ t1) (hs : t1.length ≤ 1073741818) :
    Ev (fun k => incipitref04_Read.j0 k (B (38 :: x1 :: t1)) (((upto t1).length + 2 : Nat) : Int) false) (resE (bdy (x1 :: upto t1)) (((upto t1).length + 2 : Nat) : Int)) := by
  have hl := upto_len t1
  have h35 : ((x1.toNat : Int) = 35) ↔ x1 = 35 := u8_eq _ 35 (by omega)
  have hb1 : bt (B (38 :: x1 :: t1)) 1 = (x1.toNat : Int) := B_bt (38 :: x1 :: t1) 1 (by simp)
  have hz : (1 : Int) < ((B (38 :: x1 :: t1)).size : Int) := by rw [B_size]; simp only [List.length_cons]; omega
  have hz2 : (((upto t1).length + 2 : Nat) : Int) ≤ ((B (38 :: x1 :: t1)).size : Int) := by rw [B_size]; simp only [List.length_cons]; omega
  by_cases hx : x1 = 35
  · subst hx
    cases t1 with
    | nil => cases hm
    | cons y t2 =>
      by_cases hy59 : y = 59
      · have hu : upto (y :: t2) = [] := by rw [upto, if_pos hy59]
        have hj := j1_dec (y :: t2) (by omega)
        rw [hu] at hj ⊢
        rw [bdy_35]
        refine Ev.step (fun k => ?_) hj
        simp only [incipitref04_Read.j0]
        rw [if_neg (by simp), if_pos hz, hb1, if_pos (h35.2 rfl), if_neg (by decide)]
      · have hu : upto (y :: t2) = y :: upto t2 := by rw [upto, if_neg hy59]
        have hb2 : bt (B (38 :: 35 :: y :: t2)) 2 = (y.toNat : Int) := B_bt (38 :: 35 :: y :: t2) 2 (by simp)
        have h120 : ((y.toNat : Int) = 120) ↔ y = 120 := u8_eq _ 120 (by omega)
        have h88 : ((y.toNat : Int) = 88) ↔ y = 88 := u8_eq _ 88 (by omega)
        have hz3 : (2 : Int) < ((B (38 :: 35 :: y :: t2)).size : Int) := by rw [B_size]; simp only [List.length_cons]; omega
        have hl2 := upto_len t2
        rw [List.length_cons] at hs
        by_cases hxx : (y.toNat ||| 32) = 120
        · have hj := j1_hex y t2 (by omega)
          rw [hu, bdy_two, if_pos hxx, List.length_cons]
          refine Ev.step (fun k => ?_) hj
          simp only [incipitref04_Read.j0]
          rw [if_neg (by simp), if_pos hz, hb1, if_pos (h35.2 rfl), if_pos (by omega), if_pos hz3, hb2]
          rcases (or_x y).1 hxx with rfl | rfl
          · rw [if_pos (by decide)]
          · rw [if_neg (by decide)]
            rfl
        · have hj := j1_dec (y :: t2) (by rw [List.length_cons]; omega)
          rw [hu] at hj ⊢
          rw [bdy_two, if_neg hxx]
          refine Ev.step (fun k => ?_) hj
          have hn := fun e => hxx ((or_x y).2 e)
          simp only [incipitref04_Read.j0]
          rw [if_neg (by simp), if_pos hz, hb1, if_pos (h35.2 rfl), if_pos (by rw [List.length_cons]; omega), if_pos hz3, hb2, if_neg (fun e => hn (.inl (h120.1 e))), show ((y.toNat : Int) == 88) = false from beq_eq_false_iff_ne.2 (fun e => hn (.inr (h88.1 e)))]
  · rw [bdy_no x1 _ hx]
    have hr := rnamed_ev (x1 :: upto t1)
    refine Ev.step (f := fun k => (incipitref04_Named.f k (B (x1 :: upto t1))).bind fun bt121 => (if bt121.2 = true then (some (bt121.1, wrap64 ((((upto t1).length + 2 : Nat) : Int) + 1))) else (some ((⟨#[]⟩ : ByteArray), 0)))) (fun k => ?_) (Ev.bind hr ?_)
    · simp only [incipitref04_Read.j0]
      rw [if_neg (by simp), if_pos hz, hb1, if_neg (fun e => hx (h35.1 e)), if_pos (by omega), if_pos hz2, B_extract, Int.toNat_natCast]
      show (incipitref04_Named.f k (B (List.take ((upto t1).length + 1) (x1 :: t1)))).bind _ = _
      rw [List.take_succ_cons, upto_take]
    · unfold resE
      rw [w64 (by omega) (by omega)]
      by_cases hc : (nmd (x1 :: upto t1)).2 = true
      · rw [if_pos hc]
        exact Ev.congr (fun k => by rw [if_pos hc]) (Ev.now _)
      · rw [if_neg hc]
        exact Ev.congr (fun k => by rw [if_neg hc]) (Ev.now _)
theorem rread_ev (s : List UInt8) (hs : s.length ≤ 1048576) : Ev (fun k => incipitref04_Read.f k (B s)) (rdE s) := by
  unfold incipitref04_Read.f
  refine Ev.bind (end_ev s (by omega)) ?_
  have hno : ∀ e : Int, e < 2 → rdE s = (⟨#[]⟩, 0) → Ev (fun k => if e < 2 then (incipitref04_Read.j0 k (B s) e true) else (if 0 < ((B s).size : Int) then (incipitref04_Read.j0 k (B s) e ((bt (B s) 0) != 38)) else (none))) (rdE s) := by
    intro e he hr
    rw [hr]
    exact Ev.congr (fun k => by rw [if_pos he]) (rd_no (B s) e)
  cases s with
  | nil => exact hno _ (by decide) rfl
  | cons x t =>
    rw [List.length_cons] at hs
    have hl := upto_len t
    by_cases hx59 : x = 59
    · subst hx59
      rw [if_pos (by simp), upto, if_pos rfl]
      exact hno _ (by decide) rfl
    · have hm : (59 : UInt8) ∈ x :: t ↔ (59 : UInt8) ∈ t := by rw [List.mem_cons]; exact ⟨fun h' => h'.resolve_left (fun e => hx59 e.symm), .inr⟩
      by_cases h : (59 : UInt8) ∈ t
      · rw [if_pos (hm.2 h), upto, if_neg hx59, List.length_cons]
        cases t with
        | nil => cases h
        | cons x1 t1 =>
          by_cases hx1 : x1 = 59
          · have hu : upto (x1 :: t1) = [] := by rw [upto, if_pos hx1]
            refine hno _ (by rw [hu]; decide) ?_
            rw [rdE, hu]
            have hb : bdy [] = (⟨#[]⟩, false) := nmd_nil
            rw [hb, if_neg (show ¬ (false = true) by decide)]
            split
            · first | rfl | (split <;> rfl)
            · rfl
          · have hu : upto (x1 :: t1) = x1 :: upto t1 := by rw [upto, if_neg hx1]
            have hm1 : (59 : UInt8) ∈ t1 := by rcases List.mem_cons.1 h with e | e; exact absurd e.symm hx1; exact e
            have hb0 : bt (B (x :: x1 :: t1)) 0 = (x.toNat : Int) := B_bt (x :: x1 :: t1) 0 (by simp)
            have h38 : ((x.toNat : Int) = 38) ↔ x = 38 := u8_eq _ 38 (by omega)
            rw [hu, List.length_cons]
            by_cases hx : x = 38
            · subst hx
              have hj := j0_ev x1 t1 hx1 hm1 (by rw [List.length_cons] at hs; omega)
              rw [rdE, if_pos rfl, if_pos h, hu]
              have he : (if (bdy (x1 :: upto t1)).2 = true then ((bdy (x1 :: upto t1)).1, ((x1 :: upto t1).length : Int) + 2) else ((⟨#[]⟩ : ByteArray), (0 : Int))) = resE (bdy (x1 :: upto t1)) (((upto t1).length + 2 : Nat) : Int) := by
                unfold resE
                split
                · rw [List.length_cons]
                  congr 1
                  try omega
                · rfl
              rw [he]
              refine Ev.congr (fun k => ?_) hj
              rw [if_neg (by omega), if_pos (by rw [B_size]; simp only [List.length_cons]; omega), hb0]
              rfl
            · rw [show rdE (x :: x1 :: t1) = (⟨#[]⟩, 0) from by rw [rdE, if_neg hx]]
              refine Ev.congr (fun k => ?_) (rd_no (B (x :: x1 :: t1)) (((upto t1).length + 1 + 1 : Nat) : Int))
              rw [if_neg (by omega), if_pos (by rw [B_size]; simp only [List.length_cons]; omega), hb0, show ((x.toNat : Int) != 38) = true from bne_iff_ne.2 (fun e => hx (h38.1 e))]
      · rw [if_neg (fun e => h (hm.1 e))]
        refine hno _ (by decide) ?_
        rw [rdE, if_neg h]
        split <;> rfl
end Go.Proofs.YtmkoooldekbpaaaDoor.Pure
