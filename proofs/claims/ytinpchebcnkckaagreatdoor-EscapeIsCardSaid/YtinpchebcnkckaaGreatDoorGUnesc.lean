/-
  The contract of escape.Unescape. Conditions: a text of at most 2^20 bytes; internal/bytealg.MaxLen holds a whole number ('Laid').
-/
import Derived.Test.YtinpchebcnkckaaGreatDoorGRead
import Derived.Test.YtinpchebcnkckaaGreatDoorPEsc
import Derived.WalkLawsBesides
import Derived.Laws.Cover4
namespace Go.Proofs.YtinpchebcnkckaaGreatDoor.PA
open Go.RowKit Go.Proofs.YtinpchebcnkckaaGreatDoor.Pl Go.Proofs.YtinpchebcnkckaaGreatDoorW.PrintWords Go.Proofs.YtinpchebcnkckaaGreatDoorW.PrintLast Go.Proofs.YtinpchebcnkckaaGreatDoorW.PrintMore Go.Proofs.YtinpchebcnkckaaGreatDoor.Pure
set_option linter.unusedVariables false

theorem enc_le (n : Int) : (Go.Utf8.encode n).size ≤ 4 := encode_size_le n
theorem emp_le : (⟨#[]⟩ : ByteArray).size ≤ 4 := by decide
theorem wr_str (acc : List UInt8) (S : ByteArray) : Lib.byteCells acc ++ Lib.strCells S = Lib.byteCells (acc ++ S.data.toList) := by rw [Lib.byteCells_append]; rfl
theorem nmd_le (t : List UInt8) : (nmd t).1.size ≤ 4 := by
  rcases nmd_cases t with ⟨k, hk, rfl⟩ | hn
  · rw [nmd_hit k hk]
    generalize enn k = n
    exact enc_le n
  · rw [nmd_miss t hn]
    exact emp_le
theorem chr_le (b most : Nat) (ok : UInt8 → Bool) (t : List UInt8) : (chr b most ok t).1.size ≤ 4 := by
  unfold chr
  split
  · exact emp_le
  · generalize fixr (num b t) = n
    exact enc_le n
theorem bdy_le (t : List UInt8) : (bdy t).1.size ≤ 4 := by
  cases t with
  | nil => exact nmd_le []
  | cons x d =>
    by_cases hx : x = 35
    · subst hx
      cases d with
      | nil => rw [bdy_35]; exact chr_le _ _ _ _
      | cons y d =>
        rw [bdy_two]
        split
        · exact chr_le _ _ _ _
        · exact chr_le _ _ _ _
    · rw [bdy_no x d hx]
      exact nmd_le _
theorem stp_len (l : List UInt8) : (stp l).1.length ≤ 4 * (stp l).2 := by
  cases l with
  | nil => exact Nat.zero_le _
  | cons x t =>
    rw [stp_cons]
    split
    · show (t.take 1).length ≤ _
      rw [List.length_take]
      omega
    · split
      · rename_i h0
        rcases rdE_cases (x :: t) with h | ⟨d, u, he, _, _, hr⟩
        · rw [h] at h0
          exact absurd h0 (by decide)
        · have h4 := bdy_le d
          rw [hr]
          show (bdy d).1.data.toList.length ≤ 4 * ((d.length : Int) + 2).toNat
          rw [Array.length_toList]
          have : (bdy d).1.data.size ≤ 4 := h4
          omega
      · show 1 ≤ 4 * 1
        decide
theorem step_to (s acc p : List UInt8) (x : UInt8) (t : List UInt8) (n : Nat) (h : stp (x :: t) = (p, n)) (hl : (x :: t).length ≤ s.length) (hs : acc.length + 4 * (x :: t).length ≤ 4 * s.length) (he : acc ++ une (x :: t) = une s) :
    ((x :: t).drop n).length ≤ s.length ∧ (acc ++ p).length + 4 * ((x :: t).drop n).length ≤ 4 * s.length ∧ (acc ++ p) ++ une ((x :: t).drop n) = une s ∧ ((x :: t).drop n).length < (x :: t).length := by
  have h1 := stp_len (x :: t)
  have h2 := stp_pos (x :: t)
  have h3 := stp_le x t
  have h4 := une_cons x t
  rw [h] at h1 h2 h3 h4
  simp only at h1 h2 h3 h4
  rw [List.length_append, List.length_drop]
  refine ⟨by omega, by omega, ?_, by omega⟩
  rw [List.append_assoc, ← h4]
  exact he
set_option maxHeartbeats 1000000 in
theorem sign_any (x : UInt8) (w : World) : Calls Tryz.prog 17 #[.int .u8 (x.toNat : Int)] w fun e w' => e = .returned (.bool (sgn x)) ∧ Below w.heap.size w w' := by
  have hp := punct_walk (x.toNat : Int)
  by_cases h : x.toNat < 128
  · have hs : sgn x = punct (x.toNat : Int) := by unfold sgn; rw [decide_eq_true h, Bool.true_and]
    rw [← hs] at hp
    have q : decide ((x.toNat : Int) < 128) = true := decide_eq_true (by omega)
    have HP := Lib.hid hp
    clear hp hs
    go_enter Tryz.func17, Tryz.ntmps17
    go_wp2_with (first | (go_at_call 30; refine (HP.out _).mono ?_; rintro e w' ⟨rfl, hb⟩; have HB := Lib.hid hb; clear hb))
    go_ret
    exact ⟨rfl, HB.out⟩
  · have hs : sgn x = false := by unfold sgn; rw [decide_eq_false h, Bool.false_and]
    rw [hs]
    have q : decide ((x.toNat : Int) < 128) = false := decide_eq_false (by omega)
    clear hp hs
    go_enter Tryz.func17, Tryz.ntmps17
    go_wp2
    go_ret
    exact ⟨rfl, Below.refl _ _⟩
theorem isB_belowU {T e B b : Nat} {bs : List Value} {w w' : World} (h : Lib.IsBuilder T e B b bs w) (hb : Below w.heap.size w w') : Lib.IsBuilder T e B b bs w' := by
  have go : ∀ p, Lib.BuilderAt T e B b p bs w → Lib.BuilderAt T e B b p bs w' := by
    intro p h
    have hlt := h.lt
    obtain ⟨h1, v, h2, h3, h4⟩ := h
    exact ⟨h1, v, (hb.block _ hlt).trans h2, pw_own_below h3 hb, h4⟩
  rcases h with h | h
  · exact .inl (go _ h)
  · exact .inr (go _ h)
set_option maxHeartbeats 8000000 in
set_option maxRecDepth 100000 in
theorem unesc_walk (s : List UInt8) (hs : s.length ≤ 1048576) (w : World) (hLd : Laid w) :
    Calls Tryz.prog 15 #[.string (B s)] w fun e w' => e = .returned (.string (B (une s))) ∧ Below w.heap.size w w' := by
  have HL := Lib.hid hLd
  clear hLd
  go_enter Tryz.func15, Tryz.ntmps15
  go_wp2
  go_loopw [0] (fun v0 wr => ∃ l acc : List UInt8, v0 = .string (B l) ∧ l.length ≤ s.length ∧ Hid (acc.length + 4 * l.length ≤ 4 * s.length) ∧ Hid (acc ++ une l = une s) ∧ Hid (Lib.IsBuilder 33 5 w.heap.size w.heap.size (Lib.byteCells acc) wr) ∧ Hid (Below w.heap.size w wr)) (fun v0 _ => match v0 with | .string x => x.size | _ => 0)
  case atStart => exact ⟨s, [], rfl, Nat.le_refl _, Lib.hid (by simp), Lib.hid rfl, Lib.hid (Lib.fresh_isBuilder _ _ w), Lib.hid ((Below.refl _ w).alloc (Nat.le_refl _) _)⟩
  case round =>
    obtain ⟨l, acc, rfl, hl, HS, HE, HI, HB⟩ := hrel
    cases l with
    | nil =>
      have hE : acc = une s := (List.append_nil acc).symm.trans HE.out
      have hne : (B []).toList = [] := B_toList []
      have hI := HI.out
      rw [hE] at hI
      have HI2 := Lib.hid hI
      have hbs := HB.out.size
      clear hI hE
      go_wp2_with (go_at_call 26; refine (Tryz.Builder_String_any w.heap.size w.heap.size (une s) _ HI2.out hbs).mono ?_; rintro e w1 ⟨rfl, hb1⟩)
      repeat (first | refine ex_noGoto_ret ?_ | refine ex_block_ret ?_ | refine ex_then_ret ?_)
      go_ret
      exact ⟨rfl, HB.out.trans hb1⟩
    | cons x t =>
      have hne : (B (x :: t)).toList.isEmpty = false := by rw [B_toList]; rfl
      have hne2 : (B (x :: t)).toList = x :: t := B_toList _
      have hsz : (B (x :: t)).size = t.length + 1 := B_size _
      have hz : 0 < (B (x :: t)).size := by omega
      have hi0 : (B (x :: t))[0]'hz = x := rfl
      have h01 : (B (x :: t)).extract 0 1 = B [x] := by rw [B_to]; rfl
      have h1n : (B (x :: t)).extract 1 (t.length + 1) = B t := B_from (x :: t) 1 _ rfl
      have hbs := HB.out.size
      by_cases h92 : x = 92
      · have q92 : ((x.toNat : Int) == 92) = true := by rw [h92]; rfl
        have q38 : ((x.toNat : Int) == 38) = false := by rw [h92]; rfl
        have hrd : ¬ 0 < (rdE (x :: t)).2 := by rw [rdE_ne x t (by rw [h92]; decide)]; decide
        cases t with
        | nil =>
          have hst : stp (x :: []) = ([x], 1) := stp_one x [] (fun _ y u e => by cases e) hrd
          clear hrd h92
          have hp4 : (B [x]).size ≤ 4 := by rw [B_size]; simp
          have hpd : (B [x]).data.toList = [x] := B_data _
          have HB1 := HB
          have HI1 := HI
          have hbs1 := hbs
          have HF := Lib.hid (step_to s acc [x] x ([]) 1 hst hl HS.out HE.out)
          have hS4 := Lib.hid (show acc.length + (B [x]).size ≤ 140737488355328 by have := HS.out; have := hp4; omega)
          have HSd := Lib.hid (show (B [x]).data.toList = [x] from hpd)
          clear hst hl HS HE hp4 hpd
          go_wp2_with fail
          with_reducible refine (Tryz.Builder_WriteString w.heap.size w.heap.size _ (B [x]) _ HI1.out (by rw [Lib.byteCells_length]; exact hS4.out) hbs1).mono ?_
          rintro e w2 ⟨rfl, h2, b2⟩
          rw [wr_str, HSd.out] at h2
          have HI2 := Lib.hid h2
          have HB2 := Lib.hid (HB1.out.trans b2)
          clear h2 b2
          go_wp2
          go_roundw
          case rel => exact ⟨_, _, rfl, HF.out.1, Lib.hid HF.out.2.1, Lib.hid HF.out.2.2.1, Lib.hid (.inr HI2.out), HB2⟩
          case measure =>
            change (B ((x :: []).drop 1)).size < (B (x :: [])).size
            rw [B_size, B_size]
            exact HF.out.2.2.2
        | cons y u =>
          have hz2 : 1 < (B (x :: y :: u)).size := by rw [B_size]; simp
          have hi1 : (B (x :: y :: u))[1]'hz2 = y := rfl
          have h12 : (B (x :: y :: u)).extract 1 2 = B [y] := by rw [B_extract]; rfl
          have hz3 : 2 ≤ (B (x :: y :: u)).size := hz2
          have hz4 : 2 ≤ u.length + 1 + 1 := by omega
          have hz5 : (2 : Int) ≤ ((B (x :: y :: u)).size : Int) := by omega
          have hz6 : (2 : Int) ≤ (u.length : Int) + 1 + 1 := by omega
          have h2n : (B (x :: y :: u)).extract 2 (u.length + 1 + 1) = B u := B_from (x :: y :: u) 2 _ rfl
          have hgt : decide ((1 : Int) < (((y :: u).length : Nat) : Int) + 1) = true := decide_eq_true (by rw [List.length_cons]; omega)
          have HG := Lib.hid (sign_any y)
          simp only [List.length_cons] at hgt hsz h1n
          cases hsg : sgn y with
          | true =>
            rw [hsg] at HG
            have hst : stp (x :: y :: u) = ([y], 2) := by rw [h92]; exact stp_sgn y u hsg
            clear hrd h92 hsg
            have hp4 : (B [y]).size ≤ 4 := by rw [B_size]; simp
            have hpd : (B [y]).data.toList = [y] := B_data _
            go_wp2_with fail
            refine (HG.out _).mono ?_
            rintro e w1 ⟨rfl, hb1⟩
            have HB1 := Lib.hid (HB.out.trans (hb1.mono hbs))
            have HI1 := Lib.hid (isB_belowU HI.out hb1)
            have hbs1 := HB1.out.size
            clear hb1
            have HF := Lib.hid (step_to s acc [y] x (y :: u) 2 hst hl HS.out HE.out)
            have hS4 := Lib.hid (show acc.length + (B [y]).size ≤ 140737488355328 by have := HS.out; have := hp4; omega)
            have HSd := Lib.hid (show (B [y]).data.toList = [y] from hpd)
            clear hst hl HS HE hp4 hpd
            go_wp2_with fail
            with_reducible refine (Tryz.Builder_WriteString w.heap.size w.heap.size _ (B [y]) _ HI1.out (by rw [Lib.byteCells_length]; exact hS4.out) hbs1).mono ?_
            rintro e w2 ⟨rfl, h2, b2⟩
            rw [wr_str, HSd.out] at h2
            have HI2 := Lib.hid h2
            have HB2 := Lib.hid (HB1.out.trans b2)
            clear h2 b2
            go_wp2
            go_roundw
            case rel => exact ⟨_, _, rfl, HF.out.1, Lib.hid HF.out.2.1, Lib.hid HF.out.2.2.1, Lib.hid (.inr HI2.out), HB2⟩
            case measure =>
              change (B ((x :: y :: u).drop 2)).size < (B (x :: y :: u)).size
              rw [B_size, B_size]
              exact HF.out.2.2.2
          | false =>
            rw [hsg] at HG
            have hst : stp (x :: y :: u) = ([x], 1) := stp_one x (y :: u) (fun _ y' u' e => by cases e; exact hsg) hrd
            clear hrd h92 hsg
            have hp4 : (B [x]).size ≤ 4 := by rw [B_size]; simp
            have hpd : (B [x]).data.toList = [x] := B_data _
            go_wp2_with fail
            refine (HG.out _).mono ?_
            rintro e w1 ⟨rfl, hb1⟩
            have HB1 := Lib.hid (HB.out.trans (hb1.mono hbs))
            have HI1 := Lib.hid (isB_belowU HI.out hb1)
            have hbs1 := HB1.out.size
            clear hb1
            have HF := Lib.hid (step_to s acc [x] x (y :: u) 1 hst hl HS.out HE.out)
            have hS4 := Lib.hid (show acc.length + (B [x]).size ≤ 140737488355328 by have := HS.out; have := hp4; omega)
            have HSd := Lib.hid (show (B [x]).data.toList = [x] from hpd)
            clear hst hl HS HE hp4 hpd
            go_wp2_with fail
            with_reducible refine (Tryz.Builder_WriteString w.heap.size w.heap.size _ (B [x]) _ HI1.out (by rw [Lib.byteCells_length]; exact hS4.out) hbs1).mono ?_
            rintro e w2 ⟨rfl, h2, b2⟩
            rw [wr_str, HSd.out] at h2
            have HI2 := Lib.hid h2
            have HB2 := Lib.hid (HB1.out.trans b2)
            clear h2 b2
            go_wp2
            go_roundw
            case rel => exact ⟨_, _, rfl, HF.out.1, Lib.hid HF.out.2.1, Lib.hid HF.out.2.2.1, Lib.hid (.inr HI2.out), HB2⟩
            case measure =>
              change (B ((x :: y :: u).drop 1)).size < (B (x :: y :: u)).size
              rw [B_size, B_size]
              exact HF.out.2.2.2
      · have q92 : ((x.toNat : Int) == 92) = false := beq_eq_false_iff_ne.2 (fun e => h92 ((u8_eq x 92 (by decide)).1 e))
        by_cases h38 : x = 38
        · have q38 : ((x.toNat : Int) == 38) = true := by rw [h38]; rfl
          have HRd := Lib.hid (fun W hW => read_walk (x :: t) (by rw [List.length_cons] at hl ⊢; omega) W hW)
          by_cases hk : 0 < (rdE (x :: t)).2
          · have hst0 : stp (x :: t) = ((rdE (x :: t)).1.data.toList, (rdE (x :: t)).2.toNat) := by rw [stp_cons, if_neg (fun e => h92 e.1), if_pos hk]
            obtain ⟨kn, hkn⟩ := Int.eq_ofNat_of_zero_le (show 0 ≤ (rdE (x :: t)).2 by omega)
            have hle := stp_le x t
            have hl4 := stp_len (x :: t)
            obtain ⟨Q, hQ⟩ : ∃ Q, (rdE (x :: t)).1 = Q := ⟨_, rfl⟩
            rw [hst0] at hle hl4
            simp only [hkn, hQ, Int.toNat_natCast] at hle hl4
            rw [hkn, hQ] at HRd
            have hst : stp (x :: t) = (Q.data.toList, kn) := by rw [hst0, hkn, hQ, Int.toNat_natCast]
            have qk : decide (0 < (kn : Int)) = true := decide_eq_true (by omega)
            have qk2 : 0 < kn := by omega
            have qk3 : (0 : Int) < (kn : Int) := by omega
            have hp4 : Q.size ≤ 4 * s.length := by
              have e : Q.data.toList.length = Q.size := Array.length_toList
              omega
            have hpd : Q.data.toList = Q.data.toList := rfl
            have hkn2 : kn ≤ t.length + 1 := by rw [List.length_cons] at hle; exact hle
            have hkn3 : kn ≤ (B (x :: t)).size := by rw [hsz]; exact hkn2
            have hkx : (B (x :: t)).extract kn (t.length + 1) = B ((x :: t).drop kn) := B_from (x :: t) kn _ rfl
            clear hst0 hkn hQ hle hl4 hk h92 h38
            go_wp2_with fail
            refine (HRd.out _ (HL.out.go HB.out)).mono ?_
            rintro e w1 ⟨rfl, hb1⟩
            have HB1 := Lib.hid (HB.out.trans (hb1.mono hbs))
            have HI1 := Lib.hid (isB_belowU HI.out hb1)
            have hbs1 := HB1.out.size
            clear hb1
            have HF := Lib.hid (step_to s acc Q.data.toList x (t) kn hst hl HS.out HE.out)
            have hS4 := Lib.hid (show acc.length + Q.size ≤ 140737488355328 by have := HS.out; have := hp4; omega)
            have HSd := Lib.hid (show (Q).data.toList = Q.data.toList from rfl)
            clear hst hl HS HE hp4
            go_wp2_with fail
            with_reducible refine (Tryz.Builder_WriteString w.heap.size w.heap.size _ (Q) _ HI1.out (by rw [Lib.byteCells_length]; exact hS4.out) hbs1).mono ?_
            rintro e w2 ⟨rfl, h2, b2⟩
            rw [wr_str] at h2
            have HI2 := Lib.hid h2
            have HB2 := Lib.hid (HB1.out.trans b2)
            clear h2 b2
            go_wp2
            go_roundw
            case rel => exact ⟨_, _, rfl, HF.out.1, Lib.hid HF.out.2.1, Lib.hid HF.out.2.2.1, Lib.hid (.inr HI2.out), HB2⟩
            case measure =>
              change (B ((x :: t).drop kn)).size < (B (x :: t)).size
              rw [B_size, B_size]
              exact HF.out.2.2.2
          · have hst : stp (x :: t) = ([x], 1) := stp_one x t (fun e => absurd e h92) hk
            have hr0 : rdE (x :: t) = (⟨#[]⟩, 0) := by
              rcases rdE_cases (x :: t) with h | ⟨d, u, he, _, _, hr⟩
              · exact h
              · rw [hr] at hk
                exact absurd (show (0 : Int) < (d.length : Int) + 2 by omega) hk
            rw [hr0] at HRd
            clear hr0 hk h92 h38
            have hp4 : (B [x]).size ≤ 4 := by rw [B_size]; simp
            have hpd : (B [x]).data.toList = [x] := B_data _
            go_wp2_with fail
            refine (HRd.out _ (HL.out.go HB.out)).mono ?_
            rintro e w1 ⟨rfl, hb1⟩
            have HB1 := Lib.hid (HB.out.trans (hb1.mono hbs))
            have HI1 := Lib.hid (isB_belowU HI.out hb1)
            have hbs1 := HB1.out.size
            clear hb1
            have HF := Lib.hid (step_to s acc [x] x (t) 1 hst hl HS.out HE.out)
            have hS4 := Lib.hid (show acc.length + (B [x]).size ≤ 140737488355328 by have := HS.out; have := hp4; omega)
            have HSd := Lib.hid (show (B [x]).data.toList = [x] from hpd)
            clear hst hl HS HE hp4 hpd
            go_wp2_with fail
            with_reducible refine (Tryz.Builder_WriteString w.heap.size w.heap.size _ (B [x]) _ HI1.out (by rw [Lib.byteCells_length]; exact hS4.out) hbs1).mono ?_
            rintro e w2 ⟨rfl, h2, b2⟩
            rw [wr_str, HSd.out] at h2
            have HI2 := Lib.hid h2
            have HB2 := Lib.hid (HB1.out.trans b2)
            clear h2 b2
            go_wp2
            go_roundw
            case rel => exact ⟨_, _, rfl, HF.out.1, Lib.hid HF.out.2.1, Lib.hid HF.out.2.2.1, Lib.hid (.inr HI2.out), HB2⟩
            case measure =>
              change (B ((x :: t).drop 1)).size < (B (x :: t)).size
              rw [B_size, B_size]
              exact HF.out.2.2.2
        · have q38 : ((x.toNat : Int) == 38) = false := beq_eq_false_iff_ne.2 (fun e => h38 ((u8_eq x 38 (by decide)).1 e))
          have hst : stp (x :: t) = ([x], 1) := stp_plain x t h92 h38
          clear h92 h38
          have hp4 : (B [x]).size ≤ 4 := by rw [B_size]; simp
          have hpd : (B [x]).data.toList = [x] := B_data _
          have HB1 := HB
          have HI1 := HI
          have hbs1 := hbs
          have HF := Lib.hid (step_to s acc [x] x (t) 1 hst hl HS.out HE.out)
          have hS4 := Lib.hid (show acc.length + (B [x]).size ≤ 140737488355328 by have := HS.out; have := hp4; omega)
          have HSd := Lib.hid (show (B [x]).data.toList = [x] from hpd)
          clear hst hl HS HE hp4 hpd
          go_wp2_with fail
          with_reducible refine (Tryz.Builder_WriteString w.heap.size w.heap.size _ (B [x]) _ HI1.out (by rw [Lib.byteCells_length]; exact hS4.out) hbs1).mono ?_
          rintro e w2 ⟨rfl, h2, b2⟩
          rw [wr_str, HSd.out] at h2
          have HI2 := Lib.hid h2
          have HB2 := Lib.hid (HB1.out.trans b2)
          clear h2 b2
          go_wp2
          go_roundw
          case rel => exact ⟨_, _, rfl, HF.out.1, Lib.hid HF.out.2.1, Lib.hid HF.out.2.2.1, Lib.hid (.inr HI2.out), HB2⟩
          case measure =>
            change (B ((x :: t).drop 1)).size < (B (x :: t)).size
            rw [B_size, B_size]
            exact HF.out.2.2.2
def escape_Unescape.f (a0 : ByteArray) : Option ByteArray := if a0.size ≤ 1048576 then some (B (une a0.data.toList)) else none
theorem escape_Unescape.calls (a0 : ByteArray) (r : ByteArray) (w : World) (hLd : Laid w) (h : escape_Unescape.f a0 = some r) :
    Calls Tryz.prog 15 #[.string a0] w fun e w' => e = .returned (.string r) ∧ Below w.heap.size w w' := by
  unfold escape_Unescape.f at h
  split at h
  · rename_i hc
    obtain rfl := Option.some.inj h
    exact unesc_walk a0.data.toList (by rw [Array.length_toList]; exact hc) w hLd
  · cases h
end Go.Proofs.YtinpchebcnkckaaGreatDoor.PA
