/-
  Texts of the proof of RefsFirst, part 3 of 6: contracts and plain laws. Conditions: see each statement.
-/
import Derived.Test.YtekifcbokdidlaaGreatDoorSRefsFirst2
import Derived.Great.BuildSlice
import Derived.Test.YtekifcbokdidlaaGreatDoorSRefsFirst1
import Derived.Lib.IndexMore
import Derived.WalkKit
import Derived.BigCall
import Derived.Lib.Hide
import Derived.ChangeKeysEq
import Derived.KernelRfl
import Derived.WalkLawsBesides
import Derived.Laws.Cover4
set_option linter.unusedVariables false
namespace Go.Proofs.YtekifcbokdidlaaGreatDoor.PA
open Go.RowKit Go.Proofs.YtekifcbokdidlaaGreatDoor.Pl Go.Proofs.YtekifcbokdidlaaGreatDoorW.PrintWords Go.Proofs.YtekifcbokdidlaaGreatDoorW.PrintLast Go.Proofs.YtekifcbokdidlaaGreatDoorW.PrintMore
set_option linter.unusedVariables false

/-- The character of what stands between & and ;. -/
def bdy : List UInt8 → ByteArray × Bool
  | [] => nmd []
  | x :: d => if x = 35 then
      match d with
      | [] => chr 10 7 dg []
      | y :: t => if (y.toNat ||| 32) = 120 then chr 16 6 hxd t else chr 10 7 dg (y :: t)
    else nmd (x :: d)
theorem bdy_no (x : UInt8) (d : List UInt8) (h : x ≠ 35) : bdy (x :: d) = nmd (x :: d) := by simp [bdy, h]
theorem bdy_35 : bdy [35] = chr 10 7 dg [] := rfl
theorem bdy_two (y : UInt8) (t : List UInt8) : bdy (35 :: y :: t) = if (y.toNat ||| 32) = 120 then chr 16 6 hxd t else chr 10 7 dg (y :: t) := rfl
set_option maxHeartbeats 4000000 in
set_option maxRecDepth 100000 in
theorem body_walk (s : List UInt8) (hs : s.length ≤ 1099511627776) (w : World) : Calls Tryz.prog 99 #[.string (B s)] w fun e w' => e = .returned (.tuple #[.string (bdy s).1, .bool (bdy s).2]) ∧ Below w.heap.size w w' := by
  have hcp := Tryz.strings_CutPrefix (B s) ⟨#[35]⟩
  rw [B_data, show (⟨#[35]⟩ : ByteArray).data.toList = [35] from rfl] at hcp
  obtain ⟨⟨q1, q2⟩, hq⟩ : ∃ q, bdy s = q := ⟨_, rfl⟩
  rw [hq]
  have hplain : Lib.hasPrefix s [35] = false → bdy s = nmd s := by
    intro h
    cases s with
    | nil => rfl
    | cons x d =>
      have hx : x ≠ 35 := by
        intro e
        subst e
        simp [Lib.hasPrefix, List.isPrefixOf] at h
      exact bdy_no x d hx
  cases hp : Lib.hasPrefix s [35] with
  | false =>
    have hr := hplain hp
    rw [hq] at hr
    have ht : Lib.trimPrefix s [35] = s := by unfold Lib.trimPrefix; rw [hp]; rfl
    rw [hp, ht] at hcp
    have HC := Lib.hid hcp
    have HN := Lib.hid (named_walk s)
    rw [← hr] at HN
    clear hcp hq hp hr ht hplain
    go_enter Tryz.func99, Tryz.ntmps99
    go_wp2_with (first | (go_at_call 27; refine (HC.out _).mono ?_; rintro e w' ⟨rfl, rfl⟩) | (go_at_call 118; refine (HN.out _).mono ?_; rintro e w' ⟨rfl, hb⟩; have HB := Lib.hid hb; clear hb))
    go_ret2
    exact ⟨rfl, HB.out⟩
  | true =>
    obtain ⟨d, rfl⟩ : ∃ d, s = 35 :: d := by
      cases s with
      | nil => cases hp
      | cons x d =>
        simp [Lib.hasPrefix, List.isPrefixOf] at hp
        exact ⟨d, by rw [hp]⟩
    have ht : Lib.trimPrefix (35 :: d) [35] = d := by unfold Lib.trimPrefix; rw [hp]; rfl
    rw [hp, ht] at hcp
    have HC := Lib.hid (show ∀ w, Calls Tryz.prog 27 #[.string (B (35 :: d)), .string ⟨#[35]⟩] w fun e w' => e = .returned (.tuple #[.string (B d), .bool true]) ∧ w' = w from hcp)
    clear hcp hp ht hplain
    rw [List.length_cons] at hs
    generalize B (35 :: d) = S0 at HC ⊢
    cases d with
    | nil =>
      have hb := hq.symm.trans bdy_35
      clear hq
      have HN := Lib.hid (chr10 [] (by simp))
      rw [← hb] at HN
      have hemp : (B []).toList = [] := B_toList []
      have hem2 : (B []).toList.isEmpty = true := by rw [hemp]; rfl
      clear hb
      go_enter Tryz.func99, Tryz.ntmps99
      go_wp2_with (first | (go_at_call 27; refine (HC.out _).mono ?_; rintro e w' ⟨rfl, rfl⟩) | (go_at_call 119; refine (HN.out _).mono ?_; rintro e w' ⟨rfl, hb⟩; have HB := Lib.hid hb; clear hb))
      go_ret2
      exact ⟨rfl, HB.out⟩
    | cons y t =>
      have hb := hq.symm.trans (bdy_two y t)
      clear hq
      have hemp : (B (y :: t)).toList.isEmpty = false := by rw [B_toList]; rfl
      have hz : 0 < (B (y :: t)).size := by rw [B_size]; simp
      have hz1 : 1 ≤ (B (y :: t)).size := hz
      have hi : (B (y :: t))[0]'hz = y := rfl
      have h32 := or32 y
      by_cases hxy : (y.toNat ||| 32) = 120
      · rw [if_pos hxy] at hb
        have HN := Lib.hid (chr16 t (by simp at hs; omega))
        rw [← hb] at HN
        have hex : (B (y :: t)).extract 1 (B (y :: t)).size = B t := B_from (y :: t) 1 _ (B_size _)
        have h120 : bits .or .u8 (((B (y :: t))[0]'hz).toNat : Int) 32 = 120 := by rw [hi, h32, hxy]; rfl
        clear hb hi h32 hxy
        go_enter Tryz.func99, Tryz.ntmps99
        go_wp2_with (first | (go_at_call 27; refine (HC.out _).mono ?_; rintro e w' ⟨rfl, rfl⟩) | (go_at_call 119; refine (HN.out _).mono ?_; rintro e w' ⟨rfl, hb⟩; have HB := Lib.hid hb; clear hb))
        go_ret2
        exact ⟨rfl, HB.out⟩
      · rw [if_neg hxy] at hb
        have HN := Lib.hid (chr10 (y :: t) (by simp at hs ⊢; omega))
        rw [← hb] at HN
        have h120 : (bits .or .u8 (((B (y :: t))[0]'hz).toNat : Int) 32 == 120) = false := by rw [hi, h32]; exact beq_eq_false_iff_ne.2 (by omega)
        clear hb hi h32 hxy
        go_enter Tryz.func99, Tryz.ntmps99
        go_wp2_with (first | (go_at_call 27; refine (HC.out _).mono ?_; rintro e w' ⟨rfl, rfl⟩) | (go_at_call 119; refine (HN.out _).mono ?_; rintro e w' ⟨rfl, hb⟩; have HB := Lib.hid hb; clear hb))
        go_ret2
        exact ⟨rfl, HB.out⟩
def entity_body.f (a0 : ByteArray) : Option (ByteArray × Bool) := if a0.size ≤ 1073741824 then some (bdy a0.data.toList) else none
theorem entity_body.calls (a0 : ByteArray) (r1 : ByteArray) (r2 : Bool) (w : World) (h : entity_body.f a0 = some (r1, r2)) :
    Calls Tryz.prog 99 #[.string a0] w fun e w' => e = .returned (.tuple #[.string r1, .bool r2]) ∧ Below w.heap.size w w' := by
  unfold entity_body.f at h
  split at h
  · rename_i hc
    have h2 := body_walk a0.data.toList (by rw [Array.length_toList]; show a0.size ≤ _; omega) w
    rw [Option.some.inj h, B_eta] at h2
    exact h2
  · cases h
end Go.Proofs.YtekifcbokdidlaaGreatDoor.PA

namespace Go.Proofs.YtekifcbokdidlaaGreatDoor.PA
open Go.RowKit Go.Proofs.YtekifcbokdidlaaGreatDoor.Pl Go.Proofs.YtekifcbokdidlaaGreatDoorW.PrintWords Go.Proofs.YtekifcbokdidlaaGreatDoorW.PrintLast Go.Proofs.YtekifcbokdidlaaGreatDoorW.PrintMore
set_option linter.unusedVariables false

end Go.Proofs.YtekifcbokdidlaaGreatDoor.PA

namespace Go.Proofs.YtekifcbokdidlaaGreatDoor.Pure
open Go.RowKit Go.Proofs.YtekifcbokdidlaaGreatDoorW.PrintWords Go.Proofs.YtekifcbokdidlaaGreatDoorW.PrintMore Go.Proofs.YtekifcbokdidlaaGreatDoor.Pl Go.Proofs.YtekifcbokdidlaaGreatDoor.PA

/-- What stands ahead of the first ;. -/
def upto : List UInt8 → List UInt8
  | [] => []
  | x :: t => if x = 59 then [] else x :: upto t
theorem upto_len : ∀ t : List UInt8, (upto t).length ≤ t.length
  | [] => Nat.le_refl _
  | x :: t => by
    have := upto_len t
    unfold upto
    split
    · simp
    · simp; exact this
theorem upto_lt : ∀ t : List UInt8, (59 : UInt8) ∈ t → (upto t).length < t.length
  | [], h => by cases h
  | x :: t, h => by
    unfold upto
    split
    · simp
    · rename_i hx
      have := upto_lt t (by rcases List.mem_cons.1 h with e | e; exact absurd e.symm hx; exact e)
      simpa using this
theorem upto_take : ∀ t : List UInt8, t.take (upto t).length = upto t
  | [] => rfl
  | x :: t => by
    unfold upto
    split
    · rfl
    · simp [upto_take t]
theorem upto_no : ∀ t : List UInt8, (59 : UInt8) ∉ upto t
  | [] => by simp [upto]
  | x :: t => by
    unfold upto
    split
    · simp
    · rename_i hx
      rw [List.mem_cons]
      rintro (e | e)
      · exact hx e.symm
      · exact upto_no t e
theorem idx59 : ∀ t : List UInt8, Lib.index t [59] = if (59 : UInt8) ∈ t then ((upto t).length : Int) else -1
  | [] => by rw [if_neg (by simp)]; rfl
  | x :: t => by
    rw [Lib.index, upto]
    by_cases hx : x = 59
    · subst hx
      rw [if_pos (by simp [List.isPrefixOf]), if_pos (by simp), if_pos rfl]
      rfl
    · have hm : (59 : UInt8) ∈ x :: t ↔ (59 : UInt8) ∈ t := by rw [List.mem_cons]; exact ⟨fun h => h.resolve_left (fun e => hx e.symm), .inr⟩
      rw [if_neg (by simp [List.isPrefixOf] <;> exact fun e => hx e.symm), idx59 t, if_neg hx]
      by_cases h : (59 : UInt8) ∈ t
      · rw [if_pos h, if_pos (hm.2 h), if_neg (by simp <;> omega)]
        simp
      · rw [if_neg h, if_neg (fun e => h (hm.1 e))]
        rfl
theorem cut59 (t : List UInt8) : Lib.cut t [59] = if (59 : UInt8) ∈ t then (upto t, t.drop ((upto t).length + 1), true) else (t, [], false) := by
  unfold Lib.cut
  rw [idx59]
  by_cases h : (59 : UInt8) ∈ t
  · rw [if_pos h, if_pos (by omega), if_pos h, Int.toNat_natCast, upto_take]
    rfl
  · rw [if_neg h, if_neg (by decide), if_neg h]
/-- What is read. -/
def rdE : List UInt8 → ByteArray × Int
  | [] => (⟨#[]⟩, 0)
  | x :: t => if x = 38 then if (59 : UInt8) ∈ t then if (bdy (upto t)).2 = true then ((bdy (upto t)).1, ((upto t).length : Int) + 2) else (⟨#[]⟩, 0) else (⟨#[]⟩, 0) else (⟨#[]⟩, 0)
/-! #### names -/
theorem bsr_self : ∀ k, k < 183 → bsr (enm k) 183 0 183 = k := by
  have h : (List.range 183).all (fun k => bsr (enm k) 183 0 183 == k) = true := by decide +kernel
  intro k hk
  exact beq_iff_eq.1 (List.all_eq_true.1 h k (List.mem_range.2 hk))
theorem nmd_hit (k : Nat) (hk : k < 183) : nmd (enm k) = (Go.Utf8.encode (enn k), true) := by
  unfold nmd
  rw [bsr_self k hk, if_pos ⟨hk, rfl⟩]
theorem nmd_miss (t : List UInt8) (h : ∀ k, k < 183 → enm k ≠ t) : nmd t = (⟨#[]⟩, false) := by
  unfold nmd
  rw [if_neg (fun e => h _ e.1 e.2)]
theorem nmd_cases (t : List UInt8) : (∃ k, k < 183 ∧ enm k = t) ∨ ∀ k, k < 183 → enm k ≠ t := by
  by_cases h : ∃ k, k < 183 ∧ enm k = t
  · exact .inl h
  · exact .inr (fun k hk e => h ⟨k, hk, e⟩)
/-- What is read, and what is not. -/
theorem rdE_cases (s : List UInt8) : rdE s = (⟨#[]⟩, 0) ∨ ∃ d u, s = 38 :: (d ++ 59 :: u) ∧ (59 : UInt8) ∉ d ∧ (bdy d).2 = true ∧ rdE s = ((bdy d).1, (d.length : Int) + 2) := by
  cases s with
  | nil => exact .inl rfl
  | cons x t =>
    by_cases hx : x = 38
    · subst hx
      by_cases h : (59 : UInt8) ∈ t
      · by_cases hb : (bdy (upto t)).2 = true
        · have hl := upto_lt t h
          refine .inr ⟨upto t, t.drop ((upto t).length + 1), ?_, upto_no t, hb, by rw [rdE, if_pos rfl, if_pos h, if_pos hb]⟩
          congr 1
          have h59 : ∀ t : List UInt8, (59 : UInt8) ∈ t → t = upto t ++ 59 :: t.drop ((upto t).length + 1) := by
            intro t
            induction t with
            | nil => intro h; cases h
            | cons x t ih =>
              intro h
              by_cases hx : x = 59
              · subst hx
                simp [upto]
              · have h2 : (59 : UInt8) ∈ t := by rcases List.mem_cons.1 h with e | e; exact absurd e.symm hx; exact e
                rw [upto, if_neg hx, List.length_cons, List.drop_succ_cons, List.cons_append, ← ih h2]
          exact h59 t h
        · exact .inl (by rw [rdE, if_pos rfl, if_pos h, if_neg hb])
      · exact .inl (by rw [rdE, if_pos rfl, if_neg h])
    · exact .inl (by rw [rdE, if_neg hx])
end Go.Proofs.YtekifcbokdidlaaGreatDoor.Pure

namespace Go.Proofs.YtekifcbokdidlaaGreatDoor.PA
open Go.RowKit Go.Proofs.YtekifcbokdidlaaGreatDoor.Pl Go.Proofs.YtekifcbokdidlaaGreatDoorW.PrintWords Go.Proofs.YtekifcbokdidlaaGreatDoorW.PrintMore Go.Proofs.YtekifcbokdidlaaGreatDoor.Pure
set_option linter.unusedVariables false

theorem pre38 (s : List UInt8) (w : World) : Calls Tryz.prog 44 #[.string (B s), .string ⟨#[38]⟩] w fun e w' => e = .returned (.bool (decide (s.head? = some 38))) ∧ Drawn0 w w' := by
  refine strings_HasPrefix.calls (B s) ⟨#[38]⟩ _ w ?_
  unfold strings_HasPrefix.f
  rw [B_data, show (⟨#[38]⟩ : ByteArray).data.toList = [38] from rfl]
  congr 1
  cases s with
  | nil => rfl
  | cons x t =>
    by_cases hx : x = 38
    · subst hx
      simp [Lib.hasPrefix, List.isPrefixOf]
    · simp [Lib.hasPrefix, List.isPrefixOf, hx]
      exact fun e => hx e.symm
theorem cutB (t : List UInt8) (ht : t.length ≤ 1073741824) (w : World) (hLd : Laid w) : Calls Tryz.prog 98 #[.string (B t), .string ⟨#[59]⟩] w fun e w' =>
    e = .returned (if (59 : UInt8) ∈ t then .tuple #[.string (B (upto t)), .string (B (t.drop ((upto t).length + 1))), .bool true] else .tuple #[.string (B t), .string (B []), .bool false]) ∧ Below w.heap.size w w' := by
  by_cases h : (59 : UInt8) ∈ t
  · rw [if_pos h]
    refine strings_Cut.calls (B t) ⟨#[59]⟩ _ _ _ w hLd ?_
    unfold strings_Cut.f
    rw [if_pos (by rw [B_size]; omega), B_data, show (⟨#[59]⟩ : ByteArray).data.toList = [59] from rfl, cut59, if_pos h]
    rfl
  · rw [if_neg h]
    refine strings_Cut.calls (B t) ⟨#[59]⟩ _ _ _ w hLd ?_
    unfold strings_Cut.f
    rw [if_pos (by rw [B_size]; omega), B_data, show (⟨#[59]⟩ : ByteArray).data.toList = [59] from rfl, cut59, if_neg h]
    rfl
set_option maxHeartbeats 2000000 in
set_option maxRecDepth 100000 in
theorem read_walk (s : List UInt8) (hs : s.length ≤ 1073741824) (w : World) (hLd : Laid w) :
    Calls Tryz.prog 77 #[.string (B s)] w fun e w' => e = .returned (.tuple #[.string (rdE s).1, .int .i64 (rdE s).2]) ∧ Below w.heap.size w w' := by
  have HP := Lib.hid (pre38 s)
  have HL := Lib.hid hLd
  clear hLd
  by_cases h38 : s.head? = some 38
  · rw [decide_eq_true h38] at HP
    obtain ⟨t, rfl⟩ : ∃ t, s = 38 :: t := by
      cases s with
      | nil => cases h38
      | cons x t => exact ⟨t, by rw [Option.some.inj h38]⟩
    rw [List.length_cons] at hs
    have hsz : (B (38 :: t)).size = t.length + 1 := B_size _
    have hz1 : 1 ≤ (B (38 :: t)).size := by omega
    have hex : (B (38 :: t)).extract 1 (B (38 :: t)).size = B t := B_from (38 :: t) 1 _ (B_size _)
    have hex2 : (B (38 :: t)).extract 1 (t.length + 1) = B t := B_from (38 :: t) 1 _ rfl
    have hC := Lib.hid (cutB t (by omega))
    have hrd : rdE (38 :: t) = if (59 : UInt8) ∈ t then if (bdy (upto t)).2 = true then ((bdy (upto t)).1, ((upto t).length : Int) + 2) else (⟨#[]⟩, 0) else (⟨#[]⟩, 0) := by rw [rdE, if_pos rfl]
    rw [hrd]
    have hul := upto_len t
    clear hrd h38
    generalize B (38 :: t) = S at *
    by_cases h59 : (59 : UInt8) ∈ t
    · rw [if_pos h59] at hC ⊢
      have hB := Lib.hid (entity_body.calls (B (upto t)) (bdy (upto t)).1 (bdy (upto t)).2)
      have hf : entity_body.f (B (upto t)) = some ((bdy (upto t)).1, (bdy (upto t)).2) := by unfold entity_body.f; rw [if_pos (by rw [B_size]; omega), B_data]
      have HF := Lib.hid hf
      have hus : (B (upto t)).size = (upto t).length := B_size _
      clear hf h59
      generalize B (upto t) = U at *
      generalize B (t.drop ((upto t).length + 1)) = V at *
      generalize (bdy (upto t)).1 = Q1 at *
      cases hb : (bdy (upto t)).2 with
      | true =>
        rw [hb] at hB HF
        clear hb
        rw [if_pos rfl]
        generalize (upto t).length = n at *
        go_enter Tryz.func77, Tryz.ntmps77
        go_wp2_with fail
        refine (HP.out _).mono ?_
        rintro e w1 ⟨rfl, hd⟩
        have HB1 := Lib.hid hd.below
        clear hd
        go_wp2_with fail
        with_reducible refine (hC.out _ (HL.out.go HB1.out)).mono ?_
        rintro e w2 ⟨rfl, hb2⟩
        have HB2 := Lib.hid (HB1.out.trans (hb2.mono HB1.out.size))
        clear hb2
        go_wp2_with fail
        refine (hB.out _ HF.out).mono ?_
        rintro e w3 ⟨rfl, hb3⟩
        have HB3 := Lib.hid (HB2.out.trans (hb3.mono HB2.out.size))
        clear hb3
        go_wp2
        go_ret2
        exact ⟨rfl, HB3.out⟩
      | false =>
        rw [hb] at hB HF
        clear hb
        rw [if_neg (by decide)]
        go_enter Tryz.func77, Tryz.ntmps77
        go_wp2_with fail
        refine (HP.out _).mono ?_
        rintro e w1 ⟨rfl, hd⟩
        have HB1 := Lib.hid hd.below
        clear hd
        go_wp2_with fail
        with_reducible refine (hC.out _ (HL.out.go HB1.out)).mono ?_
        rintro e w2 ⟨rfl, hb2⟩
        have HB2 := Lib.hid (HB1.out.trans (hb2.mono HB1.out.size))
        clear hb2
        go_wp2_with fail
        refine (hB.out _ HF.out).mono ?_
        rintro e w3 ⟨rfl, hb3⟩
        have HB3 := Lib.hid (HB2.out.trans (hb3.mono HB2.out.size))
        clear hb3
        go_wp2
        go_ret2
        exact ⟨rfl, HB3.out⟩
    · rw [if_neg h59] at hC ⊢
      generalize B t = V at *
      generalize B [] = V0 at *
      clear h59
      go_enter Tryz.func77, Tryz.ntmps77
      go_wp2_with fail
      refine (HP.out _).mono ?_
      rintro e w1 ⟨rfl, hd⟩
      have HB1 := Lib.hid hd.below
      clear hd
      go_wp2_with fail
      refine (hC.out _ (HL.out.go HB1.out)).mono ?_
      rintro e w2 ⟨rfl, hb2⟩
      have HB2 := Lib.hid (HB1.out.trans (hb2.mono HB1.out.size))
      clear hb2
      go_wp2
      go_ret2
      exact ⟨rfl, HB2.out⟩
  · rw [decide_eq_false h38] at HP
    have hrd : rdE s = (⟨#[]⟩, 0) := by
      cases s with
      | nil => rfl
      | cons x t => rw [rdE, if_neg (fun e => h38 (by rw [e]; rfl))]
    rw [hrd]
    clear hrd h38
    go_enter Tryz.func77, Tryz.ntmps77
    go_wp2_with fail
    refine (HP.out _).mono ?_
    rintro e w1 ⟨rfl, hd⟩
    have HB1 := Lib.hid hd.below
    clear hd
    go_wp2
    go_ret2
    exact ⟨rfl, HB1.out⟩
end Go.Proofs.YtekifcbokdidlaaGreatDoor.PA

namespace Go.Proofs.YtekifcbokdidlaaGreatDoor.Pl
open Go.RowKit Go.Proofs.YtekifcbokdidlaaGreatDoorW.PrintWords

/-! #### HTML -/
/-- A byte as it stands in HTML. -/
def esc (x : UInt8) : List UInt8 := if x = 38 then [38, 97, 109, 112, 59] else if x = 60 then [38, 108, 116, 59] else if x = 62 then [38, 103, 116, 59] else if x = 34 then [38, 113, 117, 111, 116, 59] else [x]
/-- A text as it stands in HTML. -/
def htm (l : List UInt8) : List UInt8 := l.flatMap esc
/-! #### an address -/
end Go.Proofs.YtekifcbokdidlaaGreatDoor.Pl

namespace Go.Proofs.YtekifcbokdidlaaGreatDoor.PA
open Go.RowKit Go.Proofs.YtekifcbokdidlaaGreatDoor.Pl Go.Proofs.YtekifcbokdidlaaGreatDoorW.PrintWords Go.Proofs.YtekifcbokdidlaaGreatDoorW.PrintLast Go.Proofs.YtekifcbokdidlaaGreatDoorW.PrintMore
set_option linter.unusedVariables false

/-- The spans of signs. -/
def spn : List (Nat × Nat) := [(33, 47), (58, 64), (91, 96), (123, 126), (161, 169), (171, 172), (174, 177), (180, 180), (182, 184), (187, 187), (191, 191), (215, 215), (247, 247), (8208, 8231), (8240, 8286), (8352, 8384), (12289, 12291), (12296, 12319), (65281, 65295)]
def inS (r : Int) (e : Nat × Nat) : Bool := decide ((e.1 : Int) ≤ r) && decide (r ≤ (e.2 : Int))
def punct (r : Int) : Bool := spn.any (inS r)
set_option maxHeartbeats 1000000 in
theorem has_any (lo hi r : Int) (w : World) : Calls Tryz.prog 112 #[.agg #[.int .i32 lo, .int .i32 hi], .int .i32 r] w fun e w' => e = .returned (.bool (decide (lo ≤ r) && decide (r ≤ hi))) ∧ Below w.heap.size w w' := by
  by_cases h1 : lo ≤ r
  · by_cases h2 : r ≤ hi
    · rw [decide_eq_true h1, decide_eq_true h2]
      go_enter Tryz.func112, Tryz.ntmps112
      go_wp2
      go_ret
      exact ⟨rfl, (Below.refl _ _).alloc (Nat.le_refl _) _⟩
    · rw [decide_eq_true h1, decide_eq_false h2]
      have q := decide_eq_false h2
      go_enter Tryz.func112, Tryz.ntmps112
      go_wp2
      go_ret
      exact ⟨rfl, (Below.refl _ _).alloc (Nat.le_refl _) _⟩
  · rw [decide_eq_false h1]
    have q := decide_eq_false h1
    go_enter Tryz.func112, Tryz.ntmps112
    go_wp2
    go_ret
    exact ⟨rfl, (Below.refl _ _).alloc (Nat.le_refl _) _⟩
def spCells : Array Value := #[Value.int .i32 33, Value.int .i32 47, Value.int .i32 58, Value.int .i32 64, Value.int .i32 91, Value.int .i32 96, Value.int .i32 123, Value.int .i32 126, Value.int .i32 161, Value.int .i32 169, Value.int .i32 171, Value.int .i32 172, Value.int .i32 174, Value.int .i32 177, Value.int .i32 180, Value.int .i32 180, Value.int .i32 182, Value.int .i32 184, Value.int .i32 187, Value.int .i32 187, Value.int .i32 191, Value.int .i32 191, Value.int .i32 215, Value.int .i32 215, Value.int .i32 247, Value.int .i32 247, Value.int .i32 8208, Value.int .i32 8231, Value.int .i32 8240, Value.int .i32 8286, Value.int .i32 8352, Value.int .i32 8384, Value.int .i32 12289, Value.int .i32 12291, Value.int .i32 12296, Value.int .i32 12319, Value.int .i32 65281, Value.int .i32 65295]
theorem spDesc : Tryz.prog.underlying 120 = some (.array 19 119) := by kernel_rfl
theorem spSize : Tryz.prog.cellsOf 119 = 2 := by kernel_rfl
theorem spInfo : ∃ i, Tryz.prog.info? 119 = some i := by
  cases h : Tryz.prog.info? 119 with
  | none => exact absurd (show (Tryz.prog.info? 119).isSome = true by kernel_rfl) (by rw [h]; decide)
  | some i => exact ⟨i, rfl⟩
theorem sp_cut : ∀ k : Nat, k < 19 → spCells.extract (k * 2) (k * 2 + 2) = #[.int .i32 ((spn.getD k (0, 0)).1 : Int), .int .i32 ((spn.getD k (0, 0)).2 : Int)] := by
  intro k hk
  have : k = 0 ∨ k = 1 ∨ k = 2 ∨ k = 3 ∨ k = 4 ∨ k = 5 ∨ k = 6 ∨ k = 7 ∨ k = 8 ∨ k = 9 ∨ k = 10 ∨ k = 11 ∨ k = 12 ∨ k = 13 ∨ k = 14 ∨ k = 15 ∨ k = 16 ∨ k = 17 ∨ k = 18 := by omega
  rcases this with rfl | rfl | rfl | rfl | rfl | rfl | rfl | rfl | rfl | rfl | rfl | rfl | rfl | rfl | rfl | rfl | rfl | rfl | rfl <;> rfl
theorem sp_index (k : Nat) (hk : k < 19) (w : World) : (Instr.index 120 (.agg spCells) (.int .i64 k)).run Tryz.prog w = .ok (.agg #[.int .i32 ((spn.getD k (0, 0)).1 : Int), .int .i32 ((spn.getD k (0, 0)).2 : Int)]) w := by
  obtain ⟨i, hi⟩ := spInfo
  have h3 := sp_cut k hk
  generalize hE : spCells = E at h3 ⊢
  clear hE
  simp [Instr.index, asIntOf, run_underlying spDesc, hk, part, run_sizeOf w hi, spSize, h3, go_sem]
theorem any_snoc (r : Int) (k : Nat) (hk : k < spn.length) : (spn.take (k + 1)).any (inS r) = ((spn.take k).any (inS r) || inS r (spn.getD k (0, 0))) := by
  rw [List.take_succ_eq_append_getElem hk, List.any_append, List.getD_eq_getElem?_getD, List.getElem?_eq_getElem hk]
  simp
set_option maxHeartbeats 4000000 in
set_option maxRecDepth 100000 in
theorem punct_walk (r : Int) (w : World) : Calls Tryz.prog 96 #[.int .i32 r] w fun e w' => e = .returned (.bool (punct r)) ∧ Below w.heap.size w w' := by
  obtain ⟨R, hR⟩ : ∃ R, punct r = R := ⟨_, rfl⟩
  rw [hR]
  have HR := Lib.hid hR
  clear hR
  go_enter Tryz.func96, Tryz.ntmps96
  go_wp2
  go_loopw [25] (fun vi wr => ∃ k : Nat, vi = .int .i64 k ∧ k ≤ 19 ∧ Hid ((spn.take k).any (inS r) = false) ∧ Hid (Below w.heap.size w wr))
    (fun vi _ => 19 - (intOf vi).toNat)
  case atStart => exact ⟨0, rfl, by omega, rfl, Below.refl _ _⟩
  case round =>
    obtain ⟨k, rfl, hk, HP, HB⟩ := hrel
    by_cases hlt : k < 19
    · have hix := fun w => sp_index k hlt w
      simp only [spCells] at hix
      have hsn := any_snoc r k hlt
      rw [HP.out, Bool.false_or] at hsn
      have hmem : inS r (spn.getD k (0, 0)) = true → punct r = true := by
        intro h
        unfold punct
        rw [List.any_eq_true]
        refine ⟨spn.getD k (0, 0), ?_, h⟩
        rw [List.getD_eq_getElem?_getD, List.getElem?_eq_getElem (show k < spn.length from hlt)]
        exact List.getElem_mem _
      have hin : inS r (spn.getD k (0, 0)) = (decide (((spn.getD k (0, 0)).1 : Int) ≤ r) && decide (r ≤ ((spn.getD k (0, 0)).2 : Int))) := rfl
      generalize spn.getD k (0, 0) = e at hix hsn hmem hin
      have hsz := HB.out.size
      have HM := Lib.hid hmem
      have HS := Lib.hid hsn
      have HI := Lib.hid hin
      clear hmem hsn hin HP
      go_wp2_with fail
      refine (has_any _ _ _ _).mono ?_
      rintro e2 w2 ⟨rfl, hb2⟩
      have HB2 := Lib.hid ((HB.out.alloc hsz _).trans (hb2.mono (by have := hsz; simp; omega)))
      clear hb2 HB
      rw [← HI.out]
      cases hb : inS r e with
      | true =>
        have HT := Lib.hid (HM.out hb)
        clear HM HS HI hb hix
        go_wp2
        go_ret
        exact ⟨congrArg (fun z => Ending.returned (.bool z)) (HT.out.symm.trans HR.out), HB2.out⟩
      | false =>
        have HF := Lib.hid (HS.out.trans hb)
        clear HM HS HI hb hix
        go_wp2
        go_roundw
        case rel => exact ⟨k + 1, by first | rfl | simp, by omega, HF, HB2⟩
        case measure => simp [intOf]; omega
    · obtain rfl : k = 19 := by omega
      have HT := Lib.hid (show punct r = false from HP.out)
      go_wp2
      go_ret
      exact ⟨congrArg (fun z => Ending.returned (.bool z)) (HT.out.symm.trans HR.out), HB.out⟩
end Go.Proofs.YtekifcbokdidlaaGreatDoor.PA

namespace Go.Proofs.YtekifcbokdidlaaGreatDoor.Pl
open Go.RowKit Go.Proofs.YtekifcbokdidlaaGreatDoorW.PrintWords Go.Proofs.YtekifcbokdidlaaGreatDoor.PA Go.Proofs.YtekifcbokdidlaaGreatDoor.Pure

/-! #### without backslashes and references -/
/-- Is a byte a sign? -/
def sgn (x : UInt8) : Bool := decide (x.toNat < 128) && punct (x.toNat : Int)
/-- What a text begins with, without backslash and reference, and how long it is in the text. -/
def stp : List UInt8 → List UInt8 × Nat
  | [] => ([], 1)
  | x :: t => if x = 92 ∧ ∃ y ∈ t.head?, sgn y = true then (t.take 1, 2) else if 0 < (rdE (x :: t)).2 then ((rdE (x :: t)).1.data.toList, (rdE (x :: t)).2.toNat) else ([x], 1)
theorem stp_cons (x : UInt8) (t : List UInt8) : stp (x :: t) = if x = 92 ∧ ∃ y ∈ t.head?, sgn y = true then (t.take 1, 2) else if 0 < (rdE (x :: t)).2 then ((rdE (x :: t)).1.data.toList, (rdE (x :: t)).2.toNat) else ([x], 1) := rfl
def uneF : Nat → List UInt8 → List UInt8
  | 0, _ => []
  | _ + 1, [] => []
  | n + 1, x :: t => (stp (x :: t)).1 ++ uneF n ((x :: t).drop (stp (x :: t)).2)
/-- A text without backslashes and references. -/
def une (l : List UInt8) : List UInt8 := uneF l.length l
theorem stp_pos (l : List UInt8) : 1 ≤ (stp l).2 := by
  cases l with
  | nil => exact Nat.le_refl _
  | cons x t =>
    rw [stp_cons]
    split
    · exact Nat.le_succ 1
    · split
      · show 1 ≤ (rdE (x :: t)).2.toNat
        omega
      · exact Nat.le_refl _
theorem stp_le (x : UInt8) (t : List UInt8) : (stp (x :: t)).2 ≤ (x :: t).length := by
  rw [stp_cons]
  split
  · rename_i h
    obtain ⟨_, y, hy, _⟩ := h
    cases t with
    | nil => cases hy
    | cons z u => simp
  · split
    · rcases rdE_cases (x :: t) with h | ⟨d, u, he, _, _, hr⟩
      · rename_i h0
        rw [h] at h0
        exact absurd h0 (by decide)
      · rw [hr, he]
        simp only [List.length_cons, List.length_append]
        omega
    · simp
theorem uneF_le : ∀ (n m : Nat) (l : List UInt8), l.length ≤ n → l.length ≤ m → uneF n l = uneF m l
  | n, m, [], _, _ => by cases n <;> cases m <;> rfl
  | 0, m, x :: t, h, _ => by simp at h
  | n + 1, 0, x :: t, _, h => by simp at h
  | n + 1, m + 1, x :: t, h1, h2 => by
    rw [uneF, uneF]
    congr 1
    have := stp_pos (x :: t)
    rw [List.length_cons] at h1 h2
    exact uneF_le n m _ (by rw [List.length_drop, List.length_cons]; omega) (by rw [List.length_drop, List.length_cons]; omega)
theorem une_cons (x : UInt8) (t : List UInt8) : une (x :: t) = (stp (x :: t)).1 ++ une ((x :: t).drop (stp (x :: t)).2) := by
  have := stp_pos (x :: t)
  unfold une
  rw [List.length_cons, uneF]
  congr 1
  exact uneF_le _ _ _ (by rw [List.length_drop, List.length_cons]; omega) (Nat.le_refl _)
theorem stp_sgn (y : UInt8) (u : List UInt8) (h : sgn y = true) : stp (92 :: y :: u) = ([y], 2) := by
  rw [stp_cons]
  rw [if_pos ⟨rfl, y, rfl, h⟩]
  rfl
theorem rdE_ne (x : UInt8) (t : List UInt8) (h : x ≠ 38) : rdE (x :: t) = (⟨#[]⟩, 0) := by rw [rdE, if_neg h]
theorem stp_one (x : UInt8) (t : List UInt8) (h1 : x = 92 → ∀ y u, t = y :: u → sgn y = false) (h2 : ¬ 0 < (rdE (x :: t)).2) : stp (x :: t) = ([x], 1) := by
  rw [stp_cons]
  rw [if_neg, if_neg h2]
  rintro ⟨e, y, hy, hs⟩
  cases t with
  | nil => cases hy
  | cons z u =>
    obtain rfl := Option.some.inj hy
    rw [h1 e z u rfl] at hs
    cases hs
theorem stp_plain (x : UInt8) (t : List UInt8) (h1 : x ≠ 92) (h2 : x ≠ 38) : stp (x :: t) = ([x], 1) :=
  stp_one x t (fun e => absurd e h1) (by rw [rdE_ne x t h2]; decide)
/-! #### there and back -/
end Go.Proofs.YtekifcbokdidlaaGreatDoor.Pl

namespace Go.Proofs.YtekifcbokdidlaaGreatDoor.PA
open Go.RowKit Go.Proofs.YtekifcbokdidlaaGreatDoor.Pl Go.Proofs.YtekifcbokdidlaaGreatDoorW.PrintWords Go.Proofs.YtekifcbokdidlaaGreatDoorW.PrintLast Go.Proofs.YtekifcbokdidlaaGreatDoorW.PrintMore Go.Proofs.YtekifcbokdidlaaGreatDoor.Pure
set_option linter.unusedVariables false

theorem enc_le (n : Int) : (Go.Utf8.encode n).size ≤ 4 := encode_size_le n
theorem emp_le : (⟨#[]⟩ : ByteArray).size ≤ 4 := by decide
theorem wr_str (acc : List UInt8) (S : ByteArray) : Lib.byteCells acc ++ Lib.strCells S = Lib.byteCells (acc ++ S.data.toList) := by rw [Lib.byteCells_append]; rfl
theorem nmd_le (t : List UInt8) : (nmd t).1.size ≤ 4 := by
  rcases nmd_cases t with ⟨k, hk, rfl⟩ | hn
  · rw [nmd_hit k hk]
    generalize enn k = n
    exact enc_le n
  · rw [nmd_miss t hn]
    exact emp_le
theorem chr_le (b most : Nat) (ok : UInt8 → Bool) (t : List UInt8) : (chr b most ok t).1.size ≤ 4 := by
  unfold chr
  split
  · exact emp_le
  · generalize fixr (num b t) = n
    exact enc_le n
theorem bdy_le (t : List UInt8) : (bdy t).1.size ≤ 4 := by
  cases t with
  | nil => exact nmd_le []
  | cons x d =>
    by_cases hx : x = 35
    · subst hx
      cases d with
      | nil => rw [bdy_35]; exact chr_le _ _ _ _
      | cons y d =>
        rw [bdy_two]
        split
        · exact chr_le _ _ _ _
        · exact chr_le _ _ _ _
    · rw [bdy_no x d hx]
      exact nmd_le _
theorem stp_len (l : List UInt8) : (stp l).1.length ≤ 4 * (stp l).2 := by
  cases l with
  | nil => exact Nat.zero_le _
  | cons x t =>
    rw [stp_cons]
    split
    · show (t.take 1).length ≤ _
      rw [List.length_take]
      omega
    · split
      · rename_i h0
        rcases rdE_cases (x :: t) with h | ⟨d, u, he, _, _, hr⟩
        · rw [h] at h0
          exact absurd h0 (by decide)
        · have h4 := bdy_le d
          rw [hr]
          show (bdy d).1.data.toList.length ≤ 4 * ((d.length : Int) + 2).toNat
          rw [Array.length_toList]
          have : (bdy d).1.data.size ≤ 4 := h4
          omega
      · show 1 ≤ 4 * 1
        decide
theorem step_to (s acc p : List UInt8) (x : UInt8) (t : List UInt8) (n : Nat) (h : stp (x :: t) = (p, n)) (hl : (x :: t).length ≤ s.length) (hs : acc.length + 4 * (x :: t).length ≤ 4 * s.length) (he : acc ++ une (x :: t) = une s) :
    ((x :: t).drop n).length ≤ s.length ∧ (acc ++ p).length + 4 * ((x :: t).drop n).length ≤ 4 * s.length ∧ (acc ++ p) ++ une ((x :: t).drop n) = une s ∧ ((x :: t).drop n).length < (x :: t).length := by
  have h1 := stp_len (x :: t)
  have h2 := stp_pos (x :: t)
  have h3 := stp_le x t
  have h4 := une_cons x t
  rw [h] at h1 h2 h3 h4
  simp only at h1 h2 h3 h4
  rw [List.length_append, List.length_drop]
  refine ⟨by omega, by omega, ?_, by omega⟩
  rw [List.append_assoc, ← h4]
  exact he
set_option maxHeartbeats 1000000 in
theorem sign_any (x : UInt8) (w : World) : Calls Tryz.prog 72 #[.int .u8 (x.toNat : Int)] w fun e w' => e = .returned (.bool (sgn x)) ∧ Below w.heap.size w w' := by
  have hp := punct_walk (x.toNat : Int)
  by_cases h : x.toNat < 128
  · have hs : sgn x = punct (x.toNat : Int) := by unfold sgn; rw [decide_eq_true h, Bool.true_and]
    rw [← hs] at hp
    have q : decide ((x.toNat : Int) < 128) = true := decide_eq_true (by omega)
    have HP := Lib.hid hp
    clear hp hs
    go_enter Tryz.func72, Tryz.ntmps72
    go_wp2_with (first | (go_at_call 96; refine (HP.out _).mono ?_; rintro e w' ⟨rfl, hb⟩; have HB := Lib.hid hb; clear hb))
    go_ret
    exact ⟨rfl, HB.out⟩
  · have hs : sgn x = false := by unfold sgn; rw [decide_eq_false h, Bool.false_and]
    rw [hs]
    have q : decide ((x.toNat : Int) < 128) = false := decide_eq_false (by omega)
    clear hp hs
    go_enter Tryz.func72, Tryz.ntmps72
    go_wp2
    go_ret
    exact ⟨rfl, Below.refl _ _⟩
theorem isB_belowU {T e B b : Nat} {bs : List Value} {w w' : World} (h : Lib.IsBuilder T e B b bs w) (hb : Below w.heap.size w w') : Lib.IsBuilder T e B b bs w' := by
  have go : ∀ p, Lib.BuilderAt T e B b p bs w → Lib.BuilderAt T e B b p bs w' := by
    intro p h
    have hlt := h.lt
    obtain ⟨h1, v, h2, h3, h4⟩ := h
    exact ⟨h1, v, (hb.block _ hlt).trans h2, pw_own_below h3 hb, h4⟩
  rcases h with h | h
  · exact .inl (go _ h)
  · exact .inr (go _ h)
set_option maxHeartbeats 8000000 in
set_option maxRecDepth 100000 in
theorem unesc_walk (s : List UInt8) (hs : s.length ≤ 1048576) (w : World) (hLd : Laid w) :
    Calls Tryz.prog 52 #[.string (B s)] w fun e w' => e = .returned (.string (B (une s))) ∧ Below w.heap.size w w' := by
  have HL := Lib.hid hLd
  clear hLd
  go_enter Tryz.func52, Tryz.ntmps52
  go_wp2
  go_loopw [0] (fun v0 wr => ∃ l acc : List UInt8, v0 = .string (B l) ∧ l.length ≤ s.length ∧ Hid (acc.length + 4 * l.length ≤ 4 * s.length) ∧ Hid (acc ++ une l = une s) ∧ Hid (Lib.IsBuilder 72 5 w.heap.size w.heap.size (Lib.byteCells acc) wr) ∧ Hid (Below w.heap.size w wr)) (fun v0 _ => match v0 with | .string x => x.size | _ => 0)
  case atStart => exact ⟨s, [], rfl, Nat.le_refl _, Lib.hid (by simp), Lib.hid rfl, Lib.hid (Lib.fresh_isBuilder _ _ w), Lib.hid ((Below.refl _ w).alloc (Nat.le_refl _) _)⟩
  case round =>
    obtain ⟨l, acc, rfl, hl, HS, HE, HI, HB⟩ := hrel
    cases l with
    | nil =>
      have hE : acc = une s := (List.append_nil acc).symm.trans HE.out
      have hne : (B []).toList = [] := B_toList []
      have hI := HI.out
      rw [hE] at hI
      have HI2 := Lib.hid hI
      have hbs := HB.out.size
      clear hI hE
      go_wp2_with (go_at_call 64; refine (Tryz.Builder_String_any w.heap.size w.heap.size (une s) _ HI2.out hbs).mono ?_; rintro e w1 ⟨rfl, hb1⟩)
      repeat (first | refine ex_noGoto_ret ?_ | refine ex_block_ret ?_ | refine ex_then_ret ?_)
      go_ret
      exact ⟨rfl, HB.out.trans hb1⟩
    | cons x t =>
      have hne : (B (x :: t)).toList.isEmpty = false := by rw [B_toList]; rfl
      have hne2 : (B (x :: t)).toList = x :: t := B_toList _
      have hsz : (B (x :: t)).size = t.length + 1 := B_size _
      have hz : 0 < (B (x :: t)).size := by omega
      have hi0 : (B (x :: t))[0]'hz = x := rfl
      have h01 : (B (x :: t)).extract 0 1 = B [x] := by rw [B_to]; rfl
      have h1n : (B (x :: t)).extract 1 (t.length + 1) = B t := B_from (x :: t) 1 _ rfl
      have hbs := HB.out.size
      by_cases h92 : x = 92
      · have q92 : ((x.toNat : Int) == 92) = true := by rw [h92]; rfl
        have q38 : ((x.toNat : Int) == 38) = false := by rw [h92]; rfl
        have hrd : ¬ 0 < (rdE (x :: t)).2 := by rw [rdE_ne x t (by rw [h92]; decide)]; decide
        cases t with
        | nil =>
          have hst : stp (x :: []) = ([x], 1) := stp_one x [] (fun _ y u e => by cases e) hrd
          clear hrd h92
          have hp4 : (B [x]).size ≤ 4 := by rw [B_size]; simp
          have hpd : (B [x]).data.toList = [x] := B_data _
          have HB1 := HB
          have HI1 := HI
          have hbs1 := hbs
          have HF := Lib.hid (step_to s acc [x] x ([]) 1 hst hl HS.out HE.out)
          have hS4 := Lib.hid (show acc.length + (B [x]).size ≤ 140737488355328 by have := HS.out; have := hp4; omega)
          have HSd := Lib.hid (show (B [x]).data.toList = [x] from hpd)
          clear hst hl HS HE hp4 hpd
          go_wp2_with fail
          with_reducible refine (Tryz.Builder_WriteString w.heap.size w.heap.size _ (B [x]) _ HI1.out (by rw [Lib.byteCells_length]; exact hS4.out) hbs1).mono ?_
          rintro e w2 ⟨rfl, h2, b2⟩
          rw [wr_str, HSd.out] at h2
          have HI2 := Lib.hid h2
          have HB2 := Lib.hid (HB1.out.trans b2)
          clear h2 b2
          go_wp2
          go_roundw
          case rel => exact ⟨_, _, rfl, HF.out.1, Lib.hid HF.out.2.1, Lib.hid HF.out.2.2.1, Lib.hid (.inr HI2.out), HB2⟩
          case measure =>
            change (B ((x :: []).drop 1)).size < (B (x :: [])).size
            rw [B_size, B_size]
            exact HF.out.2.2.2
        | cons y u =>
          have hz2 : 1 < (B (x :: y :: u)).size := by rw [B_size]; simp
          have hi1 : (B (x :: y :: u))[1]'hz2 = y := rfl
          have h12 : (B (x :: y :: u)).extract 1 2 = B [y] := by rw [B_extract]; rfl
          have hz3 : 2 ≤ (B (x :: y :: u)).size := hz2
          have hz4 : 2 ≤ u.length + 1 + 1 := by omega
          have hz5 : (2 : Int) ≤ ((B (x :: y :: u)).size : Int) := by omega
          have hz6 : (2 : Int) ≤ (u.length : Int) + 1 + 1 := by omega
          have h2n : (B (x :: y :: u)).extract 2 (u.length + 1 + 1) = B u := B_from (x :: y :: u) 2 _ rfl
          have hgt : decide ((1 : Int) < (((y :: u).length : Nat) : Int) + 1) = true := decide_eq_true (by rw [List.length_cons]; omega)
          have HG := Lib.hid (sign_any y)
          simp only [List.length_cons] at hgt hsz h1n
          cases hsg : sgn y with
          | true =>
            rw [hsg] at HG
            have hst : stp (x :: y :: u) = ([y], 2) := by rw [h92]; exact stp_sgn y u hsg
            clear hrd h92 hsg
            have hp4 : (B [y]).size ≤ 4 := by rw [B_size]; simp
            have hpd : (B [y]).data.toList = [y] := B_data _
            go_wp2_with fail
            refine (HG.out _).mono ?_
            rintro e w1 ⟨rfl, hb1⟩
            have HB1 := Lib.hid (HB.out.trans (hb1.mono hbs))
            have HI1 := Lib.hid (isB_belowU HI.out hb1)
            have hbs1 := HB1.out.size
            clear hb1
            have HF := Lib.hid (step_to s acc [y] x (y :: u) 2 hst hl HS.out HE.out)
            have hS4 := Lib.hid (show acc.length + (B [y]).size ≤ 140737488355328 by have := HS.out; have := hp4; omega)
            have HSd := Lib.hid (show (B [y]).data.toList = [y] from hpd)
            clear hst hl HS HE hp4 hpd
            go_wp2_with fail
            with_reducible refine (Tryz.Builder_WriteString w.heap.size w.heap.size _ (B [y]) _ HI1.out (by rw [Lib.byteCells_length]; exact hS4.out) hbs1).mono ?_
            rintro e w2 ⟨rfl, h2, b2⟩
            rw [wr_str, HSd.out] at h2
            have HI2 := Lib.hid h2
            have HB2 := Lib.hid (HB1.out.trans b2)
            clear h2 b2
            go_wp2
            go_roundw
            case rel => exact ⟨_, _, rfl, HF.out.1, Lib.hid HF.out.2.1, Lib.hid HF.out.2.2.1, Lib.hid (.inr HI2.out), HB2⟩
            case measure =>
              change (B ((x :: y :: u).drop 2)).size < (B (x :: y :: u)).size
              rw [B_size, B_size]
              exact HF.out.2.2.2
          | false =>
            rw [hsg] at HG
            have hst : stp (x :: y :: u) = ([x], 1) := stp_one x (y :: u) (fun _ y' u' e => by cases e; exact hsg) hrd
            clear hrd h92 hsg
            have hp4 : (B [x]).size ≤ 4 := by rw [B_size]; simp
            have hpd : (B [x]).data.toList = [x] := B_data _
            go_wp2_with fail
            refine (HG.out _).mono ?_
            rintro e w1 ⟨rfl, hb1⟩
            have HB1 := Lib.hid (HB.out.trans (hb1.mono hbs))
            have HI1 := Lib.hid (isB_belowU HI.out hb1)
            have hbs1 := HB1.out.size
            clear hb1
            have HF := Lib.hid (step_to s acc [x] x (y :: u) 1 hst hl HS.out HE.out)
            have hS4 := Lib.hid (show acc.length + (B [x]).size ≤ 140737488355328 by have := HS.out; have := hp4; omega)
            have HSd := Lib.hid (show (B [x]).data.toList = [x] from hpd)
            clear hst hl HS HE hp4 hpd
            go_wp2_with fail
            with_reducible refine (Tryz.Builder_WriteString w.heap.size w.heap.size _ (B [x]) _ HI1.out (by rw [Lib.byteCells_length]; exact hS4.out) hbs1).mono ?_
            rintro e w2 ⟨rfl, h2, b2⟩
            rw [wr_str, HSd.out] at h2
            have HI2 := Lib.hid h2
            have HB2 := Lib.hid (HB1.out.trans b2)
            clear h2 b2
            go_wp2
            go_roundw
            case rel => exact ⟨_, _, rfl, HF.out.1, Lib.hid HF.out.2.1, Lib.hid HF.out.2.2.1, Lib.hid (.inr HI2.out), HB2⟩
            case measure =>
              change (B ((x :: y :: u).drop 1)).size < (B (x :: y :: u)).size
              rw [B_size, B_size]
              exact HF.out.2.2.2
      · have q92 : ((x.toNat : Int) == 92) = false := beq_eq_false_iff_ne.2 (fun e => h92 ((u8_eq x 92 (by decide)).1 e))
        by_cases h38 : x = 38
        · have q38 : ((x.toNat : Int) == 38) = true := by rw [h38]; rfl
          have HRd := Lib.hid (fun W hW => read_walk (x :: t) (by rw [List.length_cons] at hl ⊢; omega) W hW)
          by_cases hk : 0 < (rdE (x :: t)).2
          · have hst0 : stp (x :: t) = ((rdE (x :: t)).1.data.toList, (rdE (x :: t)).2.toNat) := by rw [stp_cons, if_neg (fun e => h92 e.1), if_pos hk]
            obtain ⟨kn, hkn⟩ := Int.eq_ofNat_of_zero_le (show 0 ≤ (rdE (x :: t)).2 by omega)
            have hle := stp_le x t
            have hl4 := stp_len (x :: t)
            obtain ⟨Q, hQ⟩ : ∃ Q, (rdE (x :: t)).1 = Q := ⟨_, rfl⟩
            rw [hst0] at hle hl4
            simp only [hkn, hQ, Int.toNat_natCast] at hle hl4
            rw [hkn, hQ] at HRd
            have hst : stp (x :: t) = (Q.data.toList, kn) := by rw [hst0, hkn, hQ, Int.toNat_natCast]
            have qk : decide (0 < (kn : Int)) = true := decide_eq_true (by omega)
            have qk2 : 0 < kn := by omega
            have qk3 : (0 : Int) < (kn : Int) := by omega
            have hp4 : Q.size ≤ 4 * s.length := by
              have e : Q.data.toList.length = Q.size := Array.length_toList
              omega
            have hpd : Q.data.toList = Q.data.toList := rfl
            have hkn2 : kn ≤ t.length + 1 := by rw [List.length_cons] at hle; exact hle
            have hkn3 : kn ≤ (B (x :: t)).size := by rw [hsz]; exact hkn2
            have hkx : (B (x :: t)).extract kn (t.length + 1) = B ((x :: t).drop kn) := B_from (x :: t) kn _ rfl
            clear hst0 hkn hQ hle hl4 hk h92 h38
            go_wp2_with fail
            refine (HRd.out _ (HL.out.go HB.out)).mono ?_
            rintro e w1 ⟨rfl, hb1⟩
            have HB1 := Lib.hid (HB.out.trans (hb1.mono hbs))
            have HI1 := Lib.hid (isB_belowU HI.out hb1)
            have hbs1 := HB1.out.size
            clear hb1
            have HF := Lib.hid (step_to s acc Q.data.toList x (t) kn hst hl HS.out HE.out)
            have hS4 := Lib.hid (show acc.length + Q.size ≤ 140737488355328 by have := HS.out; have := hp4; omega)
            have HSd := Lib.hid (show (Q).data.toList = Q.data.toList from rfl)
            clear hst hl HS HE hp4
            go_wp2_with fail
            with_reducible refine (Tryz.Builder_WriteString w.heap.size w.heap.size _ (Q) _ HI1.out (by rw [Lib.byteCells_length]; exact hS4.out) hbs1).mono ?_
            rintro e w2 ⟨rfl, h2, b2⟩
            rw [wr_str] at h2
            have HI2 := Lib.hid h2
            have HB2 := Lib.hid (HB1.out.trans b2)
            clear h2 b2
            go_wp2
            go_roundw
            case rel => exact ⟨_, _, rfl, HF.out.1, Lib.hid HF.out.2.1, Lib.hid HF.out.2.2.1, Lib.hid (.inr HI2.out), HB2⟩
            case measure =>
              change (B ((x :: t).drop kn)).size < (B (x :: t)).size
              rw [B_size, B_size]
              exact HF.out.2.2.2
          · have hst : stp (x :: t) = ([x], 1) := stp_one x t (fun e => absurd e h92) hk
            have hr0 : rdE (x :: t) = (⟨#[]⟩, 0) := by
              rcases rdE_cases (x :: t) with h | ⟨d, u, he, _, _, hr⟩
              · exact h
              · rw [hr] at hk
                exact absurd (show (0 : Int) < (d.length : Int) + 2 by omega) hk
            rw [hr0] at HRd
            clear hr0 hk h92 h38
            have hp4 : (B [x]).size ≤ 4 := by rw [B_size]; simp
            have hpd : (B [x]).data.toList = [x] := B_data _
            go_wp2_with fail
            refine (HRd.out _ (HL.out.go HB.out)).mono ?_
            rintro e w1 ⟨rfl, hb1⟩
            have HB1 := Lib.hid (HB.out.trans (hb1.mono hbs))
            have HI1 := Lib.hid (isB_belowU HI.out hb1)
            have hbs1 := HB1.out.size
            clear hb1
            have HF := Lib.hid (step_to s acc [x] x (t) 1 hst hl HS.out HE.out)
            have hS4 := Lib.hid (show acc.length + (B [x]).size ≤ 140737488355328 by have := HS.out; have := hp4; omega)
            have HSd := Lib.hid (show (B [x]).data.toList = [x] from hpd)
            clear hst hl HS HE hp4 hpd
            go_wp2_with fail
            with_reducible refine (Tryz.Builder_WriteString w.heap.size w.heap.size _ (B [x]) _ HI1.out (by rw [Lib.byteCells_length]; exact hS4.out) hbs1).mono ?_
            rintro e w2 ⟨rfl, h2, b2⟩
            rw [wr_str, HSd.out] at h2
            have HI2 := Lib.hid h2
            have HB2 := Lib.hid (HB1.out.trans b2)
            clear h2 b2
            go_wp2
            go_roundw
            case rel => exact ⟨_, _, rfl, HF.out.1, Lib.hid HF.out.2.1, Lib.hid HF.out.2.2.1, Lib.hid (.inr HI2.out), HB2⟩
            case measure =>
              change (B ((x :: t).drop 1)).size < (B (x :: t)).size
              rw [B_size, B_size]
              exact HF.out.2.2.2
        · have q38 : ((x.toNat : Int) == 38) = false := beq_eq_false_iff_ne.2 (fun e => h38 ((u8_eq x 38 (by decide)).1 e))
          have hst : stp (x :: t) = ([x], 1) := stp_plain x t h92 h38
          clear h92 h38
          have hp4 : (B [x]).size ≤ 4 := by rw [B_size]; simp
          have hpd : (B [x]).data.toList = [x] := B_data _
          have HB1 := HB
          have HI1 := HI
          have hbs1 := hbs
          have HF := Lib.hid (step_to s acc [x] x (t) 1 hst hl HS.out HE.out)
          have hS4 := Lib.hid (show acc.length + (B [x]).size ≤ 140737488355328 by have := HS.out; have := hp4; omega)
          have HSd := Lib.hid (show (B [x]).data.toList = [x] from hpd)
          clear hst hl HS HE hp4 hpd
          go_wp2_with fail
          with_reducible refine (Tryz.Builder_WriteString w.heap.size w.heap.size _ (B [x]) _ HI1.out (by rw [Lib.byteCells_length]; exact hS4.out) hbs1).mono ?_
          rintro e w2 ⟨rfl, h2, b2⟩
          rw [wr_str, HSd.out] at h2
          have HI2 := Lib.hid h2
          have HB2 := Lib.hid (HB1.out.trans b2)
          clear h2 b2
          go_wp2
          go_roundw
          case rel => exact ⟨_, _, rfl, HF.out.1, Lib.hid HF.out.2.1, Lib.hid HF.out.2.2.1, Lib.hid (.inr HI2.out), HB2⟩
          case measure =>
            change (B ((x :: t).drop 1)).size < (B (x :: t)).size
            rw [B_size, B_size]
            exact HF.out.2.2.2
end Go.Proofs.YtekifcbokdidlaaGreatDoor.PA

namespace Go.Proofs.YtekifcbokdidlaaGreatDoor.PA
open Go.RowKit Go.Proofs.YtekifcbokdidlaaGreatDoor.Pl Go.Proofs.YtekifcbokdidlaaGreatDoor.Pure Go.Proofs.YtekifcbokdidlaaGreatDoorW.PrintWords Go.Proofs.YtekifcbokdidlaaGreatDoorW.PrintLast Go.Proofs.YtekifcbokdidlaaGreatDoorW.PrintMore
set_option linter.unusedVariables false

/-- How far the bytes go that are not told. -/
def eachL (p : UInt8 → Bool) : List UInt8 → Nat
  | [] => 0
  | [x] => if p x = true then 0 else 1
  | x :: y :: t => if x = 92 ∧ sgn y = true then eachL p t + 2 else if p x = true then 0 else eachL p (y :: t) + 1
theorem each_esc (p : UInt8 → Bool) (x y : UInt8) (t : List UInt8) (h : x = 92) (h2 : sgn y = true) : eachL p (x :: y :: t) = eachL p t + 2 := by rw [eachL, if_pos ⟨h, h2⟩]
theorem each_one (p : UInt8 → Bool) (x : UInt8) (t : List UInt8) (h : x = 92 → ∀ y u, t = y :: u → sgn y = false) : eachL p (x :: t) = if p x = true then 0 else eachL p t + 1 := by
  cases t with
  | nil => rfl
  | cons y u =>
    rw [eachL, if_neg]
    rintro ⟨h1, h2⟩
    rw [h h1 y u rfl] at h2
    cases h2
/-- The label's end. -/
def pLab (x : UInt8) : Bool := decide (x = 91) || decide (x = 93)
theorem lab1 (x : UInt8) (w : World) : Calls Tryz.prog 46 #[.int .u8 (x.toNat : Int)] w fun e w' => e = .returned (.bool (pLab x)) ∧ w = w' := by
  have e1 : ((x.toNat : Int) = 91) ↔ x = 91 := u8_eq _ 91 (by omega)
  have e2 : ((x.toNat : Int) = 93) ↔ x = 93 := u8_eq _ 93 (by omega)
  by_cases h1 : x = 91
  · have HD := Lib.hid (show pLab x = true by unfold pLab; rw [decide_eq_true h1]; rfl)
    have q : ((x.toNat : Int) == 91) = true := beq_iff_eq.2 (e1.2 h1)
    clear e1 e2 h1
    go_enter Tryz.func46, Tryz.ntmps46
    go_wp2
    go_ret
    exact ⟨congrArg (fun z => Ending.returned (.bool z)) HD.out.symm, rfl⟩
  · have q : ((x.toNat : Int) == 91) = false := beq_eq_false_iff_ne.2 (fun e => h1 (e1.1 e))
    by_cases h2 : x = 93
    · have HD := Lib.hid (show pLab x = true by unfold pLab; rw [decide_eq_true h2, Bool.or_true])
      have q2 : ((x.toNat : Int) == 93) = true := beq_iff_eq.2 (e2.2 h2)
      clear e1 e2 h1 h2
      go_enter Tryz.func46, Tryz.ntmps46
      go_wp2
      go_ret
      exact ⟨congrArg (fun z => Ending.returned (.bool z)) HD.out.symm, rfl⟩
    · have HD := Lib.hid (show pLab x = false by unfold pLab; rw [decide_eq_false h1, decide_eq_false h2]; rfl)
      have q2 : ((x.toNat : Int) == 93) = false := beq_eq_false_iff_ne.2 (fun e => h2 (e2.1 e))
      clear e1 e2 h1 h2
      go_enter Tryz.func46, Tryz.ntmps46
      go_wp2
      go_ret
      exact ⟨congrArg (fun z => Ending.returned (.bool z)) HD.out.symm, rfl⟩
theorem eachL_le (p : UInt8 → Bool) : ∀ l : List UInt8, eachL p l ≤ l.length
  | [] => Nat.le_refl _
  | [x] => by unfold eachL; split <;> simp
  | x :: y :: t => by
    have h1 := eachL_le p t
    have h2 := eachL_le p (y :: t)
    unfold eachL
    split
    · simp only [List.length_cons]; omega
    · split
      · exact Nat.zero_le _
      · simp only [List.length_cons] at h2 ⊢; omega
set_option maxHeartbeats 4000000 in
set_option maxRecDepth 100000 in
theorem each_lab (s : List UInt8) (hs : s.length ≤ 1099511627776) (f : Nat) (hf : f ≤ s.length) (w : World) : Calls Tryz.prog 45 #[.string (B s), .int .i64 f, .func (.func 46) #[] #[]] w fun e w' => e = .returned (.int .i64 ((f + eachL pLab (s.drop f) : Nat) : Int)) ∧ Below w.heap.size w w' := by
  have hsz : (B s).size = s.length := B_size s
  obtain ⟨R, hR⟩ : ∃ R, f + eachL pLab (s.drop f) = R := ⟨_, rfl⟩
  rw [hR]
  go_enter Tryz.func45, Tryz.ntmps45
  go_wp2
  go_loopw [7] (fun vi wr => ∃ k : Nat, vi = .int .i64 k ∧ k ≤ s.length ∧ Hid (k + eachL pLab (s.drop k) = R) ∧ Hid (Below w.heap.size w wr))
    (fun vi _ => s.length - (intOf vi).toNat)
  case atStart => exact ⟨f, rfl, hf, hR, Below.refl _ _⟩
  case round =>
    obtain ⟨k, rfl, hk, HA, HB⟩ := hrel
    by_cases hkn : k < s.length
    · have hks : k < (B s).size := by omega
      have hi : (B s)[k]'hks = s[k] := List.getElem_toArray hkn
      obtain ⟨x, hx⟩ : ∃ x, s[k] = x := ⟨_, rfl⟩
      have hdr : s.drop k = x :: s.drop (k + 1) := by rw [← hx]; exact List.drop_eq_getElem_cons hkn
      rw [hx] at hi
      have hA := HA.out
      rw [hdr] at hA
      have hsz2 := HB.out.size
      by_cases h92 : x = 92
      · have q : (((x.toNat : Nat) : Int) == 92) = true := by rw [h92]; rfl
        by_cases hk1 : k + 1 < s.length
        · have hks1 : k + 1 < (B s).size := by omega
          have hi1 : (B s)[k + 1]'hks1 = s[k + 1] := List.getElem_toArray hk1
          have q1 : decide ((k : Int) + 1 < (s.length : Int)) = true := decide_eq_true (by omega)
          obtain ⟨y, hy⟩ : ∃ y, s[k + 1] = y := ⟨_, rfl⟩
          have hdr2 : s.drop (k + 1) = y :: s.drop (k + 2) := by rw [← hy]; exact List.drop_eq_getElem_cons hk1
          rw [hy] at hi1
          rw [hdr2] at hA
          have HS := Lib.hid (sign_any y wr)
          cases hsg : sgn y with
          | true =>
            rw [each_esc pLab x y _ h92 hsg] at hA
            have HR := Lib.hid (show (k + 2) + eachL pLab (s.drop (k + 2)) = R by omega)
            clear hA hdr hdr2 h92 hx hy
            go_wp2_with fail
            refine HS.out.mono ?_
            rintro e w2 ⟨rfl, hb2⟩
            rw [hsg]
            have HB2 := Lib.hid (HB.out.trans (hb2.mono hsz2))
            clear hb2 HS hsg HB
            go_wp2
            go_roundw
            case rel => exact ⟨k + 2, by go_num, by omega, HR, HB2⟩
            case measure => simp [intOf]; omega
          | false =>
            rw [each_one pLab x _ (fun _ y' u e => by cases e; exact hsg), ← hdr2] at hA
            clear hdr hdr2 h92 hx hy
            go_wp2_with fail
            refine HS.out.mono ?_
            rintro e w2 ⟨rfl, hb2⟩
            rw [hsg]
            have HB2 := Lib.hid (HB.out.trans (hb2.mono hsz2))
            clear hb2 HS hsg HB
            go_wp2_with fail
            refine (lab1 x _).mono ?_
            rintro e w3 ⟨rfl, rfl⟩
            cases hp : pLab x with
            | true =>
              rw [hp, if_pos rfl] at hA
              have HR := Lib.hid hA
              clear hA hp
              go_wp2
              go_ret
              exact ⟨congrArg (fun z => Ending.returned (.int .i64 z)) (by have := HR.out; omega), HB2.out⟩
            | false =>
              rw [hp, if_neg (by decide)] at hA
              have HR := Lib.hid (show (k + 1) + eachL pLab (s.drop (k + 1)) = R by omega)
              clear hA hp
              go_wp2
              go_roundw
              case rel => exact ⟨k + 1, by go_num, by omega, HR, HB2⟩
              case measure => simp [intOf]; omega
        · have q1 : decide ((k : Int) + 1 < (s.length : Int)) = false := decide_eq_false (by omega)
          have hnil : s.drop (k + 1) = [] := List.drop_of_length_le (by omega)
          rw [each_one pLab x _ (fun _ y' u e => by rw [hnil] at e; cases e)] at hA
          clear hdr h92 hx hnil
          go_wp2_with fail
          refine (lab1 x _).mono ?_
          rintro e w3 ⟨rfl, rfl⟩
          cases hp : pLab x with
          | true =>
            rw [hp, if_pos rfl] at hA
            have HR := Lib.hid hA
            clear hA hp
            go_wp2
            go_ret
            exact ⟨congrArg (fun z => Ending.returned (.int .i64 z)) (by have := HR.out; omega), HB.out⟩
          | false =>
            rw [hp, if_neg (by decide)] at hA
            have HR := Lib.hid (show (k + 1) + eachL pLab (s.drop (k + 1)) = R by omega)
            clear hA hp
            go_wp2
            go_roundw
            case rel => exact ⟨k + 1, by go_num, by omega, HR, HB⟩
            case measure => simp [intOf]; omega
      · have q : (((x.toNat : Nat) : Int) == 92) = false := beq_eq_false_iff_ne.2 (fun e => h92 ((u8_eq x 92 (by omega)).1 e))
        rw [each_one pLab x _ (fun e => absurd e h92)] at hA
        clear hdr h92 hx
        go_wp2_with fail
        refine (lab1 x _).mono ?_
        rintro e w3 ⟨rfl, rfl⟩
        cases hp : pLab x with
        | true =>
          rw [hp, if_pos rfl] at hA
          have HR := Lib.hid hA
          clear hA hp
          go_wp2
          go_ret
          exact ⟨congrArg (fun z => Ending.returned (.int .i64 z)) (by have := HR.out; omega), HB.out⟩
        | false =>
          rw [hp, if_neg (by decide)] at hA
          have HR := Lib.hid (show (k + 1) + eachL pLab (s.drop (k + 1)) = R by omega)
          clear hA hp
          go_wp2
          go_roundw
          case rel => exact ⟨k + 1, by go_num, by omega, HR, HB⟩
          case measure => simp [intOf]; omega
    · have hnil : s.drop k = [] := List.drop_of_length_le (by omega)
      have HR := Lib.hid (show s.length = R by have := HA.out; rw [hnil] at this; simp [eachL] at this; omega)
      clear HA hnil
      go_wp2
      go_ret
      exact ⟨congrArg (fun z => Ending.returned (.int .i64 z)) (by have := HR.out; omega), HB.out⟩
end Go.Proofs.YtekifcbokdidlaaGreatDoor.PA

namespace Go.Proofs.YtekifcbokdidlaaGreatDoor.PA
open Go.RowKit Go.Proofs.YtekifcbokdidlaaGreatDoor.Pl Go.Proofs.YtekifcbokdidlaaGreatDoor.Pure Go.Proofs.YtekifcbokdidlaaGreatDoorW.PrintWords Go.Proofs.YtekifcbokdidlaaGreatDoorW.PrintLast Go.Proofs.YtekifcbokdidlaaGreatDoorW.PrintMore
set_option linter.unusedVariables false

/-- The address' end. -/
def pAng (x : UInt8) : Bool := decide (x = 60) || decide (x = 62) || decide (x = 10)
theorem ang1 (x : UInt8) (w : World) : Calls Tryz.prog 76 #[.int .u8 (x.toNat : Int)] w fun e w' => e = .returned (.bool (pAng x)) ∧ w = w' := by
  have e0 : ((x.toNat : Int) = 60) ↔ x = 60 := u8_eq _ 60 (by omega)
  have e1 : ((x.toNat : Int) = 62) ↔ x = 62 := u8_eq _ 62 (by omega)
  have e2 : ((x.toNat : Int) = 10) ↔ x = 10 := u8_eq _ 10 (by omega)
  by_cases h0 : x = 60
  · have HD := Lib.hid (show pAng x = true by rw [h0]; decide)
    have q0 : ((x.toNat : Int) == 60) = true := beq_iff_eq.2 (e0.2 h0)
    clear h0
    clear e0 e1 e2
    go_enter Tryz.func76, Tryz.ntmps76
    go_wp2
    go_ret
    exact ⟨congrArg (fun z => Ending.returned (.bool z)) HD.out.symm, rfl⟩
  · have q0 : ((x.toNat : Int) == 60) = false := beq_eq_false_iff_ne.2 (fun e => h0 (e0.1 e))
    by_cases h1 : x = 62
    · have HD := Lib.hid (show pAng x = true by rw [h1]; decide)
      have q1 : ((x.toNat : Int) == 62) = true := beq_iff_eq.2 (e1.2 h1)
      clear h0 h1
      clear e0 e1 e2
      go_enter Tryz.func76, Tryz.ntmps76
      go_wp2
      go_ret
      exact ⟨congrArg (fun z => Ending.returned (.bool z)) HD.out.symm, rfl⟩
    · have q1 : ((x.toNat : Int) == 62) = false := beq_eq_false_iff_ne.2 (fun e => h1 (e1.1 e))
      by_cases h2 : x = 10
      · have HD := Lib.hid (show pAng x = true by rw [h2]; decide)
        have q2 : ((x.toNat : Int) == 10) = true := beq_iff_eq.2 (e2.2 h2)
        clear h0 h1 h2
        clear e0 e1 e2
        go_enter Tryz.func76, Tryz.ntmps76
        go_wp2
        go_ret
        exact ⟨congrArg (fun z => Ending.returned (.bool z)) HD.out.symm, rfl⟩
      · have q2 : ((x.toNat : Int) == 10) = false := beq_eq_false_iff_ne.2 (fun e => h2 (e2.1 e))
        have HD := Lib.hid (show pAng x = false by unfold pAng; rw [decide_eq_false h0, decide_eq_false h1, decide_eq_false h2]; rfl)
        clear h0 h1 h2
        clear e0 e1 e2
        go_enter Tryz.func76, Tryz.ntmps76
        go_wp2
        go_ret
        exact ⟨congrArg (fun z => Ending.returned (.bool z)) HD.out.symm, rfl⟩
set_option maxHeartbeats 4000000 in
set_option maxRecDepth 100000 in
theorem each_ang (s : List UInt8) (hs : s.length ≤ 1099511627776) (f : Nat) (hf : f ≤ s.length) (w : World) : Calls Tryz.prog 45 #[.string (B s), .int .i64 f, .func (.func 76) #[] #[]] w fun e w' => e = .returned (.int .i64 ((f + eachL pAng (s.drop f) : Nat) : Int)) ∧ Below w.heap.size w w' := by
  have hsz : (B s).size = s.length := B_size s
  obtain ⟨R, hR⟩ : ∃ R, f + eachL pAng (s.drop f) = R := ⟨_, rfl⟩
  rw [hR]
  go_enter Tryz.func45, Tryz.ntmps45
  go_wp2
  go_loopw [7] (fun vi wr => ∃ k : Nat, vi = .int .i64 k ∧ k ≤ s.length ∧ Hid (k + eachL pAng (s.drop k) = R) ∧ Hid (Below w.heap.size w wr))
    (fun vi _ => s.length - (intOf vi).toNat)
  case atStart => exact ⟨f, rfl, hf, hR, Below.refl _ _⟩
  case round =>
    obtain ⟨k, rfl, hk, HA, HB⟩ := hrel
    by_cases hkn : k < s.length
    · have hks : k < (B s).size := by omega
      have hi : (B s)[k]'hks = s[k] := List.getElem_toArray hkn
      obtain ⟨x, hx⟩ : ∃ x, s[k] = x := ⟨_, rfl⟩
      have hdr : s.drop k = x :: s.drop (k + 1) := by rw [← hx]; exact List.drop_eq_getElem_cons hkn
      rw [hx] at hi
      have hA := HA.out
      rw [hdr] at hA
      have hsz2 := HB.out.size
      by_cases h92 : x = 92
      · have q : (((x.toNat : Nat) : Int) == 92) = true := by rw [h92]; rfl
        by_cases hk1 : k + 1 < s.length
        · have hks1 : k + 1 < (B s).size := by omega
          have hi1 : (B s)[k + 1]'hks1 = s[k + 1] := List.getElem_toArray hk1
          have q1 : decide ((k : Int) + 1 < (s.length : Int)) = true := decide_eq_true (by omega)
          obtain ⟨y, hy⟩ : ∃ y, s[k + 1] = y := ⟨_, rfl⟩
          have hdr2 : s.drop (k + 1) = y :: s.drop (k + 2) := by rw [← hy]; exact List.drop_eq_getElem_cons hk1
          rw [hy] at hi1
          rw [hdr2] at hA
          have HS := Lib.hid (sign_any y wr)
          cases hsg : sgn y with
          | true =>
            rw [each_esc pAng x y _ h92 hsg] at hA
            have HR := Lib.hid (show (k + 2) + eachL pAng (s.drop (k + 2)) = R by omega)
            clear hA hdr hdr2 h92 hx hy
            go_wp2_with fail
            refine HS.out.mono ?_
            rintro e w2 ⟨rfl, hb2⟩
            rw [hsg]
            have HB2 := Lib.hid (HB.out.trans (hb2.mono hsz2))
            clear hb2 HS hsg HB
            go_wp2
            go_roundw
            case rel => exact ⟨k + 2, by go_num, by omega, HR, HB2⟩
            case measure => simp [intOf]; omega
          | false =>
            rw [each_one pAng x _ (fun _ y' u e => by cases e; exact hsg), ← hdr2] at hA
            clear hdr hdr2 h92 hx hy
            go_wp2_with fail
            refine HS.out.mono ?_
            rintro e w2 ⟨rfl, hb2⟩
            rw [hsg]
            have HB2 := Lib.hid (HB.out.trans (hb2.mono hsz2))
            clear hb2 HS hsg HB
            go_wp2_with fail
            refine (ang1 x _).mono ?_
            rintro e w3 ⟨rfl, rfl⟩
            cases hp : pAng x with
            | true =>
              rw [hp, if_pos rfl] at hA
              have HR := Lib.hid hA
              clear hA hp
              go_wp2
              go_ret
              exact ⟨congrArg (fun z => Ending.returned (.int .i64 z)) (by have := HR.out; omega), HB2.out⟩
            | false =>
              rw [hp, if_neg (by decide)] at hA
              have HR := Lib.hid (show (k + 1) + eachL pAng (s.drop (k + 1)) = R by omega)
              clear hA hp
              go_wp2
              go_roundw
              case rel => exact ⟨k + 1, by go_num, by omega, HR, HB2⟩
              case measure => simp [intOf]; omega
        · have q1 : decide ((k : Int) + 1 < (s.length : Int)) = false := decide_eq_false (by omega)
          have hnil : s.drop (k + 1) = [] := List.drop_of_length_le (by omega)
          rw [each_one pAng x _ (fun _ y' u e => by rw [hnil] at e; cases e)] at hA
          clear hdr h92 hx hnil
          go_wp2_with fail
          refine (ang1 x _).mono ?_
          rintro e w3 ⟨rfl, rfl⟩
          cases hp : pAng x with
          | true =>
            rw [hp, if_pos rfl] at hA
            have HR := Lib.hid hA
            clear hA hp
            go_wp2
            go_ret
            exact ⟨congrArg (fun z => Ending.returned (.int .i64 z)) (by have := HR.out; omega), HB.out⟩
          | false =>
            rw [hp, if_neg (by decide)] at hA
            have HR := Lib.hid (show (k + 1) + eachL pAng (s.drop (k + 1)) = R by omega)
            clear hA hp
            go_wp2
            go_roundw
            case rel => exact ⟨k + 1, by go_num, by omega, HR, HB⟩
            case measure => simp [intOf]; omega
      · have q : (((x.toNat : Nat) : Int) == 92) = false := beq_eq_false_iff_ne.2 (fun e => h92 ((u8_eq x 92 (by omega)).1 e))
        rw [each_one pAng x _ (fun e => absurd e h92)] at hA
        clear hdr h92 hx
        go_wp2_with fail
        refine (ang1 x _).mono ?_
        rintro e w3 ⟨rfl, rfl⟩
        cases hp : pAng x with
        | true =>
          rw [hp, if_pos rfl] at hA
          have HR := Lib.hid hA
          clear hA hp
          go_wp2
          go_ret
          exact ⟨congrArg (fun z => Ending.returned (.int .i64 z)) (by have := HR.out; omega), HB.out⟩
        | false =>
          rw [hp, if_neg (by decide)] at hA
          have HR := Lib.hid (show (k + 1) + eachL pAng (s.drop (k + 1)) = R by omega)
          clear hA hp
          go_wp2
          go_roundw
          case rel => exact ⟨k + 1, by go_num, by omega, HR, HB⟩
          case measure => simp [intOf]; omega
    · have hnil : s.drop k = [] := List.drop_of_length_le (by omega)
      have HR := Lib.hid (show s.length = R by have := HA.out; rw [hnil] at this; simp [eachL] at this; omega)
      clear HA hnil
      go_wp2
      go_ret
      exact ⟨congrArg (fun z => Ending.returned (.int .i64 z)) (by have := HR.out; omega), HB.out⟩
end Go.Proofs.YtekifcbokdidlaaGreatDoor.PA

namespace Go.Proofs.YtekifcbokdidlaaGreatDoor.PA
open Go.RowKit Go.Proofs.YtekifcbokdidlaaGreatDoor.Pl Go.Proofs.YtekifcbokdidlaaGreatDoor.Pure Go.Proofs.YtekifcbokdidlaaGreatDoorW.PrintWords Go.Proofs.YtekifcbokdidlaaGreatDoorW.PrintLast Go.Proofs.YtekifcbokdidlaaGreatDoorW.PrintMore
set_option linter.unusedVariables false

/-- The title's end. -/
def pTit (en x : UInt8) : Bool := decide (x = en) || (decide (x = 40) && decide (en = 41))
theorem tit1 (x en : UInt8) (b : Nat) (w : World) (hc : w.cell? ⟨b, 0, none⟩ = some (.int .u8 (en.toNat : Int))) : Calls Tryz.prog 79 #[.int .u8 (x.toNat : Int), .pointer (some ⟨b, 0, none⟩)] w fun e w' => e = .returned (.bool (pTit en x)) ∧ w = w' := by
  have e0 : ((x.toNat : Int) = (en.toNat : Int)) ↔ x = en := ⟨fun h => UInt8.toNat_inj.1 (by omega), fun h => by rw [h]⟩
  have e1 : ((x.toNat : Int) = 40) ↔ x = 40 := u8_eq _ 40 (by omega)
  have e2 : ((en.toNat : Int) = 41) ↔ en = 41 := u8_eq _ 41 (by omega)
  by_cases h0 : x = en
  · have HD := Lib.hid (show pTit en x = true by unfold pTit; rw [decide_eq_true h0]; rfl)
    have q0 : ((x.toNat : Int) == (en.toNat : Int)) = true := beq_iff_eq.2 (e0.2 h0)
    clear h0
    clear e0 e1 e2
    go_enter Tryz.func79, Tryz.ntmps79
    go_wp2
    go_ret
    exact ⟨congrArg (fun z => Ending.returned (.bool z)) HD.out.symm, rfl⟩
  · have q0 : ((x.toNat : Int) == (en.toNat : Int)) = false := beq_eq_false_iff_ne.2 (fun e => h0 (e0.1 e))
    by_cases h1 : x = 40
    · have q1 : ((x.toNat : Int) == 40) = true := beq_iff_eq.2 (e1.2 h1)
      by_cases h2 : en = 41
      · have HD := Lib.hid (show pTit en x = true by unfold pTit; rw [decide_eq_true h1, decide_eq_true h2, Bool.and_self, Bool.or_true])
        have q2 : ((en.toNat : Int) == 41) = true := beq_iff_eq.2 (e2.2 h2)
        clear h0 h1 h2
        clear e0 e1 e2
        go_enter Tryz.func79, Tryz.ntmps79
        go_wp2
        go_ret
        exact ⟨congrArg (fun z => Ending.returned (.bool z)) HD.out.symm, rfl⟩
      · have HD := Lib.hid (show pTit en x = false by unfold pTit; rw [decide_eq_false h0, decide_eq_false h2, Bool.and_false]; rfl)
        have q2 : ((en.toNat : Int) == 41) = false := beq_eq_false_iff_ne.2 (fun e => h2 (e2.1 e))
        clear h0 h1 h2
        clear e0 e1 e2
        go_enter Tryz.func79, Tryz.ntmps79
        go_wp2
        go_ret
        exact ⟨congrArg (fun z => Ending.returned (.bool z)) HD.out.symm, rfl⟩
    · have HD := Lib.hid (show pTit en x = false by unfold pTit; rw [decide_eq_false h0, decide_eq_false h1]; rfl)
      have q1 : ((x.toNat : Int) == 40) = false := beq_eq_false_iff_ne.2 (fun e => h1 (e1.1 e))
      clear h0 h1
      clear e0 e1 e2
      go_enter Tryz.func79, Tryz.ntmps79
      go_wp2
      go_ret
      exact ⟨congrArg (fun z => Ending.returned (.bool z)) HD.out.symm, rfl⟩
set_option maxHeartbeats 4000000 in
set_option maxRecDepth 100000 in
theorem each_tit (s : List UInt8) (hs : s.length ≤ 1099511627776) (f : Nat) (hf : f ≤ s.length) (b : Nat) (en : UInt8) (w : World) (hbx : b < w.heap.size) (hcx : w.cell? ⟨b, 0, none⟩ = some (.int .u8 (en.toNat : Int))) : Calls Tryz.prog 45 #[.string (B s), .int .i64 f, .func (.func 79) #[] #[.pointer (some ⟨b, 0, none⟩)]] w fun e w' => e = .returned (.int .i64 ((f + eachL (pTit en) (s.drop f) : Nat) : Int)) ∧ Below w.heap.size w w' := by
  have hsz : (B s).size = s.length := B_size s
  obtain ⟨R, hR⟩ : ∃ R, f + eachL (pTit en) (s.drop f) = R := ⟨_, rfl⟩
  rw [hR]
  go_enter Tryz.func45, Tryz.ntmps45
  go_wp2
  go_loopw [7] (fun vi wr => ∃ k : Nat, vi = .int .i64 k ∧ k ≤ s.length ∧ Hid (k + eachL (pTit en) (s.drop k) = R) ∧ Hid (Below w.heap.size w wr))
    (fun vi _ => s.length - (intOf vi).toNat)
  case atStart => exact ⟨f, rfl, hf, hR, Below.refl _ _⟩
  case round =>
    obtain ⟨k, rfl, hk, HA, HB⟩ := hrel
    by_cases hkn : k < s.length
    · have hks : k < (B s).size := by omega
      have hi : (B s)[k]'hks = s[k] := List.getElem_toArray hkn
      obtain ⟨x, hx⟩ : ∃ x, s[k] = x := ⟨_, rfl⟩
      have hdr : s.drop k = x :: s.drop (k + 1) := by rw [← hx]; exact List.drop_eq_getElem_cons hkn
      rw [hx] at hi
      have hA := HA.out
      rw [hdr] at hA
      have hsz2 := HB.out.size
      by_cases h92 : x = 92
      · have q : (((x.toNat : Nat) : Int) == 92) = true := by rw [h92]; rfl
        by_cases hk1 : k + 1 < s.length
        · have hks1 : k + 1 < (B s).size := by omega
          have hi1 : (B s)[k + 1]'hks1 = s[k + 1] := List.getElem_toArray hk1
          have q1 : decide ((k : Int) + 1 < (s.length : Int)) = true := decide_eq_true (by omega)
          obtain ⟨y, hy⟩ : ∃ y, s[k + 1] = y := ⟨_, rfl⟩
          have hdr2 : s.drop (k + 1) = y :: s.drop (k + 2) := by rw [← hy]; exact List.drop_eq_getElem_cons hk1
          rw [hy] at hi1
          rw [hdr2] at hA
          have HS := Lib.hid (sign_any y wr)
          cases hsg : sgn y with
          | true =>
            rw [each_esc (pTit en) x y _ h92 hsg] at hA
            have HR := Lib.hid (show (k + 2) + eachL (pTit en) (s.drop (k + 2)) = R by omega)
            clear hA hdr hdr2 h92 hx hy
            go_wp2_with fail
            refine HS.out.mono ?_
            rintro e w2 ⟨rfl, hb2⟩
            rw [hsg]
            have HB2 := Lib.hid (HB.out.trans (hb2.mono hsz2))
            clear hb2 HS hsg HB
            go_wp2
            go_roundw
            case rel => exact ⟨k + 2, by go_num, by omega, HR, HB2⟩
            case measure => simp [intOf]; omega
          | false =>
            rw [each_one (pTit en) x _ (fun _ y' u e => by cases e; exact hsg), ← hdr2] at hA
            clear hdr hdr2 h92 hx hy
            go_wp2_with fail
            refine HS.out.mono ?_
            rintro e w2 ⟨rfl, hb2⟩
            rw [hsg]
            have HB2 := Lib.hid (HB.out.trans (hb2.mono hsz2))
            clear hb2 HS hsg HB
            go_wp2_with fail
            refine (tit1 x en b _ ((HB2.out.cell (p := ⟨b, 0, none⟩) hbx).trans hcx)).mono ?_
            rintro e w3 ⟨rfl, rfl⟩
            cases hp : (pTit en) x with
            | true =>
              rw [hp, if_pos rfl] at hA
              have HR := Lib.hid hA
              clear hA hp
              go_wp2
              go_ret
              exact ⟨congrArg (fun z => Ending.returned (.int .i64 z)) (by have := HR.out; omega), HB2.out⟩
            | false =>
              rw [hp, if_neg (by decide)] at hA
              have HR := Lib.hid (show (k + 1) + eachL (pTit en) (s.drop (k + 1)) = R by omega)
              clear hA hp
              go_wp2
              go_roundw
              case rel => exact ⟨k + 1, by go_num, by omega, HR, HB2⟩
              case measure => simp [intOf]; omega
        · have q1 : decide ((k : Int) + 1 < (s.length : Int)) = false := decide_eq_false (by omega)
          have hnil : s.drop (k + 1) = [] := List.drop_of_length_le (by omega)
          rw [each_one (pTit en) x _ (fun _ y' u e => by rw [hnil] at e; cases e)] at hA
          clear hdr h92 hx hnil
          go_wp2_with fail
          refine (tit1 x en b _ ((HB.out.cell (p := ⟨b, 0, none⟩) hbx).trans hcx)).mono ?_
          rintro e w3 ⟨rfl, rfl⟩
          cases hp : (pTit en) x with
          | true =>
            rw [hp, if_pos rfl] at hA
            have HR := Lib.hid hA
            clear hA hp
            go_wp2
            go_ret
            exact ⟨congrArg (fun z => Ending.returned (.int .i64 z)) (by have := HR.out; omega), HB.out⟩
          | false =>
            rw [hp, if_neg (by decide)] at hA
            have HR := Lib.hid (show (k + 1) + eachL (pTit en) (s.drop (k + 1)) = R by omega)
            clear hA hp
            go_wp2
            go_roundw
            case rel => exact ⟨k + 1, by go_num, by omega, HR, HB⟩
            case measure => simp [intOf]; omega
      · have q : (((x.toNat : Nat) : Int) == 92) = false := beq_eq_false_iff_ne.2 (fun e => h92 ((u8_eq x 92 (by omega)).1 e))
        rw [each_one (pTit en) x _ (fun e => absurd e h92)] at hA
        clear hdr h92 hx
        go_wp2_with fail
        refine (tit1 x en b _ ((HB.out.cell (p := ⟨b, 0, none⟩) hbx).trans hcx)).mono ?_
        rintro e w3 ⟨rfl, rfl⟩
        cases hp : (pTit en) x with
        | true =>
          rw [hp, if_pos rfl] at hA
          have HR := Lib.hid hA
          clear hA hp
          go_wp2
          go_ret
          exact ⟨congrArg (fun z => Ending.returned (.int .i64 z)) (by have := HR.out; omega), HB.out⟩
        | false =>
          rw [hp, if_neg (by decide)] at hA
          have HR := Lib.hid (show (k + 1) + eachL (pTit en) (s.drop (k + 1)) = R by omega)
          clear hA hp
          go_wp2
          go_roundw
          case rel => exact ⟨k + 1, by go_num, by omega, HR, HB⟩
          case measure => simp [intOf]; omega
    · have hnil : s.drop k = [] := List.drop_of_length_le (by omega)
      have HR := Lib.hid (show s.length = R by have := HA.out; rw [hnil] at this; simp [eachL] at this; omega)
      clear HA hnil
      go_wp2
      go_ret
      exact ⟨congrArg (fun z => Ending.returned (.int .i64 z)) (by have := HR.out; omega), HB.out⟩
end Go.Proofs.YtekifcbokdidlaaGreatDoor.PA
