/-
  The contracts of entity.body and entity.Names. Condition: a text of at most 2^40 bytes.
-/
import Derived.Test.YtinpchebcnkckaaGreatDoorGEnt
namespace Go.Proofs.YtinpchebcnkckaaGreatDoor.PA
open Go.RowKit Go.Proofs.YtinpchebcnkckaaGreatDoor.Pl Go.Proofs.YtinpchebcnkckaaGreatDoorW.PrintWords Go.Proofs.YtinpchebcnkckaaGreatDoorW.PrintLast Go.Proofs.YtinpchebcnkckaaGreatDoorW.PrintMore
set_option linter.unusedVariables false

/-- The character of what stands between & and ;. -/
def bdy : List UInt8 → ByteArray × Bool
  | [] => nmd []
  | x :: d => if x = 35 then
      match d with
      | [] => chr 10 7 dg []
      | y :: t => if (y.toNat ||| 32) = 120 then chr 16 6 hxd t else chr 10 7 dg (y :: t)
    else nmd (x :: d)
theorem bdy_no (x : UInt8) (d : List UInt8) (h : x ≠ 35) : bdy (x :: d) = nmd (x :: d) := by simp [bdy, h]
theorem bdy_35 : bdy [35] = chr 10 7 dg [] := rfl
theorem bdy_two (y : UInt8) (t : List UInt8) : bdy (35 :: y :: t) = if (y.toNat ||| 32) = 120 then chr 16 6 hxd t else chr 10 7 dg (y :: t) := rfl
set_option maxHeartbeats 4000000 in
set_option maxRecDepth 100000 in
theorem body_walk (s : List UInt8) (hs : s.length ≤ 1099511627776) (w : World) : Calls Tryz.prog 37 #[.string (B s)] w fun e w' => e = .returned (.tuple #[.string (bdy s).1, .bool (bdy s).2]) ∧ Below w.heap.size w w' := by
  have hcp := Tryz.strings_CutPrefix (B s) ⟨#[35]⟩
  rw [B_data, show (⟨#[35]⟩ : ByteArray).data.toList = [35] from rfl] at hcp
  obtain ⟨⟨q1, q2⟩, hq⟩ : ∃ q, bdy s = q := ⟨_, rfl⟩
  rw [hq]
  have hplain : Lib.hasPrefix s [35] = false → bdy s = nmd s := by
    intro h
    cases s with
    | nil => rfl
    | cons x d =>
      have hx : x ≠ 35 := by
        intro e
        subst e
        simp [Lib.hasPrefix, List.isPrefixOf] at h
      exact bdy_no x d hx
  cases hp : Lib.hasPrefix s [35] with
  | false =>
    have hr := hplain hp
    rw [hq] at hr
    have ht : Lib.trimPrefix s [35] = s := by unfold Lib.trimPrefix; rw [hp]; rfl
    rw [hp, ht] at hcp
    have HC := Lib.hid hcp
    have HN := Lib.hid (named_walk s)
    rw [← hr] at HN
    clear hcp hq hp hr ht hplain
    go_enter Tryz.func37, Tryz.ntmps37
    go_wp2_with (first | (go_at_call 49; refine (HC.out _).mono ?_; rintro e w' ⟨rfl, rfl⟩) | (go_at_call 50; refine (HN.out _).mono ?_; rintro e w' ⟨rfl, hb⟩; have HB := Lib.hid hb; clear hb))
    go_ret2
    exact ⟨rfl, HB.out⟩
  | true =>
    obtain ⟨d, rfl⟩ : ∃ d, s = 35 :: d := by
      cases s with
      | nil => cases hp
      | cons x d =>
        simp [Lib.hasPrefix, List.isPrefixOf] at hp
        exact ⟨d, by rw [hp]⟩
    have ht : Lib.trimPrefix (35 :: d) [35] = d := by unfold Lib.trimPrefix; rw [hp]; rfl
    rw [hp, ht] at hcp
    have HC := Lib.hid (show ∀ w, Calls Tryz.prog 49 #[.string (B (35 :: d)), .string ⟨#[35]⟩] w fun e w' => e = .returned (.tuple #[.string (B d), .bool true]) ∧ w' = w from hcp)
    clear hcp hp ht hplain
    rw [List.length_cons] at hs
    generalize B (35 :: d) = S0 at HC ⊢
    cases d with
    | nil =>
      have hb := hq.symm.trans bdy_35
      clear hq
      have HN := Lib.hid (chr10 [] (by simp))
      rw [← hb] at HN
      have hemp : (B []).toList = [] := B_toList []
      have hem2 : (B []).toList.isEmpty = true := by rw [hemp]; rfl
      clear hb
      go_enter Tryz.func37, Tryz.ntmps37
      go_wp2_with (first | (go_at_call 49; refine (HC.out _).mono ?_; rintro e w' ⟨rfl, rfl⟩) | (go_at_call 51; refine (HN.out _).mono ?_; rintro e w' ⟨rfl, hb⟩; have HB := Lib.hid hb; clear hb))
      go_ret2
      exact ⟨rfl, HB.out⟩
    | cons y t =>
      have hb := hq.symm.trans (bdy_two y t)
      clear hq
      have hemp : (B (y :: t)).toList.isEmpty = false := by rw [B_toList]; rfl
      have hz : 0 < (B (y :: t)).size := by rw [B_size]; simp
      have hz1 : 1 ≤ (B (y :: t)).size := hz
      have hi : (B (y :: t))[0]'hz = y := rfl
      have h32 := or32 y
      by_cases hxy : (y.toNat ||| 32) = 120
      · rw [if_pos hxy] at hb
        have HN := Lib.hid (chr16 t (by simp at hs; omega))
        rw [← hb] at HN
        have hex : (B (y :: t)).extract 1 (B (y :: t)).size = B t := B_from (y :: t) 1 _ (B_size _)
        have h120 : bits .or .u8 (((B (y :: t))[0]'hz).toNat : Int) 32 = 120 := by rw [hi, h32, hxy]; rfl
        clear hb hi h32 hxy
        go_enter Tryz.func37, Tryz.ntmps37
        go_wp2_with (first | (go_at_call 49; refine (HC.out _).mono ?_; rintro e w' ⟨rfl, rfl⟩) | (go_at_call 51; refine (HN.out _).mono ?_; rintro e w' ⟨rfl, hb⟩; have HB := Lib.hid hb; clear hb))
        go_ret2
        exact ⟨rfl, HB.out⟩
      · rw [if_neg hxy] at hb
        have HN := Lib.hid (chr10 (y :: t) (by simp at hs ⊢; omega))
        rw [← hb] at HN
        have h120 : (bits .or .u8 (((B (y :: t))[0]'hz).toNat : Int) 32 == 120) = false := by rw [hi, h32]; exact beq_eq_false_iff_ne.2 (by omega)
        clear hb hi h32 hxy
        go_enter Tryz.func37, Tryz.ntmps37
        go_wp2_with (first | (go_at_call 49; refine (HC.out _).mono ?_; rintro e w' ⟨rfl, rfl⟩) | (go_at_call 51; refine (HN.out _).mono ?_; rintro e w' ⟨rfl, hb⟩; have HB := Lib.hid hb; clear hb))
        go_ret2
        exact ⟨rfl, HB.out⟩
def entity_body.f (a0 : ByteArray) : Option (ByteArray × Bool) := if a0.size ≤ 1073741824 then some (bdy a0.data.toList) else none
theorem entity_body.calls (a0 : ByteArray) (r1 : ByteArray) (r2 : Bool) (w : World) (h : entity_body.f a0 = some (r1, r2)) :
    Calls Tryz.prog 37 #[.string a0] w fun e w' => e = .returned (.tuple #[.string r1, .bool r2]) ∧ Below w.heap.size w w' := by
  unfold entity_body.f at h
  split at h
  · rename_i hc
    have h2 := body_walk a0.data.toList (by rw [Array.length_toList]; show a0.size ≤ _; omega) w
    rw [Option.some.inj h, B_eta] at h2
    exact h2
  · cases h
end Go.Proofs.YtinpchebcnkckaaGreatDoor.PA
