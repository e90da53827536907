/-
  The contract of table.parts' iterator: a text's parts between bars that no backslash stands ahead of; a text of at most 2^40 bytes.
-/
import Derived.RangeFuncNested
import Derived.RangeFuncBound
import Derived.RangeFuncCalls
import Derived.RangeFuncLeaves
import Derived.Shelf.Abstract
import Derived.Shelf.RegionOpen
import Derived.WalkKit
import Derived.OwnWalkIn
import Derived.TacticsInMore
import Derived.LoopNIn
import Derived.LoopIn
import Derived.Lib.Hide
import Derived.Test.YthbadcdiagcfkaaDoorPAx0
import Derived.Test.YthbadcdiagcfkaaDoorPBase
namespace Go.Proofs.YthbadcdiagcfkaaDoor.PA
open Go.RowKit Go.Shelf Go.Proofs.YthbadcdiagcfkaaDoor.Pl
set_option linter.unusedVariables false
attribute [local go_sem] Oper.semAt_some

/-- The parts of a text: what has come of this one, the byte ahead, what is left. -/
def prt : List UInt8 → UInt8 → List UInt8 → List (List UInt8)
  | cur, _, [] => [cur]
  | cur, prev, x :: t => if x = 124 ∧ prev ≠ 92 then cur :: prt [] x t else prt (cur ++ [x]) x t
theorem prt_len : ∀ (t cur : List UInt8) (prev : UInt8), (prt cur prev t).length ≤ t.length + 1
  | [], _, _ => by simp [prt]
  | x :: t, cur, prev => by
    unfold prt
    split
    · have := prt_len t [] x
      simp only [List.length_cons]
      omega
    · have := prt_len t (cur ++ [x]) x
      simp only [List.length_cons]
      omega
/-- The state of the iterator's loop. -/
def PrtAt (s : List UInt8) (fr k : Nat) (pre : List (List UInt8)) : Prop :=
  fr ≤ k ∧ k ≤ s.length ∧ pre ++ prt ((s.drop fr).take (k - fr)) (if k = 0 then 0 else s.getD (k - 1) 0) (s.drop k) = prt [] 0 s
theorem prtAt_cut (s : List UInt8) (fr k : Nat) (pre : List (List UInt8)) (h : PrtAt s fr k pre) (hk : k < s.length) (hx : s[k] = 124) (hp : k = 0 ∨ s.getD (k - 1) 0 ≠ 92) : PrtAt s (k + 1) (k + 1) (pre ++ [(s.drop fr).take (k - fr)]) := by
  obtain ⟨h1, h2, h3⟩ := h
  refine ⟨Nat.le_refl _, by omega, ?_⟩
  have hd : s.drop k = s[k] :: s.drop (k + 1) := List.drop_eq_getElem_cons hk
  have hprev : (if k = 0 then (0 : UInt8) else s.getD (k - 1) 0) ≠ 92 := by
    split
    · decide
    · rcases hp with e | e
      · omega
      · exact e
  rw [hd, prt, if_pos ⟨hx, hprev⟩] at h3
  rw [← h3, Nat.sub_self, List.take_zero, if_neg (by omega), Nat.add_sub_cancel, List.getD_eq_getElem?_getD, List.getElem?_eq_getElem hk, List.append_assoc]
  rfl
theorem prtAt_go (s : List UInt8) (fr k : Nat) (pre : List (List UInt8)) (h : PrtAt s fr k pre) (hk : k < s.length) (hx : s[k] ≠ 124 ∨ (k ≠ 0 ∧ s.getD (k - 1) 0 = 92)) : PrtAt s fr (k + 1) pre := by
  obtain ⟨h1, h2, h3⟩ := h
  refine ⟨by omega, by omega, ?_⟩
  have hd : s.drop k = s[k] :: s.drop (k + 1) := List.drop_eq_getElem_cons hk
  have hno : ¬ (s[k] = 124 ∧ (if k = 0 then (0 : UInt8) else s.getD (k - 1) 0) ≠ 92) := by
    rintro ⟨e1, e2⟩
    rcases hx with e | ⟨e, e3⟩
    · exact e e1
    · rw [if_neg e] at e2
      exact e2 e3
  rw [hd, prt, if_neg hno] at h3
  rw [← h3, if_neg (by omega), Nat.add_sub_cancel, List.getD_eq_getElem?_getD, List.getElem?_eq_getElem hk]
  congr 2
  rw [show k + 1 - fr = (k - fr) + 1 by omega, List.take_add_one, List.getElem?_drop, show fr + (k - fr) = k by omega, List.getElem?_eq_getElem hk]
  rfl
/-- A round keeps block Bs. -/
def KB (Bs : Nat) (W W' : World) : Prop := W'.heap[Bs]? = W.heap[Bs]?
theorem KB.cell {Bs : Nat} {W W' : World} (h : KB Bs W W') : W'.cell? ⟨Bs, 0, none⟩ = W.cell? ⟨Bs, 0, none⟩ := by
  unfold KB at h
  simp [World.cell?, h]
set_option maxRecDepth 100000 in
set_option maxHeartbeats 2000000 in
theorem parts1_in (F : Fence) (n : Nat) (hF : F.fn 47) (hro : F.round = none) (hn : 1 ≤ n) (l Bs : Nat) (s : List UInt8) (hz : s.length ≤ 1099511627776) (J Jx : List (List UInt8) → World → Prop)
    (hY : ∀ pre x W, J pre W → pre.length < (prt [] 0 s).length → x.length ≤ s.length → YieldAt F (n - 1) Tryd.prog l #[.string (B x)] W fun e W' =>
      (e = .returned (.bool true) ∧ J (pre ++ [x]) W' ∧ KB Bs W W') ∨ (e = .returned (.bool false) ∧ Jx (pre ++ [x]) W'))
    (W : World) (hBs : W.cell? ⟨Bs, 0, none⟩ = some (.string (B s))) (h0 : J [] W) :
    CallsIn F n Tryd.prog 47 #[.func (.yield l) #[] #[], .pointer (some ⟨Bs, 0, none⟩)] W fun e W' => (∃ v, e = .returned v) ∧
      ((∃ ys, ys = prt [] 0 s ∧ J ys W') ∨ (∃ pre, pre <+: prt [] 0 s ∧ Jx pre W')) := by
  have hsz : (B s).size = s.length := B_size s
  refine callsIn_of_wp Tryd.func47 rfl hF ?_ hro
  simp only [Tryd.ntmps47, List.size_toArray, List.length_cons, List.length_nil, Nat.reduceAdd, Nat.reduceSub, Array.replicate_succ, Array.replicate_zero, List.push_toArray, List.append_toArray, List.nil_append, List.cons_append]
  gi_wp2
  gi_loopw [3, 7] (fun v3 v7 wr => ∃ (fr k : Nat) (pre : List (List UInt8)), v3 = .int .i64 (fr : Int) ∧ v7 = .int .i64 (k : Int) ∧ PrtAt s fr k pre ∧ J pre wr ∧ KB Bs W wr)
    (fun v3 v7 _ => s.length - (intOf v7).toNat)
  case atStart => exact ⟨0, 0, [], rfl, rfl, ⟨Nat.le_refl _, Nat.zero_le _, by simp⟩, h0, rfl⟩
  case round =>
    obtain ⟨fr, k, pre, rfl, rfl, hP, hJ, hnx⟩ := hrel
    have hc := hnx.cell.trans hBs
    have HN := Lib.hid hnx
    clear hnx
    have hfk := hP.1
    have hkl := hP.2.1
    have hpl : pre.length < (prt [] 0 s).length := by
      rw [← hP.2.2, List.length_append]
      have : ∀ (t cur : List UInt8) (prev : UInt8), 0 < (prt cur prev t).length := by
        intro t
        induction t with
        | nil => intro cur prev; simp [prt]
        | cons x t ih => intro cur prev; unfold prt; split; simp; exact ih _ _
      have := this (s.drop k) ((s.drop fr).take (k - fr)) (if k = 0 then 0 else s.getD (k - 1) 0)
      omega
    by_cases hlt : k < s.length
    · have hk : k < (B s).size := by omega
      have hi : (B s)[k]'hk = s[k] := by
        show (B s).data[k]'hk = _
        exact List.getElem_toArray hlt
      have h124 : ((((B s)[k]'hk).toNat : Int) = 124) ↔ s[k] = 124 := by rw [hi]; exact u8_eq _ 124 (by omega)
      clear hi
      by_cases hx : s[k] = 124
      · have q1 : ((((B s)[k]'hk).toNat : Int) != 124) = false := bne_eq_false_iff_eq.2 (h124.2 hx)
        clear h124
        by_cases hp : k ≠ 0 ∧ s.getD (k - 1) 0 = 92
        · have hgo := prtAt_go s fr k pre hP hlt (.inr hp)
          have hp0 := hp.1
          have hk2 : k - 1 < s.length := by omega
          have hk1 : k - 1 < (B s).size := by omega
          have hi1 : (B s)[k - 1]'hk1 = s.getD (k - 1) 0 := by
            rw [List.getD_eq_getElem?_getD, List.getElem?_eq_getElem hk2]
            show (B s).data[k - 1]'hk1 = _
            exact List.getElem_toArray hk2
          have q2 : ((((B s)[k - 1]'hk1).toNat : Int) == 92) = true := by rw [hi1, hp.2]; rfl
          have q3 : decide (0 < k) = true := decide_eq_true (by omega)
          have q4 : ((k : Int) - 1).toNat = k - 1 := by omega
          have hp1 : 1 ≤ k := by omega
          have hp9 := hp.2
          clear hp
          clear hi1
          gi_wp2
          go_roundw
          case rel => exact ⟨fr, k + 1, pre, rfl, by simp, hgo, hJ, HN.out⟩
          case measure => simp [intOf]; omega
        · have hcut := prtAt_cut s fr k pre hP hlt hx (by
            by_cases h0 : k = 0
            · exact .inl h0
            · exact .inr (fun e => hp ⟨h0, e⟩))
          obtain ⟨fn, tmps, assign, body, hy, hR⟩ := hY pre ((s.drop fr).take (k - fr)) wr hJ hpl (by rw [List.length_take, List.length_drop]; omega)
          rw [← B_extract] at hy
          have hpre : pre ++ [(s.drop fr).take (k - fr)] <+: prt [] 0 s := ⟨_, hcut.2.2⟩
          have hq : (decide (0 < k) = false) ∨ (decide (0 < k) = true ∧ 1 ≤ k ∧ ∃ hk1 : k - 1 < (B s).size, ((((B s)[k - 1]'hk1).toNat : Int) == 92) = false) := by
            by_cases h0 : k = 0
            · exact .inl (decide_eq_false (by omega))
            · have hk2 : k - 1 < s.length := by omega
              have hk1 : k - 1 < (B s).size := by omega
              have hi1 : (B s)[k - 1]'hk1 = s.getD (k - 1) 0 := by
                rw [List.getD_eq_getElem?_getD, List.getElem?_eq_getElem hk2]
                show (B s).data[k - 1]'hk1 = _
                exact List.getElem_toArray hk2
              refine .inr ⟨decide_eq_true (by omega), by omega, hk1, beq_eq_false_iff_ne.2 (fun e => hp ⟨h0, ?_⟩)⟩
              rw [hi1] at e
              exact (u8_eq _ 92 (by omega)).1 e
          clear hp
          rcases hq with q3 | ⟨q3, hp1, hk1, q2⟩
          all_goals
            have q4 : ((k : Int) - 1).toNat = k - 1 := by omega
            gi_wp2
            refine hR.mono ?_
            rintro e W3 (⟨rfl, hJ3, hk3⟩ | ⟨rfl, hJx3⟩)
            · gi_wp2
              go_roundw
              case rel => exact ⟨k + 1, k + 1, _, by simp, by simp, hcut, hJ3, Eq.trans hk3 HN.out⟩
              case measure => simp [intOf]; omega
            · gi_wp2
              refine bodyPost_ret (results_none rfl _ _ _) rfl ?_
              exact ⟨⟨_, rfl⟩, .inr ⟨_, hpre, hJx3⟩⟩
      · have q1 : ((((B s)[k]'hk).toNat : Int) != 124) = true := by rw [bne_iff_ne]; exact fun e => hx (h124.1 e)
        have hgo := prtAt_go s fr k pre hP hlt (.inl hx)
        clear h124
        gi_wp2
        go_roundw
        case rel => exact ⟨fr, k + 1, pre, rfl, by simp, hgo, hJ, HN.out⟩
        case measure => simp [intOf]; omega
    · have hke : k = s.length := by omega
      have hfin : pre ++ [s.drop fr] = prt [] 0 s := by
        have h3 := hP.2.2
        rw [hke, List.drop_length, prt, List.take_of_length_le (by rw [List.length_drop]; exact Nat.le_refl _)] at h3
        exact h3
      obtain ⟨fn, tmps, assign, body, hy, hR⟩ := hY pre (s.drop fr) wr hJ hpl (by rw [List.length_drop]; omega)
      rw [← B_from s fr s.length rfl] at hy
      rw [hke] at hfk
      gi_wp2
      refine hR.mono ?_
      rintro e W3 (⟨rfl, hJ3, hk3⟩ | ⟨rfl, hJx3⟩)
      · gi_wp2
        go_end0
        exact ⟨⟨_, rfl⟩, .inl ⟨_, rfl, by rw [← hfin]; exact hJ3⟩⟩
      · gi_wp2
        go_end0
        exact ⟨⟨_, rfl⟩, .inr ⟨_, by rw [hfin]; exact List.prefix_refl _, hJx3⟩⟩
end Go.Proofs.YthbadcdiagcfkaaDoor.PA
