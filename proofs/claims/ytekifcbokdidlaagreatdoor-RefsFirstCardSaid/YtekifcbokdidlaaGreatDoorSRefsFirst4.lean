/-
  Texts of the proof of RefsFirst, part 4 of 6: contracts and plain laws. Conditions: see each statement.
-/
import Derived.Test.YtekifcbokdidlaaGreatDoorSRefsFirst3
import Derived.OneCell
import Derived.Test.YtekifcbokdidlaaGreatDoorSRefsFirst1
import Derived.Lib.SplitLaws
import Derived.WalkLawsBesides
import Derived.BigQuiet
import Derived.Deep.QuietTactic
import Derived.Deep.RegionHeld3
import Derived.Test.YtekifcbokdidlaaGreatDoorSRefsFirst2
import Derived.Shelf.SlicesQ.IndexFunc
import Derived.Shelf.SlGeneric
import Derived.RangeFuncBox
import Derived.RangeFuncNested
import Derived.RangeFuncBound
import Derived.RangeFuncCalls
import Derived.RangeFuncLeaves
import Derived.Maps.AppendAt
import Derived.Shelf.Abstract
import Derived.Shelf.RegionOpen
import Derived.WalkKit
import Derived.OwnWalkIn
import Derived.TacticsInMore
import Derived.LoopNIn
import Derived.LoopIn
set_option linter.unusedVariables false
namespace Go.Proofs.YtekifcbokdidlaaGreatDoor.PA
open Go.RowKit Go.Proofs.YtekifcbokdidlaaGreatDoor.Pl Go.Proofs.YtekifcbokdidlaaGreatDoor.Pure Go.Proofs.YtekifcbokdidlaaGreatDoorW.PrintWords Go.Proofs.YtekifcbokdidlaaGreatDoorW.PrintLast Go.Proofs.YtekifcbokdidlaaGreatDoorW.PrintMore
set_option linter.unusedVariables false

/-- Does an address end at a byte? -/
def dstp (o : Nat) (x : UInt8) : Bool := decide (x.toNat ≤ 32) || (decide (x = 127) || (decide (x = 41) && decide (o = 0)))
/-- How many are open behind a byte. -/
def dsto (o : Nat) (x : UInt8) : Nat := if x = 41 then o - 1 else if x = 40 then o + 1 else o
/-- Were they too deep? -/
def dstd (o : Nat) (d : Bool) (x : UInt8) : Bool := if x = 40 then d || decide (32 < o + 1) else d
/-- How far an address goes, how many are open there, and whether they were too deep. -/
def dstL : List UInt8 → Nat → Bool → Nat × Nat × Bool
  | [], o, d => (0, o, d)
  | [x], o, d => if dstp o x = true then (0, o, d) else (1, dsto o x, dstd o d x)
  | x :: y :: t, o, d => if x = 92 ∧ sgn y = true then ((dstL t o d).1 + 2, (dstL t o d).2) else if dstp o x = true then (0, o, d) else ((dstL (y :: t) (dsto o x) (dstd o d x)).1 + 1, (dstL (y :: t) (dsto o x) (dstd o d x)).2)
theorem dst_esc (x y : UInt8) (t : List UInt8) (o : Nat) (d : Bool) (h : x = 92) (h2 : sgn y = true) : dstL (x :: y :: t) o d = ((dstL t o d).1 + 2, (dstL t o d).2) := by rw [dstL, if_pos ⟨h, h2⟩]
theorem dst_one (x : UInt8) (t : List UInt8) (o : Nat) (d : Bool) (h : x = 92 → ∀ y u, t = y :: u → sgn y = false) :
    dstL (x :: t) o d = if dstp o x = true then (0, o, d) else ((dstL t (dsto o x) (dstd o d x)).1 + 1, (dstL t (dsto o x) (dstd o d x)).2) := by
  cases t with
  | nil => rfl
  | cons y u =>
    rw [dstL, if_neg]
    rintro ⟨h1, h2⟩
    rw [h h1 y u rfl] at h2
    cases h2
/-- Two boxes. -/
def Box2 (b : Nat) (o : Nat) (d : Bool) (W : World) : Prop :=
  W.heap[b]? = some (.cells #[.int .i64 (o : Int)] 3 (0, 0)) ∧ W.heap[b + 1]? = some (.cells #[.bool d] 4 (0, 0))
theorem two_other {w : World} {b k : Nat} {u : Value} (h : k ≠ b) : (w.setCell ⟨b, 0, none⟩ u).heap[k]? = w.heap[k]? := Below.heap_setCell _ _ _ _ h
theorem box2_o {b o : Nat} {d : Bool} {W : World} (v : Nat) (h : Box2 b o d W) : Box2 b v d (W.setCell ⟨b, 0, none⟩ (.int .i64 (v : Int))) :=
  ⟨one_setCell h.1, (two_other (by omega)).trans h.2⟩
theorem box2_d {b o : Nat} {d : Bool} {W : World} (v : Bool) (h : Box2 b o d W) : Box2 b o v (W.setCell ⟨b + 1, 0, none⟩ (.bool v)) :=
  ⟨(two_other (by omega)).trans h.1, one_setCell h.2⟩
theorem box2_lt {b o : Nat} {d : Bool} {W : World} (h : Box2 b o d W) : b + 1 < W.heap.size := by
  rcases Nat.lt_or_ge (b + 1) W.heap.size with h1 | h1
  · exact h1
  · have := h.2
    rw [Array.getElem?_eq_none h1] at this
    cases this
theorem box2_below {b o : Nat} {d : Bool} {W W' : World} (h : Box2 b o d W) (hb : Below W.heap.size W W') : Box2 b o d W' := by
  have hl := box2_lt h
  exact ⟨(hb.block b (by omega)).trans h.1, (hb.block (b + 1) hl).trans h.2⟩
theorem dst1_stop (x : UInt8) (o : Nat) (d : Bool) (b : Nat) (W : World) (h : Box2 b o d W) (hp : dstp o x = true) (ho : o ≤ 1099511627776) :
    Calls Tryz.prog 51 #[.int .u8 (x.toNat : Int), .pointer (some ⟨b, 0, none⟩), .pointer (some ⟨b + 1, 0, none⟩)] W fun e w' => e = .returned (.bool true) ∧ w' = W := by
  have c1 := cell_of_one h.1
  have e1 : ((x.toNat : Int) = 127) ↔ x = 127 := u8_eq _ 127 (by omega)
  have e2 : ((x.toNat : Int) = 41) ↔ x = 41 := u8_eq _ 41 (by omega)
  by_cases h0 : x.toNat ≤ 32
  · have q0 : decide ((x.toNat : Int) ≤ 32) = true := decide_eq_true (by omega)
    clear hp h e1 e2 h0
    go_enter Tryz.func51, Tryz.ntmps51
    go_wp2
    go_ret
    exact ⟨rfl, rfl⟩
  · have q0 : decide ((x.toNat : Int) ≤ 32) = false := decide_eq_false (by omega)
    by_cases h1 : x = 127
    · have q1 : ((x.toNat : Int) == 127) = true := beq_iff_eq.2 (e1.2 h1)
      clear hp h e1 e2 h0 h1
      go_enter Tryz.func51, Tryz.ntmps51
      go_wp2
      go_ret
      exact ⟨rfl, rfl⟩
    · have q1 : ((x.toNat : Int) == 127) = false := beq_eq_false_iff_ne.2 (fun e => h1 (e1.1 e))
      unfold dstp at hp
      rw [decide_eq_false h0, decide_eq_false h1, Bool.false_or, Bool.false_or, Bool.and_eq_true, decide_eq_true_eq, decide_eq_true_eq] at hp
      obtain ⟨h2, rfl⟩ := hp
      have q2 : ((x.toNat : Int) == 41) = true := beq_iff_eq.2 (e2.2 h2)
      have q3 : (((0 : Nat) : Int) == 0) = true := rfl
      clear h e1 e2 h0 h1 h2
      go_enter Tryz.func51, Tryz.ntmps51
      go_wp2
      go_ret
      exact ⟨rfl, rfl⟩
set_option maxHeartbeats 1000000 in
theorem dst1_go (x : UInt8) (o : Nat) (d : Bool) (b : Nat) (W : World) (h : Box2 b o d W) (hp : dstp o x = false) (ho : o ≤ 1099511627776) :
    Calls Tryz.prog 51 #[.int .u8 (x.toNat : Int), .pointer (some ⟨b, 0, none⟩), .pointer (some ⟨b + 1, 0, none⟩)] W
      fun e w' => e = .returned (.bool false) ∧ Box2 b (dsto o x) (dstd o d x) w' ∧ Below b W w' := by
  have HX := Aside0.mk h
  have c1 := cell_of_one h.1
  have f1 := free_of_one h.1
  have e1 : ((x.toNat : Int) = 127) ↔ x = 127 := u8_eq _ 127 (by omega)
  have e2 : ((x.toNat : Int) = 41) ↔ x = 41 := u8_eq _ 41 (by omega)
  have e3 : ((x.toNat : Int) = 40) ↔ x = 40 := u8_eq _ 40 (by omega)
  unfold dstp at hp
  simp only [Bool.or_eq_false_iff, Bool.and_eq_false_iff, decide_eq_false_iff_not] at hp
  obtain ⟨h0, h1, h4⟩ := hp
  have q0 : decide ((x.toNat : Int) ≤ 32) = false := decide_eq_false (by omega)
  have q1 : ((x.toNat : Int) == 127) = false := beq_eq_false_iff_ne.2 (fun e => h1 (e1.1 e))
  by_cases h2 : x = 41
  · have ho0 : o ≠ 0 := by rcases h4 with h4 | h4; exact absurd h2 h4; exact h4
    have q2 : ((x.toNat : Int) == 41) = true := beq_iff_eq.2 (e2.2 h2)
    have q3 : ((o : Int) == 0) = false := beq_eq_false_iff_ne.2 (by omega)
    have HO := Aside0.mk (show dsto o x = o - 1 ∧ dstd o d x = d ∧ (o : Int) - 1 = ((o - 1 : Nat) : Int) by subst h2; exact ⟨rfl, rfl, by omega⟩)
    clear h e1 e2 e3 h0 h1 h2 h4
    go_enter Tryz.func51, Tryz.ntmps51
    go_wp2
    go_ret
    rw [HO.out.1, HO.out.2.1, HO.out.2.2]
    exact ⟨rfl, box2_o _ HX.out, (Below.refl b W).setCell (p := ⟨b, 0, none⟩) (Nat.le_refl _) _⟩
  · have q2 : ((x.toNat : Int) == 41) = false := beq_eq_false_iff_ne.2 (fun e => h2 (e2.1 e))
    by_cases h3 : x = 40
    · have q4 : ((x.toNat : Int) == 40) = true := beq_iff_eq.2 (e3.2 h3)
      have HO := Aside0.mk (show dsto o x = o + 1 ∧ dstd o d x = (d || decide (32 < o + 1)) by subst h3; exact ⟨rfl, rfl⟩)
      have B1 := Aside0.mk (box2_o (o + 1) h)
      have c2 := cell_of_one B1.out.2
      have f2 := free_of_one B1.out.2
      have c3 := cell_of_one B1.out.1
      rw [show ((o + 1 : Nat) : Int) = (o : Int) + 1 from rfl] at c2 f2 c3
      clear h e1 e2 e3 h0 h1 h2 h4 h3
      cases d with
      | true =>
        go_enter Tryz.func51, Tryz.ntmps51
        go_wp2
        go_ret
        rw [HO.out.1, HO.out.2]
        exact ⟨rfl, box2_d true (box2_o (o + 1) HX.out), ((Below.refl b W).setCell (p := ⟨b, 0, none⟩) (Nat.le_refl _) _).setCell (p := ⟨b + 1, 0, none⟩) (Nat.le_succ _) _⟩
      | false =>
        have q5 : decide ((32 : Int) < (o : Int) + 1) = decide (32 < o + 1) := by
          by_cases hq : 32 < o + 1
          · rw [decide_eq_true hq]; exact decide_eq_true (by omega)
          · rw [decide_eq_false hq]; exact decide_eq_false (by omega)
        go_enter Tryz.func51, Tryz.ntmps51
        go_wp2
        go_ret
        rw [HO.out.1, HO.out.2]
        exact ⟨rfl, box2_d _ (box2_o (o + 1) HX.out), ((Below.refl b W).setCell (p := ⟨b, 0, none⟩) (Nat.le_refl _) _).setCell (p := ⟨b + 1, 0, none⟩) (Nat.le_succ _) _⟩
    · have q4 : ((x.toNat : Int) == 40) = false := beq_eq_false_iff_ne.2 (fun e => h3 (e3.1 e))
      have HO := Aside0.mk (show dsto o x = o ∧ dstd o d x = d by unfold dsto dstd; rw [if_neg h2, if_neg h3, if_neg h3]; exact ⟨rfl, rfl⟩)
      clear h e1 e2 e3 h0 h1 h2 h4 h3
      go_enter Tryz.func51, Tryz.ntmps51
      go_wp2
      go_ret
      rw [HO.out.1, HO.out.2]
      exact ⟨rfl, HX.out, Below.refl _ _⟩
theorem dsto_le (o : Nat) (x : UInt8) (k : Nat) (h : o ≤ k) : dsto o x ≤ k + 1 := by
  unfold dsto
  split
  · omega
  · split <;> omega
set_option maxHeartbeats 4000000 in
set_option maxRecDepth 100000 in
theorem each_dst (s : List UInt8) (hs : s.length ≤ 1099511627776) (b : Nat) (w : World) (hbx : Box2 b 0 false w) :
    Calls Tryz.prog 45 #[.string (B s), .int .i64 0, .func (.func 51) #[] #[.pointer (some ⟨b, 0, none⟩), .pointer (some ⟨b + 1, 0, none⟩)]] w
      fun e w' => e = .returned (.int .i64 (((dstL s 0 false).1 : Nat) : Int)) ∧ Box2 b (dstL s 0 false).2.1 (dstL s 0 false).2.2 w' ∧ Below b w w' := by
  have hsz : (B s).size = s.length := B_size s
  obtain ⟨R, hR⟩ : ∃ R, dstL s 0 false = R := ⟨_, rfl⟩
  rw [hR]
  have HX0 := Lib.hid hbx
  clear hbx
  go_enter Tryz.func45, Tryz.ntmps45
  go_wp2
  go_loopw [7] (fun vi wr => ∃ (k o : Nat) (d : Bool), vi = .int .i64 k ∧ k ≤ s.length ∧ Hid (o ≤ k) ∧ Hid ((k + (dstL (s.drop k) o d).1, (dstL (s.drop k) o d).2) = R) ∧ Hid (Box2 b o d wr) ∧ Hid (Below b w wr))
    (fun vi _ => s.length - (intOf vi).toNat)
  case atStart => exact ⟨0, 0, false, rfl, by omega, Lib.hid (Nat.le_refl _), Lib.hid (by rw [List.drop_zero, hR]; simp), HX0, Lib.hid (Below.refl _ _)⟩
  case round =>
    obtain ⟨k, o, d, rfl, hk, HO, HA, HX, HB⟩ := hrel
    have ho := HO.out
    by_cases hkn : k < s.length
    · have hks : k < (B s).size := by omega
      have hi : (B s)[k]'hks = s[k] := List.getElem_toArray hkn
      obtain ⟨x, hx⟩ : ∃ x, s[k] = x := ⟨_, rfl⟩
      have hdr : s.drop k = x :: s.drop (k + 1) := by rw [← hx]; exact List.drop_eq_getElem_cons hkn
      rw [hx] at hi
      have hA := HA.out
      rw [hdr] at hA
      by_cases h92 : x = 92
      · have q : (((x.toNat : Nat) : Int) == 92) = true := by rw [h92]; rfl
        by_cases hk1 : k + 1 < s.length
        · have hks1 : k + 1 < (B s).size := by omega
          have hi1 : (B s)[k + 1]'hks1 = s[k + 1] := List.getElem_toArray hk1
          have q1 : decide ((k : Int) + 1 < (s.length : Int)) = true := decide_eq_true (by omega)
          obtain ⟨y, hy⟩ : ∃ y, s[k + 1] = y := ⟨_, rfl⟩
          have hdr2 : s.drop (k + 1) = y :: s.drop (k + 2) := by rw [← hy]; exact List.drop_eq_getElem_cons hk1
          rw [hy] at hi1
          rw [hdr2] at hA
          have HS := Lib.hid (sign_any y wr)
          have hlt := box2_lt HX.out
          cases hsg : sgn y with
          | true =>
            rw [dst_esc x y _ o d h92 hsg] at hA
            have HR := Lib.hid (show ((k + 2) + (dstL (s.drop (k + 2)) o d).1, (dstL (s.drop (k + 2)) o d).2) = R by rw [← hA]; exact Prod.ext (by show _ = k + (_ + 2); omega) rfl)
            clear hA hdr hdr2 h92 hx hy
            go_wp2_with fail
            refine HS.out.mono ?_
            rintro e w2 ⟨rfl, hb2⟩
            rw [hsg]
            have HB2 := Lib.hid (HB.out.trans (hb2.mono (by omega)))
            have HX2 := Lib.hid (box2_below HX.out hb2)
            have HO2 := Lib.hid (show o ≤ k + 2 by omega)
            clear hb2 HS hsg HB hlt
            go_wp2
            go_roundw
            case rel => exact ⟨k + 2, o, d, by go_num, by omega, HO2, HR, HX2, HB2⟩
            case measure => simp [intOf]; omega
          | false =>
            rw [dst_one x _ o d (fun _ y' u e => by cases e; exact hsg), ← hdr2] at hA
            clear hdr hdr2 h92 hx hy
            go_wp2_with fail
            refine HS.out.mono ?_
            rintro e w2 ⟨rfl, hb2⟩
            rw [hsg]
            have HB2 := Lib.hid (HB.out.trans (hb2.mono (by omega)))
            have HX2 := Lib.hid (box2_below HX.out hb2)
            clear hb2 HS hsg HB hlt
            cases hp : dstp o x with
            | true =>
              rw [hp, if_pos rfl] at hA
              have HR := Lib.hid hA
              go_wp2_with fail
              refine (dst1_stop x o d b _ HX2.out hp (by omega)).mono ?_
              rintro e w3 ⟨rfl, rfl⟩
              clear hA hp
              go_wp2
              go_ret
              exact ⟨congrArg (fun z => Ending.returned (.int .i64 z)) (by have := HR.out; rw [← this]; simp), by have := HR.out; rw [← this]; exact HX2.out, HB2.out⟩
            | false =>
              rw [hp, if_neg (by decide)] at hA
              have HR := Lib.hid (show ((k + 1) + (dstL (s.drop (k + 1)) (dsto o x) (dstd o d x)).1, (dstL (s.drop (k + 1)) (dsto o x) (dstd o d x)).2) = R by rw [← hA]; exact Prod.ext (by show _ = k + (_ + 1); omega) rfl)
              go_wp2_with fail
              refine (dst1_go x o d b _ HX2.out hp (by omega)).mono ?_
              rintro e w3 ⟨rfl, hx3, hb3⟩
              have HX3 := Lib.hid hx3
              have HB3 := Lib.hid (HB2.out.trans hb3)
              have HO3 := Lib.hid (dsto_le o x k ho)
              clear hA hp hx3 hb3
              go_wp2
              go_roundw
              case rel => exact ⟨k + 1, dsto o x, dstd o d x, by go_num, by omega, HO3, HR, HX3, HB3⟩
              case measure => simp [intOf]; omega
        · have q1 : decide ((k : Int) + 1 < (s.length : Int)) = false := decide_eq_false (by omega)
          have hnil : s.drop (k + 1) = [] := List.drop_of_length_le (by omega)
          rw [dst_one x _ o d (fun _ y' u e => by rw [hnil] at e; cases e)] at hA
          clear hdr h92 hx hnil
          cases hp : dstp o x with
          | true =>
            rw [hp, if_pos rfl] at hA
            have HR := Lib.hid hA
            go_wp2_with fail
            refine (dst1_stop x o d b _ HX.out hp (by omega)).mono ?_
            rintro e w3 ⟨rfl, rfl⟩
            clear hA hp
            go_wp2
            go_ret
            exact ⟨congrArg (fun z => Ending.returned (.int .i64 z)) (by have := HR.out; rw [← this]; simp), by have := HR.out; rw [← this]; exact HX.out, HB.out⟩
          | false =>
            rw [hp, if_neg (by decide)] at hA
            have HR := Lib.hid (show ((k + 1) + (dstL (s.drop (k + 1)) (dsto o x) (dstd o d x)).1, (dstL (s.drop (k + 1)) (dsto o x) (dstd o d x)).2) = R by rw [← hA]; exact Prod.ext (by show _ = k + (_ + 1); omega) rfl)
            go_wp2_with fail
            refine (dst1_go x o d b _ HX.out hp (by omega)).mono ?_
            rintro e w3 ⟨rfl, hx3, hb3⟩
            have HX3 := Lib.hid hx3
            have HB3 := Lib.hid (HB.out.trans hb3)
            have HO3 := Lib.hid (dsto_le o x k ho)
            clear hA hp hx3 hb3
            go_wp2
            go_roundw
            case rel => exact ⟨k + 1, dsto o x, dstd o d x, by go_num, by omega, HO3, HR, HX3, HB3⟩
            case measure => simp [intOf]; omega
      · have q : (((x.toNat : Nat) : Int) == 92) = false := beq_eq_false_iff_ne.2 (fun e => h92 ((u8_eq x 92 (by omega)).1 e))
        rw [dst_one x _ o d (fun e => absurd e h92)] at hA
        clear hdr h92 hx
        cases hp : dstp o x with
        | true =>
          rw [hp, if_pos rfl] at hA
          have HR := Lib.hid hA
          go_wp2_with fail
          refine (dst1_stop x o d b _ HX.out hp (by omega)).mono ?_
          rintro e w3 ⟨rfl, rfl⟩
          clear hA hp
          go_wp2
          go_ret
          exact ⟨congrArg (fun z => Ending.returned (.int .i64 z)) (by have := HR.out; rw [← this]; simp), by have := HR.out; rw [← this]; exact HX.out, HB.out⟩
        | false =>
          rw [hp, if_neg (by decide)] at hA
          have HR := Lib.hid (show ((k + 1) + (dstL (s.drop (k + 1)) (dsto o x) (dstd o d x)).1, (dstL (s.drop (k + 1)) (dsto o x) (dstd o d x)).2) = R by rw [← hA]; exact Prod.ext (by show _ = k + (_ + 1); omega) rfl)
          go_wp2_with fail
          refine (dst1_go x o d b _ HX.out hp (by omega)).mono ?_
          rintro e w3 ⟨rfl, hx3, hb3⟩
          have HX3 := Lib.hid hx3
          have HB3 := Lib.hid (HB.out.trans hb3)
          have HO3 := Lib.hid (dsto_le o x k ho)
          clear hA hp hx3 hb3
          go_wp2
          go_roundw
          case rel => exact ⟨k + 1, dsto o x, dstd o d x, by go_num, by omega, HO3, HR, HX3, HB3⟩
          case measure => simp [intOf]; omega
    · have hnil : s.drop k = [] := List.drop_of_length_le (by omega)
      have HR := Lib.hid (show (s.length, o, d) = R by have := HA.out; rw [hnil] at this; rw [← this]; exact Prod.ext (by show _ = k + 0; omega) rfl)
      clear HA hnil
      go_wp2
      go_ret
      exact ⟨congrArg (fun z => Ending.returned (.int .i64 z)) (by have := HR.out; rw [← this]), by have := HR.out; rw [← this]; exact HX.out, HB.out⟩
end Go.Proofs.YtekifcbokdidlaaGreatDoor.PA

namespace Go.Proofs.YtekifcbokdidlaaGreatDoor.Pure
open Go.RowKit Go.Proofs.YtekifcbokdidlaaGreatDoorW.PrintWords Go.Proofs.YtekifcbokdidlaaGreatDoorW.PrintMore Go.Proofs.YtekifcbokdidlaaGreatDoor.Pl Go.Proofs.YtekifcbokdidlaaGreatDoor.PA

/-- How much white a text begins with. -/
def wht (s : List UInt8) : Nat := s.length - (Lib.trimLeftS s [32, 9, 10]).length
theorem trim_le (s c : List UInt8) : (Lib.trimLeftS s c).length ≤ s.length := by
  unfold Lib.trimLeftS
  exact (List.dropWhile_suffix _).length_le
theorem wht_int (s : List UInt8) : (s.length : Int) - ((Lib.trimLeftS s [32, 9, 10]).length : Int) = (wht s : Int) := by
  have := trim_le s [32, 9, 10]
  unfold wht
  omega
/-- The label a text begins with, and how long it is. -/
def lab : List UInt8 → List UInt8 × Nat
  | [] => ([], 0)
  | x :: t => if x = 91 then
      match t.drop (eachL pLab t) with
      | [] => ([], 0)
      | y :: _ => if y = 91 ∨ 999 < eachL pLab t ∨ wht (t.take (eachL pLab t)) = eachL pLab t then ([], 0) else (t.take (eachL pLab t), eachL pLab t + 2)
    else ([], 0)
/-- An address in brackets, behind the first one. -/
def ang (t : List UInt8) : List UInt8 × Nat × Bool :=
  match t.drop (eachL pAng t) with
  | [] => ([], 0, false)
  | y :: _ => if y = 62 then (une (t.take (eachL pAng t)), eachL pAng t + 2, true) else ([], 0, false)
/-- The address a text begins with, and how long it is. -/
def dst (s : List UInt8) : List UInt8 × Nat × Bool :=
  if s.head? = some 60 then ang (s.drop 1)
  else if (dstL s 0 false).1 = 0 ∨ 0 < (dstL s 0 false).2.1 ∨ (dstL s 0 false).2.2 = true then ([], 0, false)
  else (une (s.take (dstL s 0 false).1), (dstL s 0 false).1, true)
/-- What a title ends with. -/
def cls : List UInt8 → UInt8
  | [] => 0
  | x :: _ => if x = 34 then x else if x = 39 then x else if x = 40 then 41 else 0
/-- Is a text blank? -/
def blk (s : List UInt8) : Bool := s.all fun x => decide (x = 32) || decide (x = 9)
/-- A text cut at its LF: what has come of this line, what is left. -/
def lf : List UInt8 → List UInt8 → List (List UInt8)
  | cur, [] => [cur]
  | cur, x :: t => if x = 10 then cur :: lf [] t else lf (cur ++ [x]) t
theorem lf_none : ∀ (t cur : List UInt8), (10 : UInt8) ∉ t → lf cur t = [cur ++ t]
  | [], cur, _ => by simp [lf]
  | x :: t, cur, h => by
    rw [List.mem_cons, not_or] at h
    rw [lf, if_neg (fun e => h.1 e.symm), lf_none t _ h.2, List.append_assoc]
    rfl
theorem lf_cut : ∀ (p cur r : List UInt8), (10 : UInt8) ∉ p → lf cur (p ++ 10 :: r) = (cur ++ p) :: lf [] r
  | [], cur, r, _ => by simp [lf]
  | x :: p, cur, r, h => by
    rw [List.mem_cons, not_or] at h
    rw [List.cons_append, lf, if_neg (fun e => h.1 e.symm), lf_cut p _ r h.2, List.append_assoc]
    rfl
theorem lf_pos : ∀ (t cur : List UInt8), lf cur t ≠ []
  | [], _ => by simp [lf]
  | x :: t, cur => by
    rw [lf]
    split
    · simp
    · exact lf_pos t _
theorem ib_first : ∀ (p r : List UInt8) (c : UInt8), c ∉ p → Lib.indexByte (p ++ c :: r) c = p.length
  | [], r, c, _ => by simp [Lib.indexByte]
  | x :: p, r, c, h => by
    rw [List.mem_cons, not_or] at h
    have ih := ib_first p r c h.2
    simp only [List.cons_append, Lib.indexByte]
    rw [if_neg (by simpa using fun e => h.1 e.symm), ih, if_neg (by rw [beq_iff_eq]; omega)]
    simp
theorem mem_split (c : UInt8) : ∀ s : List UInt8, c ∈ s → ∃ p r, s = p ++ c :: r ∧ c ∉ p
  | [], h => by cases h
  | x :: t, h => by
    by_cases hx : x = c
    · exact ⟨[], t, by rw [hx]; rfl, by simp⟩
    · obtain ⟨p, r, e, hp⟩ := mem_split c t (by rcases List.mem_cons.1 h with e | e; exact absurd e.symm hx; exact e)
      exact ⟨x :: p, r, by rw [e]; rfl, by rw [List.mem_cons, not_or]; exact ⟨fun e => hx e.symm, hp⟩⟩
theorem split_lf : ∀ (n : Nat) (s : List UInt8), s.length ≤ n → Lib.splitB ⟨#[10]⟩ 0 (Lib.countB (B s) ⟨#[10]⟩) (B s) = (lf [] s).map B := by
  intro n
  induction n with
  | zero =>
    intro s h
    obtain rfl := List.length_eq_zero_iff.1 (Nat.le_zero.1 h)
    rfl
  | succ n ih =>
    intro s h
    by_cases hm : (10 : UInt8) ∈ s
    · obtain ⟨p, r, rfl, hp⟩ := mem_split 10 s hm
      rw [List.length_append, List.length_cons] at h
      have hc : Lib.countB (B (p ++ 10 :: r)) ⟨#[10]⟩ = Lib.countB (B r) ⟨#[10]⟩ + 1 := by
        show Lib.count (B (p ++ 10 :: r)).data.toList [10] = Lib.count (B r).data.toList [10] + 1
        rw [Lib.count_one, Lib.count_one, B_data, B_data, List.count_append, List.count_eq_zero.2 hp, List.count_cons_self]
        omega
      have hi : Lib.indexB (B (p ++ 10 :: r)) ⟨#[10]⟩ = (p.length : Int) := by
        show Lib.index (B (p ++ 10 :: r)).data.toList [10] = _
        rw [Lib.index_one, B_data, ib_first p r 10 hp]
      have e1 : (B (p ++ 10 :: r)).extract 0 (p.length + 0) = B p := by
        rw [Nat.add_zero, B_to, List.take_left']
        rfl
      have e2 : (B (p ++ 10 :: r)).extract (p.length + 1) (B (p ++ 10 :: r)).size = B r := by
        rw [B_from _ _ _ (B_size _), ← List.drop_drop, List.drop_left' rfl]
        rfl
      rw [lf_cut p [] r hp, List.map_cons, List.nil_append, hc, Lib.splitB, hi, if_neg (by rw [beq_iff_eq]; omega), Int.toNat_natCast, e1]
      congr 1
      rw [← ih r (by omega)]
      exact congrArg _ e2
    · have hc : Lib.countB (B s) ⟨#[10]⟩ = 0 := by
        show Lib.count (B s).data.toList [10] = 0
        rw [Lib.count_one, B_data]
        exact List.count_eq_zero.2 hm
      rw [hc, Lib.splitB_zero, lf_none s [] hm]
      rfl
/-- A text's lines. -/
def lns (s : List UInt8) : List (List UInt8) := lf [] s
theorem split_f (s : List UInt8) (h : s.length ≤ 1048576) : strings_Split.f (B s) ⟨#[10]⟩ = some ((lns s).map B) := by
  unfold strings_Split.f
  rw [if_pos ⟨by rw [B_size]; omega, by decide⟩, split_lf _ s (Nat.le_refl _)]
  rfl
theorem lf_len : ∀ (t cur : List UInt8), (lf cur t).length ≤ t.length + 1
  | [], _ => by simp [lf]
  | x :: t, cur => by
    rw [lf]
    split
    · have := lf_len t []
      simp only [List.length_cons]
      omega
    · have := lf_len t (cur ++ [x])
      simp only [List.length_cons]
      omega
theorem lf_size : ∀ (t cur : List UInt8), ∀ p ∈ lf cur t, p.length ≤ cur.length + t.length
  | [], cur, p, hp => by
    rw [lf, List.mem_singleton] at hp
    rw [hp]
    simp
  | x :: t, cur, p, hp => by
    rw [lf] at hp
    split at hp
    · rcases List.mem_cons.1 hp with rfl | hp
      · simp
      · have := lf_size t [] p hp
        simp at this ⊢
        omega
    · have := lf_size t (cur ++ [x]) p hp
      simp at this ⊢
      omega
theorem blk_snoc (c : List UInt8) (x : UInt8) : blk (c ++ [x]) = (blk c && (decide (x = 32) || decide (x = 9))) := by
  unfold blk
  rw [List.all_append]
  simp
/-- Is one of some lines, other than the last one (and the first one, unless it counts), of blanks alone? -/
def mid : Bool → List (List UInt8) → Bool
  | _, [] => false
  | _, [_] => false
  | b, x :: y :: r => (b && blk x) || mid true (y :: r)
/-- Has a text a line of blanks alone, other than its first and last? -/
def gp : Bool → List UInt8 → Bool
  | _, [] => false
  | b, x :: t => if x = 10 then b || gp true t else gp (b && (decide (x = 32) || decide (x = 9))) t
theorem mid_gp : ∀ (t cur : List UInt8) (b : Bool), mid b (lf cur t) = gp (b && blk cur) t
  | [], cur, b => rfl
  | x :: t, cur, b => by
    rw [lf, gp]
    by_cases h : x = 10
    · rw [if_pos h, if_pos h]
      have ih := mid_gp t [] true
      rw [show (true && blk []) = true from rfl] at ih
      rw [← ih]
      cases hl : lf [] t with
      | nil => exact absurd hl (lf_pos t [])
      | cons y r => rw [mid]
    · rw [if_neg h, if_neg h, mid_gp t _ b, blk_snoc, Bool.and_assoc]
theorem gp_lns (s : List UInt8) : mid true ((lns s).drop 1) = gp false s := by
  have h := mid_gp s [] false
  rw [Bool.false_and] at h
  rw [← h]
  unfold lns
  cases hl : lf [] s with
  | nil => exact absurd hl (lf_pos s [])
  | cons y r =>
    cases r with
    | nil => rfl
    | cons z r => rw [mid, Bool.false_and, Bool.false_or]; rfl
theorem dw_nil (p : UInt8 → Bool) : ∀ l : List UInt8, l.dropWhile p = [] ↔ ∀ x ∈ l, p x = true
  | [] => by simp
  | x :: t => by
    rw [List.dropWhile_cons]
    split
    · rename_i h
      rw [dw_nil p t, List.forall_mem_cons]
      exact ⟨fun e => ⟨h, e⟩, fun e => e.2⟩
    · rename_i h
      exact ⟨fun e => (by cases e), fun e => absurd (e x List.mem_cons_self) h⟩
theorem tw_mem (p : UInt8 → Bool) : ∀ (l : List UInt8) (x : UInt8), x ∈ l.takeWhile p → p x = true
  | [], x, h => by cases h
  | y :: t, x, h => by
    rw [List.takeWhile_cons] at h
    split at h
    · rename_i hy
      rcases List.mem_cons.1 h with rfl | h
      · exact hy
      · exact tw_mem p t x h
    · cases h
theorem trim_nil (p : List UInt8) : (Lib.trimS p [32, 9] = []) ↔ blk p = true := by
  have h : ∀ x : UInt8, ([32, 9] : List UInt8).contains x = (decide (x = 32) || decide (x = 9)) := by
    intro x
    have := (by decide +kernel : ∀ y : Fin 256, ([32, 9] : List UInt8).contains (UInt8.ofNat y.val) = (decide (UInt8.ofNat y.val = 32) || decide (UInt8.ofNat y.val = 9))) ⟨x.toNat, x.toNat_lt⟩
    rwa [show UInt8.ofNat x.toNat = x from UInt8.ofNat_toNat] at this
  have hd : ∀ l : List UInt8, Lib.trimLeftS l [32, 9] = [] ↔ blk l = true := by
    intro l
    unfold Lib.trimLeftS blk
    rw [List.all_eq_true]
    constructor
    · intro e x hx
      have := (dw_nil _ _).1 e x hx
      rw [← h x]
      exact this
    · intro e
      refine (dw_nil _ _).2 (fun x hx => ?_)
      rw [h x]
      exact e x hx
  have hr : blk (Lib.trimRightS p [32, 9]) = true ↔ blk p = true := by
    have e : Lib.trimRightS p [32, 9] = (Lib.trimLeftS p.reverse [32, 9]).reverse := rfl
    rw [e]
    have hrev : ∀ l : List UInt8, blk l.reverse = blk l := fun l => by unfold blk; rw [List.all_reverse]
    rw [hrev]
    constructor
    · intro h1
      rw [← hrev p]
      unfold blk at h1 ⊢
      rw [List.all_eq_true] at h1 ⊢
      intro x hx
      rw [← List.takeWhile_append_dropWhile (p := fun y => ([32, 9] : List UInt8).contains y) (l := p.reverse)] at hx
      rcases List.mem_append.1 hx with hx | hx
      · rw [← h x]
        exact tw_mem _ _ _ hx
      · exact h1 x hx
    · intro h1
      have : Lib.trimLeftS p.reverse [32, 9] = [] := (hd _).2 (by rw [hrev]; exact h1)
      rw [this]
      rfl
  unfold Lib.trimS
  rw [hd, hr]
/-- The title a text begins with, and how long it is. -/
def ttl : List UInt8 → List UInt8 × Nat
  | [] => ([], 0)
  | x :: t => if cls (x :: t) = 0 then ([], 0) else
      match t.drop (eachL (pTit (cls (x :: t))) t) with
      | [] => ([], 0)
      | y :: _ => if y = cls (x :: t) then (if gp false (t.take (eachL (pTit (cls (x :: t))) t)) = true then ([], 0) else (une (t.take (eachL (pTit (cls (x :: t))) t)), eachL (pTit (cls (x :: t))) t + 2)) else ([], 0)
end Go.Proofs.YtekifcbokdidlaaGreatDoor.Pure

namespace Go.Proofs.YtekifcbokdidlaaGreatDoor.PA
open Go.RowKit Go.Proofs.YtekifcbokdidlaaGreatDoor.Pl Go.Proofs.YtekifcbokdidlaaGreatDoorW.PrintWords Go.Proofs.YtekifcbokdidlaaGreatDoorW.PrintLast Go.Proofs.YtekifcbokdidlaaGreatDoorW.PrintMore Go.Proofs.YtekifcbokdidlaaGreatDoor.Pure
set_option linter.unusedVariables false

theorem pre_one (c : UInt8) (s : List UInt8) (w : World) : Calls Tryz.prog 44 #[.string (B s), .string ⟨#[c]⟩] w fun e w' => e = .returned (.bool (decide (s.head? = some c))) ∧ Drawn0 w w' := by
  refine strings_HasPrefix.calls (B s) ⟨#[c]⟩ _ w ?_
  unfold strings_HasPrefix.f
  rw [B_data, show (⟨#[c]⟩ : ByteArray).data.toList = [c] from rfl]
  congr 1
  cases s with
  | nil => rfl
  | cons x t =>
    by_cases hx : x = c
    · subst hx
      simp [Lib.hasPrefix, List.isPrefixOf]
    · simp [Lib.hasPrefix, List.isPrefixOf, hx]
      exact fun e => hx e.symm
theorem white_walk (s : List UInt8) (hs : s.length ≤ 1048576) (w : World) : Calls Tryz.prog 47 #[.string (B s)] w fun e w' => e = .returned (.int .i64 (wht s : Int)) ∧ Below w.heap.size w w' := by
  have hsz : (B s).size = s.length := B_size s
  have ht : strings_TrimLeft.f (B s) ⟨#[32, 9, 10]⟩ = some (B (Lib.trimLeftS s [32, 9, 10])) := by
    unfold strings_TrimLeft.f
    rw [if_pos ⟨by omega, by decide, by decide⟩, B_data]
    rfl
  have HT := Lib.hid (fun W => strings_TrimLeft.calls (B s) ⟨#[32, 9, 10]⟩ _ W ht)
  have hz2 : (B (Lib.trimLeftS s [32, 9, 10])).size = (Lib.trimLeftS s [32, 9, 10]).length := B_size _
  have HW := Lib.hid (wht_int s)
  have hl := trim_le s [32, 9, 10]
  clear ht
  go_enter Tryz.func47, Tryz.ntmps47
  go_wp2_with (first | (go_at_call 54; refine (HT.out _).mono ?_; rintro e w' ⟨rfl, hb⟩; have HB := Lib.hid hb; clear hb))
  go_ret
  exact ⟨congrArg (fun z => Ending.returned (.int .i64 z)) HW.out, HB.out⟩
set_option maxHeartbeats 4000000 in
set_option maxRecDepth 100000 in
theorem lab_walk (s : List UInt8) (hs : s.length ≤ 1048576) (w : World) :
    Calls Tryz.prog 26 #[.string (B s)] w fun e w' => e = .returned (.tuple #[.string (B (lab s).1), .int .i64 ((lab s).2 : Int)]) ∧ Below w.heap.size w w' := by
  have HP := Lib.hid (fun W => pre_one 91 s W)
  by_cases h91 : s.head? = some 91
  · rw [decide_eq_true h91] at HP
    obtain ⟨t, rfl⟩ : ∃ t, s = 91 :: t := by
      cases s with
      | nil => cases h91
      | cons x t => exact ⟨t, by rw [Option.some.inj h91]⟩
    rw [List.length_cons] at hs
    have HE := Lib.hid (fun W => each_lab (91 :: t) (by rw [List.length_cons]; omega) 1 (by simp) W)
    rw [show List.drop 1 ((91 : UInt8) :: t) = t from rfl, show ((1 : Nat) : Int) = 1 from rfl] at HE
    have hEl := eachL_le pLab t
    obtain ⟨E, hE⟩ : ∃ E, eachL pLab t = E := ⟨_, rfl⟩
    have hlab : lab (91 :: t) = match t.drop E with
      | [] => ([], 0)
      | y :: _ => if y = 91 ∨ 999 < E ∨ wht (t.take E) = E then ([], 0) else (t.take E, E + 2) := by subst hE; rfl
    rw [hE] at HE hEl
    have HW := Lib.hid (fun W => white_walk (t.take E) (by rw [List.length_take]; omega) W)
    obtain ⟨k, hk⟩ : ∃ k, 1 + E = k := ⟨_, rfl⟩
    rw [hk] at HE
    have hk1 : 1 ≤ k := by omega
    have hk2 : k ≤ 1048577 := by omega
    have hex : (B (91 :: t)).extract 1 k = B (t.take E) := by rw [B_extract, show k - 1 = E by omega]; rfl
    have hn : (B (91 :: t)).size = t.length + 1 := B_size _
    have hget : ∀ y u, t.drop E = y :: u → ∃ h : k < (B (91 :: t)).size, (B (91 :: t))[k]'h = y := by
      intro y u e
      have hlt : E < t.length := by
        rcases Nat.lt_or_ge E t.length with h | h
        · exact h
        · rw [List.drop_eq_nil_of_le h] at e; cases e
      refine ⟨by omega, ?_⟩
      have e2 : (91 :: t).drop k = y :: u := by rw [← hk, Nat.add_comm, List.drop_succ_cons]; exact e
      have hk3 : k < (91 :: t).length := by rw [List.length_cons]; omega
      rw [List.drop_eq_getElem_cons hk3] at e2
      exact (List.getElem_toArray hk3).trans (List.cons.inj e2).1
    generalize B (91 :: t) = S at *
    cases ht : t.drop E with
    | nil =>
      rw [ht] at hlab
      have HL := Lib.hid hlab
      have hEt : t.length ≤ E := List.drop_eq_nil_iff.1 ht
      obtain rfl : k = t.length + 1 := by omega
      generalize t.length + 1 = n at *
      clear hlab hget ht hex hE h91 HW
      go_enter Tryz.func26, Tryz.ntmps26
      go_wp2_with fail
      refine (HP.out _).mono ?_
      rintro e w1 ⟨rfl, hd⟩
      have HB1 := Lib.hid hd.below
      clear hd
      go_wp2_with fail
      with_reducible refine (HE.out _).mono ?_
      rintro e w2 ⟨rfl, hb2⟩
      have HB2 := Lib.hid (HB1.out.trans (hb2.mono HB1.out.size))
      clear hb2
      go_wp2
      go_ret2
      rw [HL.out]
      exact ⟨rfl, HB2.out⟩
    | cons y u =>
      obtain ⟨hks, hi⟩ := hget y u ht
      rw [ht] at hlab
      simp only at hlab
      have hkn : k < t.length + 1 := by omega
      have hkn2 : (1 : Int) ≤ (k : Int) := by omega
      have hkn3 : (k : Int) ≤ (t.length : Int) + 1 := by omega
      have hkn4 : k ≤ t.length + 1 := by omega
      have q1 : ((k : Int) == ((t.length + 1 : Nat) : Int)) = false := beq_eq_false_iff_ne.2 (by omega)
      have q1b : ((k : Int) == ((t.length : Int) + 1)) = false := beq_eq_false_iff_ne.2 (by omega)
      have e91 : ((y.toNat : Int) = 91) ↔ y = 91 := u8_eq y 91 (by omega)
      by_cases h1 : y = 91
      · rw [if_pos (.inl h1)] at hlab
        have HL := Lib.hid hlab
        have q2 : ((y.toNat : Int) == 91) = true := beq_iff_eq.2 (e91.2 h1)
        clear hlab hget ht hex hE h91 HW e91 h1
        go_enter Tryz.func26, Tryz.ntmps26
        go_wp2_with fail
        refine (HP.out _).mono ?_
        rintro e w1 ⟨rfl, hd⟩
        have HB1 := Lib.hid hd.below
        clear hd
        go_wp2_with fail
        with_reducible refine (HE.out _).mono ?_
        rintro e w2 ⟨rfl, hb2⟩
        have HB2 := Lib.hid (HB1.out.trans (hb2.mono HB1.out.size))
        clear hb2
        go_wp2
        go_ret2
        rw [HL.out]
        exact ⟨rfl, HB2.out⟩
      · have q2 : ((y.toNat : Int) == 91) = false := beq_eq_false_iff_ne.2 (fun e => h1 (e91.1 e))
        by_cases h2 : 999 < E
        · rw [if_pos (.inr (.inl h2))] at hlab
          have HL := Lib.hid hlab
          have q3 : decide ((999 : Int) < (k : Int) - 1) = true := decide_eq_true (by omega)
          clear hlab hget ht hex hE h91 HW e91 h1
          go_enter Tryz.func26, Tryz.ntmps26
          go_wp2_with fail
          refine (HP.out _).mono ?_
          rintro e w1 ⟨rfl, hd⟩
          have HB1 := Lib.hid hd.below
          clear hd
          go_wp2_with fail
          with_reducible refine (HE.out _).mono ?_
          rintro e w2 ⟨rfl, hb2⟩
          have HB2 := Lib.hid (HB1.out.trans (hb2.mono HB1.out.size))
          clear hb2
          go_wp2
          go_ret2
          rw [HL.out]
          exact ⟨rfl, HB2.out⟩
        · have q3 : decide ((999 : Int) < (k : Int) - 1) = false := decide_eq_false (by omega)
          by_cases h3 : wht (t.take E) = E
          · rw [if_pos (.inr (.inr h3))] at hlab
            have HL := Lib.hid hlab
            have q4 : ((wht (t.take E) : Int) == (k : Int) - 1) = true := beq_iff_eq.2 (by omega)
            clear hlab hget ht hE h91 e91 h1 h3
            go_enter Tryz.func26, Tryz.ntmps26
            go_wp2_with fail
            refine (HP.out _).mono ?_
            rintro e w1 ⟨rfl, hd⟩
            have HB1 := Lib.hid hd.below
            clear hd
            go_wp2_with fail
            with_reducible refine (HE.out _).mono ?_
            rintro e w2 ⟨rfl, hb2⟩
            have HB2 := Lib.hid (HB1.out.trans (hb2.mono HB1.out.size))
            clear hb2
            go_wp2_with fail
            with_reducible refine (HW.out _).mono ?_
            rintro e w3 ⟨rfl, hb3⟩
            have HB3 := Lib.hid (HB2.out.trans (hb3.mono HB2.out.size))
            clear hb3
            go_wp2
            go_ret2
            rw [HL.out]
            exact ⟨rfl, HB3.out⟩
          · rw [if_neg (by rintro (h | h | h); exact h1 h; exact h2 h; exact h3 h)] at hlab
            have HL := Lib.hid hlab
            have q4 : ((wht (t.take E) : Int) == (k : Int) - 1) = false := beq_eq_false_iff_ne.2 (by omega)
            have HK := Lib.hid (show ((k : Int) + 1) = ((E + 2 : Nat) : Int) by omega)
            clear hlab hget ht hE h91 e91 h1 h3
            go_enter Tryz.func26, Tryz.ntmps26
            go_wp2_with fail
            refine (HP.out _).mono ?_
            rintro e w1 ⟨rfl, hd⟩
            have HB1 := Lib.hid hd.below
            clear hd
            go_wp2_with fail
            with_reducible refine (HE.out _).mono ?_
            rintro e w2 ⟨rfl, hb2⟩
            have HB2 := Lib.hid (HB1.out.trans (hb2.mono HB1.out.size))
            clear hb2
            go_wp2_with fail
            with_reducible refine (HW.out _).mono ?_
            rintro e w3 ⟨rfl, hb3⟩
            have HB3 := Lib.hid (HB2.out.trans (hb3.mono HB2.out.size))
            clear hb3
            go_wp2
            go_ret2
            rw [HL.out]
            exact ⟨by first | rfl | (rw [HK.out]; rfl) | (rw [← HK.out]; rfl), HB3.out⟩
  · rw [decide_eq_false h91] at HP
    have hrd : lab s = ([], 0) := by
      cases s with
      | nil => rfl
      | cons x t => rw [lab, if_neg (fun e => h91 (by rw [e]; rfl))]
    rw [hrd]
    clear hrd h91
    go_enter Tryz.func26, Tryz.ntmps26
    go_wp2_with fail
    refine (HP.out _).mono ?_
    rintro e w1 ⟨rfl, hd⟩
    have HB1 := Lib.hid hd.below
    clear hd
    go_wp2
    go_ret2
    exact ⟨rfl, HB1.out⟩
set_option maxHeartbeats 4000000 in
set_option maxRecDepth 100000 in
theorem ang_walk (x : UInt8) (t : List UInt8) (hs : t.length ≤ 1048575) (w : World) (hLd : Laid w) :
    Calls Tryz.prog 50 #[.string (B (x :: t))] w fun e w' => e = .returned (.tuple #[.string (B (ang t).1), .int .i64 ((ang t).2.1 : Int), .bool (ang t).2.2]) ∧ Below w.heap.size w w' := by
  have HLd := Lib.hid hLd
  clear hLd
  have HE := Lib.hid (fun W => each_ang (x :: t) (by rw [List.length_cons]; omega) 1 (by simp) W)
  rw [show List.drop 1 (x :: t) = t from rfl, show ((1 : Nat) : Int) = 1 from rfl] at HE
  have hEl := eachL_le pAng t
  obtain ⟨E, hE⟩ : ∃ E, eachL pAng t = E := ⟨_, rfl⟩
  have hlab : ang t = match t.drop E with
    | [] => ([], 0, false)
    | y :: _ => if y = 62 then (une (t.take E), E + 2, true) else ([], 0, false) := by unfold ang; subst hE; rfl
  rw [hE] at HE hEl
  have HW := Lib.hid (fun W => unesc_walk (t.take E) (by rw [List.length_take]; omega) W)
  obtain ⟨k, hk⟩ : ∃ k, 1 + E = k := ⟨_, rfl⟩
  rw [hk] at HE
  have hk1 : 1 ≤ k := by omega
  have hk2 : k ≤ 1048577 := by omega
  have hex : (B (x :: t)).extract 1 k = B (t.take E) := by rw [B_extract, show k - 1 = E by omega]; rfl
  have hn : (B (x :: t)).size = t.length + 1 := B_size _
  have hget : ∀ y u, t.drop E = y :: u → ∃ h : k < (B (x :: t)).size, (B (x :: t))[k]'h = y := by
    intro y u e
    have hlt : E < t.length := by
      rcases Nat.lt_or_ge E t.length with h | h
      · exact h
      · rw [List.drop_eq_nil_of_le h] at e; cases e
    refine ⟨by omega, ?_⟩
    have e2 : (x :: t).drop k = y :: u := by rw [← hk, Nat.add_comm, List.drop_succ_cons]; exact e
    have hk3 : k < (x :: t).length := by rw [List.length_cons]; omega
    rw [List.drop_eq_getElem_cons hk3] at e2
    exact (List.getElem_toArray hk3).trans (List.cons.inj e2).1
  generalize B (x :: t) = S at *
  cases ht : t.drop E with
  | nil =>
    rw [ht] at hlab
    have HL := Lib.hid hlab
    have hEt : t.length ≤ E := List.drop_eq_nil_iff.1 ht
    obtain rfl : k = t.length + 1 := by omega
    generalize t.length + 1 = n at *
    clear hlab hget ht hex hE HW
    go_enter Tryz.func50, Tryz.ntmps50
    go_wp2_with fail
    with_reducible refine (HE.out _).mono ?_
    rintro e w2 ⟨rfl, hb2⟩
    have HB2 := Lib.hid hb2
    clear hb2
    go_wp2
    go_ret3
    rw [HL.out]
    exact ⟨rfl, HB2.out⟩
  | cons y u =>
    obtain ⟨hks, hi⟩ := hget y u ht
    rw [ht] at hlab
    simp only at hlab
    have hkn : k < t.length + 1 := by omega
    have hkn2 : (1 : Int) ≤ (k : Int) := by omega
    have hkn3 : (k : Int) ≤ (t.length : Int) + 1 := by omega
    have hkn4 : k ≤ t.length + 1 := by omega
    have q1 : ((k : Int) == ((t.length + 1 : Nat) : Int)) = false := beq_eq_false_iff_ne.2 (by omega)
    have q1b : ((k : Int) == ((t.length : Int) + 1)) = false := beq_eq_false_iff_ne.2 (by omega)
    have e62 : ((y.toNat : Int) = 62) ↔ y = 62 := u8_eq y 62 (by omega)
    by_cases h1 : y = 62
    · rw [if_pos h1] at hlab
      have HL := Lib.hid hlab
      have q2 : ((y.toNat : Int) == 62) = true := beq_iff_eq.2 (e62.2 h1)
      have q2b : ((y.toNat : Int) != 62) = false := by rw [bne, q2]; rfl
      have HK := Lib.hid (show ((k : Int) + 1) = ((E + 2 : Nat) : Int) by omega)
      clear hlab hget ht hE e62 h1
      go_enter Tryz.func50, Tryz.ntmps50
      go_wp2_with fail
      with_reducible refine (HE.out _).mono ?_
      rintro e w2 ⟨rfl, hb2⟩
      have HB2 := Lib.hid hb2
      clear hb2
      go_wp2_with fail
      with_reducible refine (HW.out _ (HLd.out.go HB2.out)).mono ?_
      rintro e w3 ⟨rfl, hb3⟩
      have HB3 := Lib.hid (HB2.out.trans (hb3.mono HB2.out.size))
      clear hb3
      go_wp2
      go_ret3
      rw [HL.out]
      exact ⟨by first | rfl | (rw [HK.out]; rfl), HB3.out⟩
    · rw [if_neg h1] at hlab
      have HL := Lib.hid hlab
      have q2 : ((y.toNat : Int) == 62) = false := beq_eq_false_iff_ne.2 (fun e => h1 (e62.1 e))
      have q2b : ((y.toNat : Int) != 62) = true := by rw [bne, q2]; rfl
      clear hlab hget ht hE e62 h1
      go_enter Tryz.func50, Tryz.ntmps50
      go_wp2_with fail
      with_reducible refine (HE.out _).mono ?_
      rintro e w2 ⟨rfl, hb2⟩
      have HB2 := Lib.hid hb2
      clear hb2
      go_wp2
      go_ret3
      rw [HL.out]
      exact ⟨rfl, HB2.out⟩
theorem dstL_le : ∀ (l : List UInt8) (o : Nat) (d : Bool), (dstL l o d).1 ≤ l.length ∧ (dstL l o d).2.1 ≤ o + l.length
  | [], o, d => ⟨Nat.le_refl _, Nat.le_refl _⟩
  | [x], o, d => by
    have := dsto_le o x o (Nat.le_refl _)
    unfold dstL
    split
    · exact ⟨Nat.zero_le _, Nat.le_add_right _ _⟩
    · exact ⟨Nat.le_refl _, this⟩
  | x :: y :: t, o, d => by
    have h1 := dstL_le t o d
    have h2 := dstL_le (y :: t) (dsto o x) (dstd o d x)
    have h3 := dsto_le o x o (Nat.le_refl _)
    unfold dstL
    simp only [List.length_cons] at h2 ⊢
    split
    · exact ⟨by show _ + 2 ≤ _; omega, by show (dstL t o d).2.1 ≤ _; omega⟩
    · split
      · exact ⟨Nat.zero_le _, Nat.le_add_right _ _⟩
      · exact ⟨by show _ + 1 ≤ _; omega, by show (dstL (y :: t) _ _).2.1 ≤ _; omega⟩
end Go.Proofs.YtekifcbokdidlaaGreatDoor.PA

namespace Go.Proofs.YtekifcbokdidlaaGreatDoor.PA
open Go.RowKit Go.Proofs.YtekifcbokdidlaaGreatDoor.Pl Go.Proofs.YtekifcbokdidlaaGreatDoorW.PrintWords Go.Proofs.YtekifcbokdidlaaGreatDoorW.PrintLast Go.Proofs.YtekifcbokdidlaaGreatDoorW.PrintMore Go.Proofs.YtekifcbokdidlaaGreatDoor.Pure
set_option linter.unusedVariables false

theorem al2_old (w : World) (o : Obj) (k : Nat) (h : k < w.heap.size) : (w.alloc o).heap[k]? = w.heap[k]? := ((Below.refl w.heap.size w).alloc (Nat.le_refl _) o).block k h
theorem al2_size (w : World) (o : Obj) : (w.alloc o).heap.size = w.heap.size + 1 := Array.size_push _
theorem al_two (w : World) (a b : Obj) : ((w.alloc a).alloc b).heap[w.heap.size]? = some a ∧ ((w.alloc a).alloc b).heap[w.heap.size + 1]? = some b ∧ Below w.heap.size w ((w.alloc a).alloc b) := by
  refine ⟨?_, ?_, ?_⟩
  · rw [al2_old _ _ _ (by rw [al2_size]; omega)]; exact heap_alloc_new w a
  · rw [← al2_size w a]; exact heap_alloc_new _ b
  · exact ((Below.refl _ w).alloc (Nat.le_refl _) a).alloc (by rw [al2_size]; omega) b
set_option maxHeartbeats 4000000 in
set_option maxRecDepth 100000 in
theorem dst_walk (s : List UInt8) (hs : s.length ≤ 1048576) (w : World) (hLd : Laid w) :
    Calls Tryz.prog 29 #[.string (B s)] w fun e w' => e = .returned (.tuple #[.string (B (dst s).1), .int .i64 ((dst s).2.1 : Int), .bool (dst s).2.2]) ∧ Below w.heap.size w w' := by
  have HP := Lib.hid (fun W => pre_one 60 s W)
  by_cases h60 : s.head? = some 60
  · rw [decide_eq_true h60] at HP
    obtain ⟨t, rfl⟩ : ∃ t, s = 60 :: t := by
      cases s with
      | nil => cases h60
      | cons x t => exact ⟨t, by rw [Option.some.inj h60]⟩
    rw [List.length_cons] at hs
    have HA := Lib.hid (ang_walk 60 t (by omega))
    have HD := Lib.hid (show dst (60 :: t) = ang t by unfold dst; exact if_pos rfl)
    have HLd := Lib.hid hLd
    generalize B (60 :: t) = S at *
    clear h60 hLd
    go_enter Tryz.func29, Tryz.ntmps29
    go_wp2_with fail
    refine (HP.out _).mono ?_
    rintro e w1 ⟨rfl, hd⟩
    have HB1 := Lib.hid hd.below
    clear hd
    go_wp2_with fail
    with_reducible refine (HA.out _ (HLd.out.go HB1.out)).mono ?_
    rintro e w2 ⟨rfl, hb2⟩
    have HB2 := Lib.hid (HB1.out.trans (hb2.mono HB1.out.size))
    clear hb2
    go_wp2
    go_ret3
    rw [HD.out]
    exact ⟨rfl, HB2.out⟩
  · rw [decide_eq_false h60] at HP
    have hD : dst s = if (dstL s 0 false).1 = 0 ∨ 0 < (dstL s 0 false).2.1 ∨ (dstL s 0 false).2.2 = true then ([], 0, false) else (une (s.take (dstL s 0 false).1), (dstL s 0 false).1, true) := by unfold dst; rw [if_neg h60]
    have HLd := Lib.hid hLd
    have hle := dstL_le s 0 false
    have HE := Lib.hid (each_dst s (by omega))
    have HW := Lib.hid (fun W => unesc_walk (s.take (dstL s 0 false).1) (by rw [List.length_take]; omega) W)
    have hex : (B s).extract 0 (dstL s 0 false).1 = B (s.take (dstL s 0 false).1) := B_to s _
    have hn : (B s).size = s.length := B_size _
    obtain ⟨k, hk⟩ : ∃ x, (dstL s 0 false).1 = x := ⟨_, rfl⟩
    obtain ⟨o, ho⟩ : ∃ x, (dstL s 0 false).2.1 = x := ⟨_, rfl⟩
    obtain ⟨d, hd⟩ : ∃ x, (dstL s 0 false).2.2 = x := ⟨_, rfl⟩
    rw [hk, ho, hd] at HE hD
    rw [hk] at HW hex
    rw [hk, ho] at hle
    obtain ⟨hle1, hle2⟩ := hle
    clear hk ho hd h60 hLd
    generalize B (s.take k) = T at *
    generalize B s = S at *
    go_enter Tryz.func29, Tryz.ntmps29
    go_wp2_with fail
    refine (HP.out _).mono ?_
    rintro e w1 ⟨rfl, hd⟩
    have HB1 := Lib.hid hd.below
    clear hd
    go_wp2_with fail
    obtain ⟨h1, h2, h3⟩ := al_two w1 (.cells #[.int .i64 0] 3 (0, 0)) (.cells #[.bool false] 4 (0, 0))
    obtain ⟨w2, hw2⟩ : ∃ w2, w2 = (w1.alloc (.cells #[.int .i64 0] 3 (0, 0))).alloc (.cells #[.bool false] 4 (0, 0)) := ⟨_, rfl⟩
    rw [← hw2] at h1 h2 h3
    rw [show ((w1.alloc (Obj.cells #[Value.int IntKind.i64 0] 3)).alloc (Obj.cells #[Value.bool false] 4)) = w2 from hw2.symm]
    clear hw2
    have HB2 := Lib.hid (HB1.out.trans (h3.mono HB1.out.size))
    have hsz := HB1.out.size
    clear h3
    obtain ⟨b, hb⟩ : ∃ b, w1.heap.size = b := ⟨_, rfl⟩
    rw [hb] at h1 h2 hsz ⊢
    clear hb
    have hbx : Box2 b 0 false w2 := ⟨h1, h2⟩
    with_reducible refine (HE.out b w2 hbx).mono ?_
    rintro e w3 ⟨rfl, hx3, hb3⟩
    have HB3 := Lib.hid (HB2.out.trans (hb3.mono hsz))
    have c1 := cell_of_one hx3.1
    have c2 := cell_of_one hx3.2
    clear h1 h2 hx3 hb3 HB2 HB1 hsz HE HP
    by_cases hk0 : k = 0
    · subst hk0
      rw [if_pos (.inl rfl)] at hD
      have HD := Lib.hid hD
      clear hD
      go_wp2_with fail
      go_wp2
      go_ret3
      rw [HD.out]
      exact ⟨rfl, HB3.out⟩
    · have q1 : ((k : Int) == 0) = false := beq_eq_false_iff_ne.2 (by omega)
      by_cases ho0 : 0 < o
      · have q2 : decide ((0 : Int) < (o : Int)) = true := decide_eq_true (by omega)
        rw [if_pos (.inr (.inl ho0))] at hD
        have HD := Lib.hid hD
        clear hD
        go_wp2
        go_ret3
        rw [HD.out]
        exact ⟨rfl, HB3.out⟩
      · have q2 : decide ((0 : Int) < (o : Int)) = false := decide_eq_false (by omega)
        cases d with
        | true =>
          rw [if_pos (.inr (.inr rfl))] at hD
          have HD := Lib.hid hD
          clear hD
          go_wp2
          go_ret3
          rw [HD.out]
          exact ⟨rfl, HB3.out⟩
        | false =>
          rw [if_neg (by rintro (h | h | h); exact hk0 h; exact ho0 h; cases h)] at hD
          have HD := Lib.hid hD
          have hks : k ≤ s.length := hle1
          clear hD
          go_wp2_with fail
          with_reducible refine (HW.out _ (HLd.out.go HB3.out)).mono ?_
          rintro e w4 ⟨rfl, hb4⟩
          have HB4 := Lib.hid (HB3.out.trans (hb4.mono HB3.out.size))
          clear hb4
          go_wp2
          go_ret3
          rw [HD.out]
          exact ⟨rfl, HB4.out⟩
end Go.Proofs.YtekifcbokdidlaaGreatDoor.PA

namespace Go.Proofs.YtekifcbokdidlaaGreatDoor.PA
open Go.RowKit Go.Proofs.YtekifcbokdidlaaGreatDoorW.PrintWords Go.Proofs.YtekifcbokdidlaaGreatDoorW.PrintLast Go.Proofs.YtekifcbokdidlaaGreatDoorW.PrintMore
attribute [local go_sem] max2_int min2_int max_two min_two max_three min_three max_four min_four   -- for this text's walks alone
set_option linter.unusedVariables false
set_option linter.unusedSimpArgs false







/-! ### link_gap: function 80 -/
def link_gap.l0 : Nat → List ByteArray → Int → Option (Bool)
  | 0, _, _ => none
  | k + 1, x3, x4 => if x4 < (wrap64 ((x3.length : Int) - 1)) then (if 0 ≤ x4 then (if x4 < (x3.length : Int) then ((strings_Trim.f (rdOf ByteArray.empty x3 x4) (⟨#[32, 9]⟩ : ByteArray)).bind fun t193 => (if t193.toList = ([] : List UInt8) then (some true) else (link_gap.l0 k x3 (wrap64 (x4 + 1))))) else (none)) else (none)) else (some false)
def link_gap.f (k : Nat) (a0 : ByteArray) : Option (Bool) := (strings_Split.f a0 (⟨#[10]⟩ : ByteArray)).bind fun t189 => (link_gap.l0 k t189 1)
set_option maxHeartbeats 8000000 in
set_option maxRecDepth 100000 in
theorem link_gap.calls (k : Nat) (a0 : ByteArray) (r : Bool) (w : World) (hLd : Laid w) (h : link_gap.f k a0 = some r) :
    Calls Tryz.prog 80 #[.string a0] w fun e w' => e = .returned (.bool r) ∧ Below w.heap.size w w' := by
  have HB := Aside0.mk (Below.refl w.heap.size w)
  have H : ((strings_Split.f a0 (⟨#[10]⟩ : ByteArray)).bind fun t189 => (link_gap.l0 k t189 1)) = some r := h
  clear h
  replace H := Option.bind_eq_some_iff.mp H
  obtain ⟨t189, A20, H⟩ := H
  replace H : (link_gap.l0 k t189 1) = some r := H
  have A2 := Aside0.mk A20
  clear A20
  have H' := Aside0.mk H
  clear H
  go_enter Tryz.func80, Tryz.ntmps80
  go_wp2_with (first | ((with_reducible refine gate_callee (f := 100) rfl ?_); refine goesL_ (some 6) rfl rfl Tryz.func100 (by kernel_rfl) rfl #[.string a0, .string (⟨#[10]⟩ : ByteArray)] rfl (by (try simp only [List.map_toArray, List.map_cons, List.map_nil]); first | done | rfl | (simp only [List.length_drop, List.length_take]; rfl)) ?_; (with_reducible refine (strings_Split.calls a0 (⟨#[10]⟩ : ByteArray) t189 _ ?side1 A2.out).mono ?_); (case side1 => exact Laid.go hLd (by repeat (first | (with_reducible first | exact HB.out | apply below_alloc | apply pw_below_drewN | apply below_drew1) | exact HB.out))); rintro e w3 ⟨v190, rfl, ho0, hb⟩; refine ⟨_, rfl, ?_⟩; have n0_ := Aside0.mk (Kd.R_lower ho0 (below_size (by repeat (first | (with_reducible first | exact HB.out | apply below_alloc | apply pw_below_drewN | apply below_drew1) | exact HB.out)))); have n1_ := Aside0.mk (below_step (by repeat (first | (with_reducible first | exact HB.out | apply below_alloc | apply pw_below_drewN | apply below_drew1) | exact HB.out)) hb); clear HB; have HO191 := n0_; have HB := n1_; clear n0_ n1_; (try clear hb); (try clear hb2); (try clear hk); (try clear hi); (try clear ho0)))
  go_loopg [4] k (fun kq v4 w' => ∃ (x4_1 : Int), v4 = .int .i64 x4_1 ∧ Aside0 (link_gap.l0 kq t189 x4_1 = some r) ∧ Aside0 (kq ≤ k) ∧ Aside0 (Kd.R Kd.string 9 w' w.heap.size (fun _ => True) v190 t189) ∧ Aside0 (Below w.heap.size w w'))
  case atStart => exact ⟨(1), (by first | rfl | (simp; done) | (simp [*]; done)), H', ⟨Nat.le_refl _⟩, ⟨by (with_reducible repeat (first | apply Kd.R_alloc | apply Kd.R_drewN | apply Kd.R_drew)); exact HO191.out⟩, ⟨by repeat (first | (with_reducible first | exact HB.out | apply below_alloc | apply pw_below_drewN | apply below_drew1) | exact HB.out)⟩⟩
  case round =>
    clear H'
    try clear c1
    try clear p2
    obtain ⟨x4_1, rfl, HA, HK1, HO_3, HB⟩ := hrel
    cases gk with
    | zero => exact absurd HA.out (by simp [link_gap.l0])
    | succ k1 =>
      have H := HA.out
      clear HA
      simp only [link_gap.l0] at H
      by_cases c4 : x4_1 < (wrap64 ((t189.length : Int) - 1))
      · rw [if_pos c4] at H
        have c4b0 : decide (x4_1 < (wrap64 ((t189.length : Int) - 1))) = true := decide_eq_true c4
        clear c4
        by_cases c5 : 0 ≤ x4_1
        · rw [if_pos c5] at H
          have c5b0 : decide (0 ≤ x4_1) = true := decide_eq_true c5
          clear c5
          by_cases c6 : x4_1 < (t189.length : Int)
          · rw [if_pos c6] at H
            have c6b0 : decide (x4_1 < (t189.length : Int)) = true := decide_eq_true c6
            clear c6
            replace H := Option.bind_eq_some_iff.mp H
            obtain ⟨t193, A70, H⟩ := H
            replace H : (if t193.toList = ([] : List UInt8) then (some true) else (link_gap.l0 k1 t189 (wrap64 (x4_1 + 1)))) = some r := H
            have A7 := Aside0.mk A70
            clear A70
            by_cases c8 : t193.toList = ([] : List UInt8)
            · rw [if_pos c8] at H
              have c8b0 : (t193.toList == ([] : List UInt8)) = true := beq_iff_eq.mpr c8
              have c8b1 : (t193.toList != ([] : List UInt8)) = false := bne_eq_false_iff_eq.mpr c8
              clear c8
              obtain rfl := Option.some.inj H
              obtain ⟨Ao9, co9, eo9⟩ := Kd.R_slice HO_3.out
              subst eo9
              have p192 : 0 ≤ (x4_1 : Int) := of_decide_eq_true (by first | (with_reducible assumption) | assumption)
              have q192 : x4_1 < (t189.length : Int) := of_decide_eq_true (by first | (with_reducible assumption) | assumption)
              obtain ⟨ad192, e192, hx192_0⟩ := Kd.at_string (Kd.R_reads' HO_3.out).2.2 x4_1 p192 q192
              cases e192
              replace p192 := eq_true p192
              replace q192 := eq_true q192
              go_wp2_with (first | ((with_reducible refine gate_callee (f := 101) rfl ?_); refine goesL_ (some 18) rfl rfl Tryz.func101 (by kernel_rfl) rfl #[.string (rdOf ByteArray.empty t189 x4_1), .string (⟨#[32, 9]⟩ : ByteArray)] rfl (by (try simp only [List.map_toArray, List.map_cons, List.map_nil]); first | done | rfl | (simp only [List.length_drop, List.length_take]; rfl)) ?_; (with_reducible refine (strings_Trim.calls (rdOf ByteArray.empty t189 x4_1) (⟨#[32, 9]⟩ : ByteArray) t193 _ A7.out).mono ?_); rintro e w10 ⟨rfl, hb⟩; refine ⟨_, rfl, ?_⟩; have n0_ := Aside0.mk (Kd.R_below (by (with_reducible repeat (first | apply Kd.R_alloc | apply Kd.R_drewN | apply Kd.R_drew)); exact HO_3.out) hb); have n1_ := Aside0.mk (below_step (by repeat (first | (with_reducible first | exact HB.out | apply below_alloc | apply pw_below_drewN | apply below_drew1) | exact HB.out)) hb); clear HO_3; clear HB; have HO_3 := n0_; have HB := n1_; clear n0_ n1_; (try clear hb); (try clear hb2); (try clear hk); (try clear hi)))
              go_ret
              exact ⟨by first | rfl | exact retNe _ | (simp [errW_none, errW_some] <;> rfl) | (simp [*, errW_none, errW_some] <;> rfl), by repeat (first | (with_reducible first | exact HB.out | apply below_alloc | apply pw_below_drewN | apply below_drew1) | exact HB.out)⟩
            · rw [if_neg c8] at H
              have c8b0 : (t193.toList == ([] : List UInt8)) = false := beq_eq_false_iff_ne.mpr c8
              have c8b1 : (t193.toList != ([] : List UInt8)) = true := bne_iff_ne.mpr c8
              have H' := Aside0.mk H
              clear H
              obtain ⟨Ao11, co11, eo11⟩ := Kd.R_slice HO_3.out
              subst eo11
              have p192 : 0 ≤ (x4_1 : Int) := of_decide_eq_true (by first | (with_reducible assumption) | assumption)
              have q192 : x4_1 < (t189.length : Int) := of_decide_eq_true (by first | (with_reducible assumption) | assumption)
              obtain ⟨ad192, e192, hx192_0⟩ := Kd.at_string (Kd.R_reads' HO_3.out).2.2 x4_1 p192 q192
              cases e192
              replace p192 := eq_true p192
              replace q192 := eq_true q192
              go_wp2_with (first | ((with_reducible refine gate_callee (f := 101) rfl ?_); refine goesL_ (some 18) rfl rfl Tryz.func101 (by kernel_rfl) rfl #[.string (rdOf ByteArray.empty t189 x4_1), .string (⟨#[32, 9]⟩ : ByteArray)] rfl (by (try simp only [List.map_toArray, List.map_cons, List.map_nil]); first | done | rfl | (simp only [List.length_drop, List.length_take]; rfl)) ?_; (with_reducible refine (strings_Trim.calls (rdOf ByteArray.empty t189 x4_1) (⟨#[32, 9]⟩ : ByteArray) t193 _ A7.out).mono ?_); rintro e w12 ⟨rfl, hb⟩; refine ⟨_, rfl, ?_⟩; have n0_ := Aside0.mk (Kd.R_below (by (with_reducible repeat (first | apply Kd.R_alloc | apply Kd.R_drewN | apply Kd.R_drew)); exact HO_3.out) hb); have n1_ := Aside0.mk (below_step (by repeat (first | (with_reducible first | exact HB.out | apply below_alloc | apply pw_below_drewN | apply below_drew1) | exact HB.out)) hb); clear HO_3; clear HB; have HO_3 := n0_; have HB := n1_; clear n0_ n1_; (try clear hb); (try clear hb2); (try clear hk); (try clear hi)))
              go_roundg k1
              case measure => have := HK1.out; omega
              case rel => exact ⟨(wrap64 (x4_1 + 1)), (by first | rfl | (simp; done) | (simp [*]; done)), H', ⟨by have := HK1.out; omega⟩, ⟨by (with_reducible repeat (first | apply Kd.R_alloc | apply Kd.R_drewN | apply Kd.R_drew)); exact HO_3.out⟩, ⟨by repeat (first | (with_reducible first | exact HB.out | apply below_alloc | apply pw_below_drewN | apply below_drew1) | exact HB.out)⟩⟩
          · rw [if_neg c6] at H
            exact absurd H (by simp)
        · rw [if_neg c5] at H
          exact absurd H (by simp)
      · rw [if_neg c4] at H
        have c4b0 : decide (x4_1 < (wrap64 ((t189.length : Int) - 1))) = false := decide_eq_false c4
        clear c4
        obtain rfl := Option.some.inj H
        obtain ⟨Ao13, co13, eo13⟩ := Kd.R_slice HO_3.out
        subst eo13
        go_wp2
        go_ret
        exact ⟨by first | rfl | exact retNe _ | (simp [errW_none, errW_some] <;> rfl) | (simp [*, errW_none, errW_some] <;> rfl), by repeat (first | (with_reducible first | exact HB.out | apply below_alloc | apply pw_below_drewN | apply below_drew1) | exact HB.out)⟩







end Go.Proofs.YtekifcbokdidlaaGreatDoor.PA

namespace Go.Proofs.YtekifcbokdidlaaGreatDoor.PA
open Go.RowKit Go.Proofs.YtekifcbokdidlaaGreatDoor.Pl Go.Proofs.YtekifcbokdidlaaGreatDoorW.PrintWords Go.Proofs.YtekifcbokdidlaaGreatDoorW.PrintLast Go.Proofs.YtekifcbokdidlaaGreatDoorW.PrintMore Go.Proofs.YtekifcbokdidlaaGreatDoor.Pure
set_option linter.unusedVariables false

theorem gap_l (s : List UInt8) (hs : s.length ≤ 1048576) : ∀ (d i : Nat), 1 ≤ i → i + d = (lns s).length → Ev (fun k => link_gap.l0 k ((lns s).map B) (i : Int)) (mid true ((lns s).drop i)) := by
  have hln : (lns s).length ≤ s.length + 1 := lf_len s []
  intro d
  induction d with
  | zero =>
    intro i h1 hi
    rw [List.drop_eq_nil_of_le (by omega)]
    refine Ev.step (f := fun _ => some false) (fun k => ?_) (Ev.now _)
    simp only [link_gap.l0]
    rw [w64 (by rw [List.length_map]; omega) (by rw [List.length_map]; omega), if_neg (by rw [List.length_map]; omega)]
  | succ d ih =>
    intro i h1 hi
    have hil : i < (lns s).length := by omega
    have hd : (lns s).drop i = (lns s)[i] :: (lns s).drop (i + 1) := List.drop_eq_getElem_cons hil
    by_cases he : i + 1 = (lns s).length
    · rw [hd, List.drop_eq_nil_of_le (by omega)]
      refine Ev.step (f := fun _ => some false) (fun k => ?_) (Ev.now _)
      simp only [link_gap.l0]
      rw [w64 (by rw [List.length_map]; omega) (by rw [List.length_map]; omega), if_neg (by rw [List.length_map]; omega)]
    · have hil2 : i + 1 < (lns s).length := by omega
      have hd2 : (lns s).drop (i + 1) = (lns s)[i + 1] :: (lns s).drop (i + 2) := List.drop_eq_getElem_cons hil2
      have hm : mid true ((lns s).drop i) = (blk (lns s)[i] || mid true ((lns s).drop (i + 1))) := by rw [hd, hd2, mid, Bool.true_and]
      have hsz : ((lns s)[i]).length ≤ s.length := by
        have := lf_size s [] _ (List.getElem_mem hil)
        simpa using this
      have htr : strings_Trim.f (B (lns s)[i]) ⟨#[32, 9]⟩ = some (B (Lib.trimS (lns s)[i] [32, 9])) := by
        unfold strings_Trim.f
        rw [if_pos ⟨by rw [B_size]; omega, by decide, by decide⟩, B_data]
        rfl
      have hw : wrap64 ((i : Int) + 1) = ((i + 1 : Nat) : Int) := w64 (by omega) (by omega)
      have hstep : ∀ k, link_gap.l0 (k + 1) ((lns s).map B) (i : Int) = if blk (lns s)[i] = true then some true else link_gap.l0 k ((lns s).map B) ((i + 1 : Nat) : Int) := by
        intro k
        simp only [link_gap.l0]
        rw [w64 (by rw [List.length_map]; omega) (by rw [List.length_map]; omega), if_pos (by rw [List.length_map]; omega), if_pos (by omega), if_pos (by rw [List.length_map]; omega), getD_B i hil, htr, Option.bind_some, B_toList, hw]
        by_cases hb : blk (lns s)[i] = true
        · rw [if_pos hb, if_pos ((trim_nil _).2 hb)]
        · rw [if_neg hb, if_neg (fun e => hb ((trim_nil _).1 e))]
      rw [hm]
      by_cases hb : blk (lns s)[i] = true
      · rw [hb, Bool.true_or]
        refine Ev.step (f := fun _ => some true) (fun k => ?_) (Ev.now _)
        rw [hstep, if_pos hb]
      · rw [show blk (lns s)[i] = false by simpa using hb, Bool.false_or]
        refine Ev.step (fun k => ?_) (ih (i + 1) (by omega) (by omega))
        rw [hstep, if_neg hb]
theorem gap_ev (s : List UInt8) (hs : s.length ≤ 1048576) : Ev (fun k => link_gap.f k (B s)) (gp false s) := by
  have hp : (lns s).length ≠ 0 := fun e => lf_pos s [] (List.length_eq_zero_iff.1 e)
  have h := gap_l s hs ((lns s).length - 1) 1 (Nat.le_refl _) (by omega)
  rw [gp_lns] at h
  unfold link_gap.f
  rw [split_f s hs]
  exact h
theorem gap_walk (s : List UInt8) (hs : s.length ≤ 1048576) (w : World) (hLd : Laid w) : Calls Tryz.prog 80 #[.string (B s)] w fun e w' => e = .returned (.bool (gp false s)) ∧ Below w.heap.size w w' := by
  obtain ⟨k, hk⟩ := Ev.rounds (gap_ev s hs)
  exact link_gap.calls k (B s) _ w hLd hk
theorem cls_walk (s : List UInt8) (w : World) : Calls Tryz.prog 78 #[.string (B s)] w fun e w' => e = .returned (.int .u8 ((cls s).toNat : Int)) ∧ Drawn0 w w' := by
  cases s with
  | nil =>
    have hne : (B []).toList.isEmpty = true := by rw [B_toList]; rfl
    generalize B [] = S at *
    go_enter Tryz.func78, Tryz.ntmps78
    go_wp2
    go_ret
    exact ⟨rfl, Drawn0.refl _⟩
  | cons x t =>
    have hsz : (B (x :: t)).size = t.length + 1 := B_size _
    have hks : 0 < (B (x :: t)).size := by omega
    have hi : (B (x :: t))[0]'hks = x := rfl
    have e1 : ((x.toNat : Int) = 34) ↔ x = 34 := u8_eq x 34 (by omega)
    have e2 : ((x.toNat : Int) = 39) ↔ x = 39 := u8_eq x 39 (by omega)
    have e3 : ((x.toNat : Int) = 40) ↔ x = 40 := u8_eq x 40 (by omega)
    have hne : (B (x :: t)).toList.isEmpty = false := by rw [B_toList]; rfl
    have hc : cls (x :: t) = if x = 34 then x else if x = 39 then x else if x = 40 then 41 else 0 := rfl
    generalize B (x :: t) = S at *
    by_cases h1 : x = 34
    · rw [if_pos h1] at hc
      have HC := Lib.hid hc
      have q1 : ((x.toNat : Int) == 34) = true := beq_iff_eq.2 (e1.2 h1)
      clear hc e1 e2 e3 h1
      go_enter Tryz.func78, Tryz.ntmps78
      go_wp2
      go_ret
      rw [HC.out]
      exact ⟨rfl, Drawn0.refl _⟩
    · rw [if_neg h1] at hc
      have q1 : ((x.toNat : Int) == 34) = false := beq_eq_false_iff_ne.2 (fun e => h1 (e1.1 e))
      by_cases h2 : x = 39
      · rw [if_pos h2] at hc
        have HC := Lib.hid hc
        have q2 : ((x.toNat : Int) == 39) = true := beq_iff_eq.2 (e2.2 h2)
        clear hc e1 e2 e3 h1 h2
        go_enter Tryz.func78, Tryz.ntmps78
        go_wp2
        go_ret
        rw [HC.out]
        exact ⟨rfl, Drawn0.refl _⟩
      · rw [if_neg h2] at hc
        have q2 : ((x.toNat : Int) == 39) = false := beq_eq_false_iff_ne.2 (fun e => h2 (e2.1 e))
        by_cases h3 : x = 40
        · rw [if_pos h3] at hc
          have HC := Lib.hid hc
          have q3 : ((x.toNat : Int) == 40) = true := beq_iff_eq.2 (e3.2 h3)
          clear hc e1 e2 e3 h1 h2 h3
          go_enter Tryz.func78, Tryz.ntmps78
          go_wp2
          go_ret
          rw [HC.out]
          exact ⟨rfl, Drawn0.refl _⟩
        · rw [if_neg h3] at hc
          have HC := Lib.hid hc
          have q3 : ((x.toNat : Int) == 40) = false := beq_eq_false_iff_ne.2 (fun e => h3 (e3.1 e))
          clear hc e1 e2 e3 h1 h2 h3
          go_enter Tryz.func78, Tryz.ntmps78
          go_wp2
          go_ret
          rw [HC.out]
          exact ⟨rfl, Drawn0.refl _⟩
theorem ti_keep {w w5 w0 : World} {b : Nat} {x : Value} (hb5 : Below w.heap.size w w5)
    (h : w.cell? ⟨b, 0, none⟩ = some x ∧ Below w0.heap.size w0 w ∧ b + 1 ≤ w.heap.size) :
    w5.cell? ⟨b, 0, none⟩ = some x ∧ Below w0.heap.size w0 w5 ∧ b + 1 ≤ w5.heap.size := by
  obtain ⟨h1, h2, h3⟩ := h
  exact ⟨(hb5.cell (p := ⟨b, 0, none⟩) (by show b < _; omega)).trans h1, h2.trans (hb5.mono h2.size), Nat.le_trans h3 hb5.size⟩
set_option maxHeartbeats 4000000 in
set_option maxRecDepth 100000 in
theorem ttl_walk (s : List UInt8) (hs : s.length ≤ 1048576) (w : World) (hLd : Laid w) :
    Calls Tryz.prog 53 #[.string (B s)] w fun e w' => e = .returned (.tuple #[.string (B (ttl s).1), .int .i64 ((ttl s).2 : Int)]) ∧ Below w.heap.size w w' := by
  have HC := Lib.hid (fun W => cls_walk s W)
  have HLd := Lib.hid hLd
  clear hLd
  by_cases h0 : cls s = 0
  · have hT : ttl s = ([], 0) := by
      cases s with
      | nil => rfl
      | cons x t => unfold ttl; exact if_pos h0
    have HT := Lib.hid hT
    rw [h0] at HC
    clear hT h0
    go_enter Tryz.func53, Tryz.ntmps53
    go_wp2_with fail
    refine (HC.out _).mono ?_
    rintro e w1 ⟨rfl, hd⟩
    have HB1 := Lib.hid (hd.below.alloc hd.below.size (.cells #[.int .u8 (((0 : UInt8).toNat : Nat) : Int)] 5 (0, 0)))
    have hcell : (w1.alloc (.cells #[.int .u8 (((0 : UInt8).toNat : Nat) : Int)] 5 (0, 0))).cell? ⟨w1.heap.size, 0, none⟩ = some (.int .u8 (((0 : UInt8).toNat : Nat) : Int)) := cell_of_one (heap_alloc_new w1 _)
    have hz : (((0 : UInt8).toNat : Nat) : Int) = 0 := rfl
    rw [hz] at hcell HB1
    clear hd
    go_wp2
    go_ret2
    rw [HT.out]
    exact ⟨rfl, HB1.out⟩
  · obtain ⟨x, t, rfl⟩ : ∃ x t, s = x :: t := by
      cases s with
      | nil => exact absurd rfl h0
      | cons x t => exact ⟨x, t, rfl⟩
    rw [List.length_cons] at hs
    obtain ⟨en, hen⟩ : ∃ y, cls (x :: t) = y := ⟨_, rfl⟩
    have HE := Lib.hid (fun b W => each_tit (x :: t) (by rw [List.length_cons]; omega) 1 (by simp) b en W)
    rw [show List.drop 1 (x :: t) = t from rfl, show ((1 : Nat) : Int) = 1 from rfl] at HE
    have hEl := eachL_le (pTit en) t
    obtain ⟨E, hE⟩ : ∃ E, eachL (pTit en) t = E := ⟨_, rfl⟩
    have hlab : ttl (x :: t) = match t.drop E with
      | [] => ([], 0)
      | y :: _ => if y = en then (if gp false (t.take E) = true then ([], 0) else (une (t.take E), E + 2)) else ([], 0) := by subst hE; subst hen; exact if_neg h0
    rw [hE] at HE hEl
    rw [hen] at HC h0
    have HG := Lib.hid (fun W hW => gap_walk (t.take E) (by rw [List.length_take]; omega) W hW)
    have HW := Lib.hid (fun W => unesc_walk (t.take E) (by rw [List.length_take]; omega) W)
    obtain ⟨k, hk⟩ : ∃ k, 1 + E = k := ⟨_, rfl⟩
    rw [hk] at HE
    have hk1 : 1 ≤ k := by omega
    have hk2 : k ≤ 1048577 := by omega
    have hex : (B (x :: t)).extract 1 k = B (t.take E) := by rw [B_extract, show k - 1 = E by omega]; rfl
    have hn : (B (x :: t)).size = t.length + 1 := B_size _
    have hen0 : (((en.toNat : Nat) : Int) == 0) = false := beq_eq_false_iff_ne.2 (fun e => h0 ((u8_eq en 0 (by omega)).1 e))
    have hget : ∀ y u, t.drop E = y :: u → ∃ h : k < (B (x :: t)).size, (B (x :: t))[k]'h = y := by
      intro y u e
      have hlt : E < t.length := by
        rcases Nat.lt_or_ge E t.length with h | h
        · exact h
        · rw [List.drop_eq_nil_of_le h] at e; cases e
      refine ⟨by omega, ?_⟩
      have e2 : (x :: t).drop k = y :: u := by rw [← hk, Nat.add_comm, List.drop_succ_cons]; exact e
      have hk3 : k < (x :: t).length := by rw [List.length_cons]; omega
      rw [List.drop_eq_getElem_cons hk3] at e2
      exact (List.getElem_toArray hk3).trans (List.cons.inj e2).1
    generalize B (x :: t) = S at *
    cases ht : t.drop E with
    | nil =>
      rw [ht] at hlab
      have HL := Lib.hid hlab
      have hEt : t.length ≤ E := List.drop_eq_nil_iff.1 ht
      obtain rfl : k = t.length + 1 := by omega
      generalize t.length + 1 = n at *
      clear hlab hget ht hex hE HW HG hen h0
      go_enter Tryz.func53, Tryz.ntmps53
      go_wp2_with fail
      refine (HC.out _).mono ?_
      rintro e w1 ⟨rfl, hd⟩
      have hcell : (w1.alloc (.cells #[.int .u8 ((en.toNat : Nat) : Int)] 5 (0, 0))).cell? ⟨w1.heap.size, 0, none⟩ = some (.int .u8 ((en.toNat : Nat) : Int)) := cell_of_one (heap_alloc_new w1 _)
      have hlt : w1.heap.size < (w1.alloc (.cells #[.int .u8 ((en.toNat : Nat) : Int)] 5 (0, 0))).heap.size := by rw [al2_size]; omega
      have HB1 := Lib.hid (hd.below.alloc hd.below.size (.cells #[.int .u8 ((en.toNat : Nat) : Int)] 5 (0, 0)))
      clear hd
      go_wp2_with fail
      obtain ⟨w2, hw2⟩ : ∃ w2, w2 = w1.alloc (.cells #[.int .u8 ((en.toNat : Nat) : Int)] 5 (0, 0)) := ⟨_, rfl⟩
      rw [← hw2] at hcell hlt HB1
      rw [show (w1.alloc (Obj.cells #[Value.int IntKind.u8 ((en.toNat : Nat) : Int)] 5)) = w2 from hw2.symm]
      clear hw2
      obtain ⟨b, hb⟩ : ∃ b, w1.heap.size = b := ⟨_, rfl⟩
      rw [hb] at hcell hlt ⊢
      clear hb
      with_reducible refine (HE.out b w2 hlt hcell).mono ?_
      rintro e w3 ⟨rfl, hb3⟩
      have HB3 := Lib.hid (HB1.out.trans (hb3.mono HB1.out.size))
      have hc3 : w3.cell? ⟨b, 0, none⟩ = some (.int .u8 ((en.toNat : Nat) : Int)) := (hb3.cell (p := ⟨b, 0, none⟩) hlt).trans hcell
      clear hb3 hcell hlt HB1 HE HC
      go_wp2_with fail
      go_quiet (fail)
      go_wp2
      go_ret2
      rw [HL.out]
      exact ⟨rfl, pw_below_drewN HB3.out _⟩
    | cons y u =>
      obtain ⟨hks, hi⟩ := hget y u ht
      rw [ht] at hlab
      simp only at hlab
      have hkn : k < t.length + 1 := by omega
      have hkn2 : (1 : Int) ≤ (k : Int) := by omega
      have hkn3 : (k : Int) ≤ (t.length : Int) + 1 := by omega
      have hkn4 : k ≤ t.length + 1 := by omega
      have q1 : ((k : Int) == ((t.length + 1 : Nat) : Int)) = false := beq_eq_false_iff_ne.2 (by omega)
      have q1b : ((k : Int) == ((t.length : Int) + 1)) = false := beq_eq_false_iff_ne.2 (by omega)
      have eye : ((y.toNat : Int) = (en.toNat : Int)) ↔ y = en := ⟨fun h => UInt8.toNat_inj.1 (by omega), fun h => by rw [h]⟩
      by_cases h1 : y = en
      · rw [if_pos h1] at hlab
        have q2 : ((y.toNat : Int) == (en.toNat : Int)) = true := beq_iff_eq.2 (eye.2 h1)
        have q2b : ((y.toNat : Int) != (en.toNat : Int)) = false := by rw [bne, q2]; rfl
        cases hg : gp false (t.take E) with
        | true =>
          rw [if_pos hg] at hlab
          rw [hg] at HG
          have HL := Lib.hid hlab
          clear hlab hget ht hE eye h1 hg hen h0 HW
          go_enter Tryz.func53, Tryz.ntmps53
          go_wp2_with fail
          refine (HC.out _).mono ?_
          rintro e w1 ⟨rfl, hd⟩
          have hcell : (w1.alloc (.cells #[.int .u8 ((en.toNat : Nat) : Int)] 5 (0, 0))).cell? ⟨w1.heap.size, 0, none⟩ = some (.int .u8 ((en.toNat : Nat) : Int)) := cell_of_one (heap_alloc_new w1 _)
          have hlt : w1.heap.size < (w1.alloc (.cells #[.int .u8 ((en.toNat : Nat) : Int)] 5 (0, 0))).heap.size := by rw [al2_size]; omega
          have HB1 := Lib.hid (hd.below.alloc hd.below.size (.cells #[.int .u8 ((en.toNat : Nat) : Int)] 5 (0, 0)))
          clear hd
          go_wp2_with fail
          obtain ⟨w2, hw2⟩ : ∃ w2, w2 = w1.alloc (.cells #[.int .u8 ((en.toNat : Nat) : Int)] 5 (0, 0)) := ⟨_, rfl⟩
          rw [← hw2] at hcell hlt HB1
          rw [show (w1.alloc (Obj.cells #[Value.int IntKind.u8 ((en.toNat : Nat) : Int)] 5)) = w2 from hw2.symm]
          clear hw2
          obtain ⟨b, hb⟩ : ∃ b, w1.heap.size = b := ⟨_, rfl⟩
          rw [hb] at hcell hlt ⊢
          clear hb
          with_reducible refine (HE.out b w2 hlt hcell).mono ?_
          rintro e w3 ⟨rfl, hb3⟩
          have HB3 := Lib.hid (HB1.out.trans (hb3.mono HB1.out.size))
          have hc3 : w3.cell? ⟨b, 0, none⟩ = some (.int .u8 ((en.toNat : Nat) : Int)) := (hb3.cell (p := ⟨b, 0, none⟩) hlt).trans hcell
          have hlt3 : b + 1 ≤ w3.heap.size := Nat.le_trans hlt hb3.size
          have HS3 : w3.cell? ⟨b, 0, none⟩ = some (.int .u8 ((en.toNat : Nat) : Int)) ∧ Below w.heap.size w w3 ∧ b + 1 ≤ w3.heap.size := ⟨hc3, HB3.out, hlt3⟩
          have HG2 := Lib.hid (fun W (hS : W.cell? ⟨b, 0, none⟩ = some (.int .u8 ((en.toNat : Nat) : Int)) ∧ Below w.heap.size w W ∧ b + 1 ≤ W.heap.size) => HG.out W (HLd.out.go hS.2.1))
          clear hb3 hcell hlt hlt3 HB1 HB3 hc3 HE HC HG
          go_wp2_with fail
          go_region_held3 (fun W => W.cell? ⟨b, 0, none⟩ = some (.int .u8 ((en.toNat : Nat) : Int)) ∧ Below w.heap.size w W ∧ b + 1 ≤ W.heap.size)
            (first | (refine ti_keep hb5 ?_; assumption) | (refine ti_keep (pw_below_drewN (Below.refl _ _) _) ?_; assumption) | (refine ti_keep (Below.drew (Below.refl _ _)) ?_; assumption))
            (first | (go_at_call 80; refine (HG2.out _ (by assumption)).mono ?_; rintro e w5 ⟨rfl, hb5⟩))
          rename_i hh
          have HB4 := Lib.hid hh.2.1
          clear hh
          go_wp2
          go_ret2
          rw [HL.out]
          exact ⟨rfl, HB4.out⟩
        | false =>
          rw [if_neg (by rw [hg]; decide)] at hlab
          rw [hg] at HG
          have HL := Lib.hid hlab
          have HK := Lib.hid (show ((k : Int) + 1) = ((E + 2 : Nat) : Int) by omega)
          clear hlab hget ht hE eye h1 hg hen h0
          go_enter Tryz.func53, Tryz.ntmps53
          go_wp2_with fail
          refine (HC.out _).mono ?_
          rintro e w1 ⟨rfl, hd⟩
          have hcell : (w1.alloc (.cells #[.int .u8 ((en.toNat : Nat) : Int)] 5 (0, 0))).cell? ⟨w1.heap.size, 0, none⟩ = some (.int .u8 ((en.toNat : Nat) : Int)) := cell_of_one (heap_alloc_new w1 _)
          have hlt : w1.heap.size < (w1.alloc (.cells #[.int .u8 ((en.toNat : Nat) : Int)] 5 (0, 0))).heap.size := by rw [al2_size]; omega
          have HB1 := Lib.hid (hd.below.alloc hd.below.size (.cells #[.int .u8 ((en.toNat : Nat) : Int)] 5 (0, 0)))
          clear hd
          go_wp2_with fail
          obtain ⟨w2, hw2⟩ : ∃ w2, w2 = w1.alloc (.cells #[.int .u8 ((en.toNat : Nat) : Int)] 5 (0, 0)) := ⟨_, rfl⟩
          rw [← hw2] at hcell hlt HB1
          rw [show (w1.alloc (Obj.cells #[Value.int IntKind.u8 ((en.toNat : Nat) : Int)] 5)) = w2 from hw2.symm]
          clear hw2
          obtain ⟨b, hb⟩ : ∃ b, w1.heap.size = b := ⟨_, rfl⟩
          rw [hb] at hcell hlt ⊢
          clear hb
          with_reducible refine (HE.out b w2 hlt hcell).mono ?_
          rintro e w3 ⟨rfl, hb3⟩
          have HB3 := Lib.hid (HB1.out.trans (hb3.mono HB1.out.size))
          have hc3 : w3.cell? ⟨b, 0, none⟩ = some (.int .u8 ((en.toNat : Nat) : Int)) := (hb3.cell (p := ⟨b, 0, none⟩) hlt).trans hcell
          have hlt3 : b + 1 ≤ w3.heap.size := Nat.le_trans hlt hb3.size
          have HS3 : w3.cell? ⟨b, 0, none⟩ = some (.int .u8 ((en.toNat : Nat) : Int)) ∧ Below w.heap.size w w3 ∧ b + 1 ≤ w3.heap.size := ⟨hc3, HB3.out, hlt3⟩
          have HG2 := Lib.hid (fun W (hS : W.cell? ⟨b, 0, none⟩ = some (.int .u8 ((en.toNat : Nat) : Int)) ∧ Below w.heap.size w W ∧ b + 1 ≤ W.heap.size) => HG.out W (HLd.out.go hS.2.1))
          clear hb3 hcell hlt hlt3 HB1 HB3 hc3 HE HC HG
          go_wp2_with fail
          go_region_held3 (fun W => W.cell? ⟨b, 0, none⟩ = some (.int .u8 ((en.toNat : Nat) : Int)) ∧ Below w.heap.size w W ∧ b + 1 ≤ W.heap.size)
            (first | (refine ti_keep hb5 ?_; assumption) | (refine ti_keep (pw_below_drewN (Below.refl _ _) _) ?_; assumption) | (refine ti_keep (Below.drew (Below.refl _ _)) ?_; assumption))
            (first | (go_at_call 80; refine (HG2.out _ (by assumption)).mono ?_; rintro e w5 ⟨rfl, hb5⟩))
          rename_i hh
          have HB4 := Lib.hid hh.2.1
          clear hh
          go_wp2_with fail
          with_reducible refine (HW.out _ (HLd.out.go HB4.out)).mono ?_
          rintro e w5 ⟨rfl, hb5⟩
          have HB5 := Lib.hid (HB4.out.trans (hb5.mono HB4.out.size))
          clear hb5
          go_wp2
          go_ret2
          rw [HL.out]
          exact ⟨by first | rfl | (rw [HK.out]; rfl), HB5.out⟩
      · rw [if_neg h1] at hlab
        have HL := Lib.hid hlab
        have q2 : ((y.toNat : Int) == (en.toNat : Int)) = false := beq_eq_false_iff_ne.2 (fun e => h1 (eye.1 e))
        have q2b : ((y.toNat : Int) != (en.toNat : Int)) = true := by rw [bne, q2]; rfl
        clear hlab hget ht hE eye h1 hen h0 HW HG
        go_enter Tryz.func53, Tryz.ntmps53
        go_wp2_with fail
        refine (HC.out _).mono ?_
        rintro e w1 ⟨rfl, hd⟩
        have hcell : (w1.alloc (.cells #[.int .u8 ((en.toNat : Nat) : Int)] 5 (0, 0))).cell? ⟨w1.heap.size, 0, none⟩ = some (.int .u8 ((en.toNat : Nat) : Int)) := cell_of_one (heap_alloc_new w1 _)
        have hlt : w1.heap.size < (w1.alloc (.cells #[.int .u8 ((en.toNat : Nat) : Int)] 5 (0, 0))).heap.size := by rw [al2_size]; omega
        have HB1 := Lib.hid (hd.below.alloc hd.below.size (.cells #[.int .u8 ((en.toNat : Nat) : Int)] 5 (0, 0)))
        clear hd
        go_wp2_with fail
        obtain ⟨w2, hw2⟩ : ∃ w2, w2 = w1.alloc (.cells #[.int .u8 ((en.toNat : Nat) : Int)] 5 (0, 0)) := ⟨_, rfl⟩
        rw [← hw2] at hcell hlt HB1
        rw [show (w1.alloc (Obj.cells #[Value.int IntKind.u8 ((en.toNat : Nat) : Int)] 5)) = w2 from hw2.symm]
        clear hw2
        obtain ⟨b, hb⟩ : ∃ b, w1.heap.size = b := ⟨_, rfl⟩
        rw [hb] at hcell hlt ⊢
        clear hb
        with_reducible refine (HE.out b w2 hlt hcell).mono ?_
        rintro e w3 ⟨rfl, hb3⟩
        have HB3 := Lib.hid (HB1.out.trans (hb3.mono HB1.out.size))
        have hc3 : w3.cell? ⟨b, 0, none⟩ = some (.int .u8 ((en.toNat : Nat) : Int)) := (hb3.cell (p := ⟨b, 0, none⟩) hlt).trans hcell
        clear hb3 hcell hlt HB1 HE HC
        go_wp2_with fail
        go_quiet (fail)
        go_wp2
        go_ret2
        rw [HL.out]
        exact ⟨rfl, pw_below_drewN HB3.out _⟩
end Go.Proofs.YtekifcbokdidlaaGreatDoor.PA

namespace Go.Proofs.YtekifcbokdidlaaGreatDoor.PA
open Go.RowKit Go.Proofs.YtekifcbokdidlaaGreatDoor.Pl Go.Proofs.YtekifcbokdidlaaGreatDoorW.PrintWords Go.Proofs.YtekifcbokdidlaaGreatDoorW.PrintLast Go.Proofs.YtekifcbokdidlaaGreatDoorW.PrintMore Go.Proofs.YtekifcbokdidlaaGreatDoor.Pure
set_option linter.unusedVariables false

def link_Label.f (a0 : ByteArray) : Option (ByteArray × Int) := if a0.size ≤ 1048576 then some (B (lab a0.data.toList).1, ((lab a0.data.toList).2 : Int)) else none
theorem link_Label.calls (a0 : ByteArray) (r1 : ByteArray) (r2 : Int) (w : World) (h : link_Label.f a0 = some (r1, r2)) :
    Calls Tryz.prog 26 #[.string a0] w fun e w' => e = .returned (.tuple #[.string r1, .int .i64 r2]) ∧ Below w.heap.size w w' := by
  unfold link_Label.f at h
  split at h
  · rename_i hc
    have h2 := Option.some.inj h
    obtain ⟨rfl, rfl⟩ := Prod.mk.inj h2
    exact lab_walk a0.data.toList (by rw [Array.length_toList]; exact hc) w
  · cases h
def link_Dest.f (a0 : ByteArray) : Option (ByteArray × Int × Bool) := if a0.size ≤ 1048576 then some (B (dst a0.data.toList).1, ((dst a0.data.toList).2.1 : Int), (dst a0.data.toList).2.2) else none
theorem link_Dest.calls (a0 : ByteArray) (r1 : ByteArray) (r2 : Int) (r3 : Bool) (w : World) (hLd : Laid w) (h : link_Dest.f a0 = some (r1, r2, r3)) :
    Calls Tryz.prog 29 #[.string a0] w fun e w' => e = .returned (.tuple #[.string r1, .int .i64 r2, .bool r3]) ∧ Below w.heap.size w w' := by
  unfold link_Dest.f at h
  split at h
  · rename_i hc
    have h2 := Option.some.inj h
    obtain ⟨rfl, h3⟩ := Prod.mk.inj h2
    obtain ⟨rfl, rfl⟩ := Prod.mk.inj h3
    exact dst_walk a0.data.toList (by rw [Array.length_toList]; exact hc) w hLd
  · cases h
def link_Title.f (a0 : ByteArray) : Option (ByteArray × Int) := if a0.size ≤ 1048576 then some (B (ttl a0.data.toList).1, ((ttl a0.data.toList).2 : Int)) else none
theorem link_Title.calls (a0 : ByteArray) (r1 : ByteArray) (r2 : Int) (w : World) (hLd : Laid w) (h : link_Title.f a0 = some (r1, r2)) :
    Calls Tryz.prog 53 #[.string a0] w fun e w' => e = .returned (.tuple #[.string r1, .int .i64 r2]) ∧ Below w.heap.size w w' := by
  unfold link_Title.f at h
  split at h
  · rename_i hc
    have h2 := Option.some.inj h
    obtain ⟨rfl, rfl⟩ := Prod.mk.inj h2
    exact ttl_walk a0.data.toList (by rw [Array.length_toList]; exact hc) w hLd
  · cases h
end Go.Proofs.YtekifcbokdidlaaGreatDoor.PA

namespace Go.Proofs.YtekifcbokdidlaaGreatDoor.PA
open Go.RowKit Go.Shelf Go.Proofs.YtekifcbokdidlaaGreatDoorW.PrintWords Go.Proofs.YtekifcbokdidlaaGreatDoorW.PrintLast Go.Proofs.YtekifcbokdidlaaGreatDoorW.PrintMore Go.Proofs.YtekifcbokdidlaaGreatDoor.Pl
set_option linter.unusedVariables false

instance : Inhabited S26 := ⟨z26⟩
def lidx_ren : Ren := ⟨fun | 6 => 20 | n => n, fun | 22 => 22 | 23 => 26 | 25 => 42 | n => n, fun n => n⟩
theorem lidx : Go.Proofs.SlLaysH0.n6 Tryz.prog lidx_ren := {
  mixed := by kernel_rfl,
  f6 := ⟨"slices.IndexFunc[[]incipit/api.Ref,incipit/api.Ref]", of_decide_eq_true (by kernel_rfl), Tryz.func20.trans (congrArg some (by kernel_rfl))⟩,
  t0 := Tryz.underlying0, a0 := Tryz.isAgg0, z0 := Tryz.sizeOf0, v0 := Tryz.zeroValue0, t3 := Tryz.underlying3,
  a3 := Tryz.isAgg3, z3 := Tryz.sizeOf3, v3 := Tryz.zeroValue3, t4 := Tryz.underlying4, a4 := Tryz.isAgg4,
  z4 := Tryz.sizeOf4, v4 := Tryz.zeroValue4, t22 := Tryz.underlying22, a22 := Tryz.isAgg22, z22 := Tryz.sizeOf22,
  v22 := Tryz.zeroValue22, t25 := Tryz.underlying42, a25 := Tryz.isAgg42, z25 := Tryz.sizeOf42,
  v25 := Tryz.zeroValue42 }
/-- A definition's cells. -/
def encR3 (x : S26) : List Value := [.string x.f0, .string x.f1, .string x.f2]
theorem refs_lie {w : World} {A : Option Addr} {l : List S26} (h : Kd.C k26 w A l.length l) (h0 : 0 < l.length) :
    ∃ b off, A = some ⟨b, off, none⟩ ∧ b < w.heap.size ∧ ∀ j, j < l.length → ∀ i v, (encR3 l[j]!)[i]? = some v → w.cell? ⟨b, off + j * 3 + i, none⟩ = some v := by
  obtain ⟨ad, e, hc⟩ := h.2.2 h0
  have key : ∀ j, j < l.length → ∀ i v, (encR3 l[j]!)[i]? = some v → w.cell? (ad.add (j * 3 + i)) = some v := by
    intro j hj i v hi
    obtain ⟨c, hl, hr, hx⟩ := hc j _ (List.getElem?_eq_getElem hj)
    obtain rfl := k26_open hr
    have e2 : l[j]! = l[j] := by simp [hj]
    rw [e2] at hi
    exact hx i v hi
  have h00 := key 0 h0 0 (.string l[0]!.f0) rfl
  rw [show ad.add (0 * 3 + 0) = ad from rfl] at h00
  obtain ⟨b, off, sp⟩ := ad
  have hsp : sp = none := by
    cases sp with
    | none => rfl
    | some q =>
      simp only [World.cell?] at h00
      split at h00 <;> simp at h00
  subst hsp
  refine ⟨b, off, e, World.block_lt_of_cell? w _ h00, fun j hj i v hi => ?_⟩
  rw [← key j hj i v hi]
  congr 1
  unfold Addr.add
  split
  · rename_i e0
    rw [show off + j * 3 + i = off by omega]
  · rw [Nat.add_assoc]
theorem idx_empty (A0 : Option Addr) (c0 : Nat) (fv : Value) (w : World) : Calls Tryz.prog 20 #[.slice A0 0 c0, fv] w fun e w' => e = .returned (.int .i64 (-1)) ∧ Below w.heap.size w w' := by
  go_enter Tryz.func20, Tryz.ntmps20
  go_wp2
  go_loopw [8] (fun vi wr => vi = .int .i64 0 ∧ Hid (Below w.heap.size w wr)) (fun _ _ => 0)
  case atStart => exact ⟨rfl, Lib.hid (Below.refl _ _)⟩
  case round =>
    obtain ⟨rfl, HB⟩ := hrel
    go_wp2
    go_ret
    exact ⟨rfl, HB.out⟩
theorem idx_walk (A0 : Option Addr) (c0 : Nat) (l : List S26) (p : S26 → Bool) (g : Nat) (lb : Array Value) (eg : ∀ args w, (callFunc g args).run Tryz.prog w = .ok (.enter g args) w) (w : World)
    (hp : PredBelow Tryz.prog g lb (fun x => .agg (encR3 x).toArray) p w) (hC : Kd.C k26 w A0 l.length l) :
    Calls Tryz.prog 20 #[.slice A0 l.length c0, .func (.func g) #[] lb] w fun e w' => e = .returned (.int .i64 (Lib.idxBy (fun _ y => p y) l default)) ∧ Below w.heap.size w w' := by
  rcases Nat.eq_zero_or_pos l.length with h0 | h0
  · obtain rfl := List.length_eq_zero_iff.1 h0
    exact idx_empty A0 c0 _ w
  · obtain ⟨b, off, rfl, hb, hc⟩ := refs_lie hC h0
    have h := AnyQ.slices_IndexFunc lidx 3 Tryz.isAgg26 Tryz.sizeOf26 encR3 (fun _ => rfl) p g lb eg b off l.length c0 l w hp (Nat.le_refl _) (Kd.C_max hC) hb hc
    rw [List.take_length] at h
    exact h
/-- The closure of refs.Find: is that a definition's label? -/
theorem find_pred (x : ByteArray) (b : Nat) (w : World) (hb : b < w.heap.size) (hc : w.cell? ⟨b, 0, none⟩ = some (.string x)) :
    PredBelow Tryz.prog 21 #[.pointer (some ⟨b, 0, none⟩)] (fun y => .agg (encR3 y).toArray) (fun y => y.f0.toList == x.toList) w := fun W y hB => by
  have hc2 : W.cell? ⟨b, 0, none⟩ = some (.string x) := (hB.cell (p := ⟨b, 0, none⟩) hb).trans hc
  have hbW : b < W.heap.size := Nat.lt_of_lt_of_le hb hB.size
  have hne : b ≠ W.heap.size := by omega
  show Calls Tryz.prog 21 #[.agg #[.string y.f0, .string y.f1, .string y.f2], .pointer (some ⟨b, 0, none⟩)] W _
  go_enter Tryz.func21, Tryz.ntmps21
  go_wp2
  go_ret
  exact ⟨rfl, hB.alloc hB.size _⟩
theorem row3_facts {w : World} {g : Nat} {a b c : ByteArray} (h : w.heap[g]? = some (.cells #[.string a, .string b, .string c] 26 (0, 0))) :
    w.cell? ⟨g, 0, none⟩ = some (.string a) ∧ w.cell? ⟨g, 1, none⟩ = some (.string b) ∧ w.cell? ⟨g, 2, none⟩ = some (.string c) ∧ w.frozen? ⟨g, 0, none⟩ = false ∧ w.frozen? ⟨g, 1, none⟩ = false ∧ w.frozen? ⟨g, 2, none⟩ = false := by
  refine ⟨?_, ?_, ?_, ?_, ?_, ?_⟩ <;> simp [World.cell?, World.frozen?, h]
/-- The definition of a label. -/
def fnd (l : List S26) (x : List UInt8) : S26 × Bool :=
  if x = [] then (z26, false) else match l.find? (fun y => y.f0.toList == x) with
    | some y => (y, true)
    | none => (z26, false)
theorem idx_from (p : S26 → Bool) : ∀ (l : List S26) (i : Nat), (l.find? p = none ∧ Lib.idxByFrom (fun _ y => p y) default l i = -1) ∨ ∃ k, k < l.length ∧ l.find? p = some l[k]! ∧ Lib.idxByFrom (fun _ y => p y) default l i = ((i + k : Nat) : Int)
  | [], i => .inl ⟨rfl, rfl⟩
  | y :: r, i => by
    unfold Lib.idxByFrom
    by_cases h : p y = true
    · exact .inr ⟨0, by simp, by simp [List.find?, h], by simp [h]⟩
    · rcases idx_from p r (i + 1) with ⟨h1, h2⟩ | ⟨k, hk, h1, h2⟩
      · exact .inl ⟨by simp [List.find?, h]; simpa using h1, by simp [h, h2]⟩
      · refine .inr ⟨k + 1, by simp; omega, ?_, ?_⟩
        · simp only [List.find?, h]
          rw [h1]
          simp
        · rw [if_neg h, h2]
          congr 1
          omega
set_option maxHeartbeats 4000000 in
set_option maxRecDepth 100000 in
theorem find_walk (A0 : Option Addr) (c0 : Nat) (l : List S26) (s : ByteArray) (w : World) (hLd : Laid w) (hC : Kd.C k26 w A0 l.length l) (hs : s.size ≤ 65536) :
    Calls Tryz.prog 10 #[.slice A0 l.length c0, .string s] w fun e w' => e = .returned (.tuple #[.agg #[.string (fnd l (lbl s.data.toList)).1.f0, .string (fnd l (lbl s.data.toList)).1.f1, .string (fnd l (lbl s.data.toList)).1.f2], .bool (fnd l (lbl s.data.toList)).2]) ∧ Below w.heap.size w w' := by
  have HLab := Lib.hid (fun W hW => Label_walk s W hW hs)
  obtain ⟨x, hx⟩ : ∃ x, lbl s.data.toList = x := ⟨_, rfl⟩
  rw [hx] at HLab ⊢
  have HLd := Lib.hid hLd
  have HC := Lib.hid hC
  have hmax := Kd.C_max hC
  have hidx := idx_from (fun y => y.f0.toList == x) l 0
  have hfn : fnd l x = if x = [] then (z26, false) else match l.find? (fun y => y.f0.toList == x) with
    | some y => (y, true)
    | none => (z26, false) := rfl
  have HI := Lib.hid (fun b W (hb : b < W.heap.size) (hc : W.cell? ⟨b, 0, none⟩ = some (.string (B x))) hCW => idx_walk A0 c0 l (fun y => y.f0.toList == (B x).toList) 21 #[.pointer (some ⟨b, 0, none⟩)] (enters_of Tryz.func21 (by kernel_rfl) rfl) W (find_pred (B x) b W hb hc) hCW)
  rw [B_toList] at HI
  have hbt : (B x).toList = x := B_toList x
  obtain ⟨X, hX⟩ : ∃ X, B x = X := ⟨_, rfl⟩
  rw [hX] at HLab HI hbt
  unfold Lib.idxBy at HI
  clear hX hx hLd hC hs
  rcases hidx with ⟨hnone, hid⟩ | ⟨k, hk, hsome, hid⟩
  · rw [hid] at HI
    have HF := Lib.hid (show fnd l x = (z26, false) by rw [hfn, hnone]; split <;> rfl)
    rw [HF.out]
    clear hid hnone hfn hbt HF
    go_enter Tryz.func10, Tryz.ntmps10
    go_wp2_with fail
    have HB0 := Lib.hid ((Below.refl w.heap.size w).alloc (Nat.le_refl _) (.cells #[.string ⟨#[]⟩, .string ⟨#[]⟩, .string ⟨#[]⟩] 26 (0, 0)))
    have hR0 := heap_alloc_new w (.cells #[.string ⟨#[]⟩, .string ⟨#[]⟩, .string ⟨#[]⟩] 26 (0, 0))
    have hRl : w.heap.size < (w.alloc (.cells #[.string ⟨#[]⟩, .string ⟨#[]⟩, .string ⟨#[]⟩] 26 (0, 0))).heap.size := by rw [World.size_alloc]; omega
    refine (HLab.out _ (HLd.out.go HB0.out)).mono ?_
    rintro e w1 ⟨rfl, hb1⟩
    have hR1 := (hb1.block _ hRl).trans hR0
    have HB1 := Lib.hid (HB0.out.trans (hb1.mono (Nat.le_of_lt hRl)))
    have hl1 : w.heap.size < w1.heap.size := Nat.lt_of_lt_of_le hRl hb1.size
    clear hb1 HB0 hR0 hRl HLab HLd
    go_wp2_with fail
    obtain ⟨w2, hw2⟩ : ∃ w2, w2 = w1.alloc (.cells #[.string X] 9 (0, 0)) := ⟨_, rfl⟩
    have hcell2 : w2.cell? ⟨w1.heap.size, 0, none⟩ = some (.string X) := by rw [hw2]; exact cell_of_one (heap_alloc_new w1 _)
    have hl2 : w1.heap.size < w2.heap.size := by rw [hw2, World.size_alloc]; omega
    have HB2 := Lib.hid (show Below w.heap.size w w2 by rw [hw2]; exact HB1.out.alloc (Nat.le_of_lt hl1) _)
    have hR2 : w2.heap[w.heap.size]? = some (.cells #[.string ⟨#[]⟩, .string ⟨#[]⟩, .string ⟨#[]⟩] 26 (0, 0)) := by rw [hw2]; exact (Below.heap_alloc w1 _ _ hl1).trans hR1
    rw [show (w1.alloc (Obj.cells #[Value.string X] 9)) = w2 from hw2.symm]
    clear hw2 hR1 HB1
    obtain ⟨bx, hbx⟩ : ∃ b, w1.heap.size = b := ⟨_, rfl⟩
    rw [hbx] at hcell2 hl1 hl2 ⊢
    clear hbx
    with_reducible refine (HI.out bx w2 hl2 hcell2 (Kd.C_below HC.out HB2.out)).mono ?_
    rintro e w3 ⟨rfl, hb3⟩
    have hcell3 := (hb3.cell (p := ⟨bx, 0, none⟩) hl2).trans hcell2
    have hR3 := (hb3.block w.heap.size (Nat.lt_trans hl1 hl2)).trans hR2
    have HC3 := Lib.hid (Kd.C_below (Kd.C_below HC.out HB2.out) hb3)
    have HB3 := Lib.hid (HB2.out.trans (hb3.mono HB2.out.size))
    clear hb3 hcell2 hR2 HB2 HI HC hl2
    clear HC3 hcell3
    obtain ⟨k0, k1, k2, f0, f1, f2⟩ := row3_facts hR3
    go_wp2
    refine bodyPost_ret (results_ct rfl _ _ w.heap.size 26 #[.string ⟨#[]⟩, .string ⟨#[]⟩, .string ⟨#[]⟩] (0, 0) _ rfl (blk_put (blk_put (blk_put hR3 0 _ rfl) 1 _ rfl) 2 _ rfl) Tryz.underlying26 rfl (by kernel_rfl)) rfl ?_
    exact ⟨rfl, ((HB3.out.setCell (p := ⟨w.heap.size, 0, none⟩) (Nat.le_refl _) _).setCell (p := ⟨w.heap.size, 1, none⟩) (Nat.le_refl _) _).setCell (p := ⟨w.heap.size, 2, none⟩) (Nat.le_refl _) _⟩
  · rw [Nat.zero_add] at hid
    rw [hid] at HI
    clear hid
    by_cases hx0 : x = []
    · have HF := Lib.hid (show fnd l x = (z26, false) by rw [hfn, if_pos hx0])
      rw [HF.out]
      have hXe : X.toList.isEmpty = true := by rw [hbt, hx0]; rfl
      have q : decide ((k : Int) < 0) = false := decide_eq_false (by omega)
      clear hsome hfn hbt HF
      go_enter Tryz.func10, Tryz.ntmps10
      go_wp2_with fail
      have HB0 := Lib.hid ((Below.refl w.heap.size w).alloc (Nat.le_refl _) (.cells #[.string ⟨#[]⟩, .string ⟨#[]⟩, .string ⟨#[]⟩] 26 (0, 0)))
      have hR0 := heap_alloc_new w (.cells #[.string ⟨#[]⟩, .string ⟨#[]⟩, .string ⟨#[]⟩] 26 (0, 0))
      have hRl : w.heap.size < (w.alloc (.cells #[.string ⟨#[]⟩, .string ⟨#[]⟩, .string ⟨#[]⟩] 26 (0, 0))).heap.size := by rw [World.size_alloc]; omega
      refine (HLab.out _ (HLd.out.go HB0.out)).mono ?_
      rintro e w1 ⟨rfl, hb1⟩
      have hR1 := (hb1.block _ hRl).trans hR0
      have HB1 := Lib.hid (HB0.out.trans (hb1.mono (Nat.le_of_lt hRl)))
      have hl1 : w.heap.size < w1.heap.size := Nat.lt_of_lt_of_le hRl hb1.size
      clear hb1 HB0 hR0 hRl HLab HLd
      go_wp2_with fail
      obtain ⟨w2, hw2⟩ : ∃ w2, w2 = w1.alloc (.cells #[.string X] 9 (0, 0)) := ⟨_, rfl⟩
      have hcell2 : w2.cell? ⟨w1.heap.size, 0, none⟩ = some (.string X) := by rw [hw2]; exact cell_of_one (heap_alloc_new w1 _)
      have hl2 : w1.heap.size < w2.heap.size := by rw [hw2, World.size_alloc]; omega
      have HB2 := Lib.hid (show Below w.heap.size w w2 by rw [hw2]; exact HB1.out.alloc (Nat.le_of_lt hl1) _)
      have hR2 : w2.heap[w.heap.size]? = some (.cells #[.string ⟨#[]⟩, .string ⟨#[]⟩, .string ⟨#[]⟩] 26 (0, 0)) := by rw [hw2]; exact (Below.heap_alloc w1 _ _ hl1).trans hR1
      rw [show (w1.alloc (Obj.cells #[Value.string X] 9)) = w2 from hw2.symm]
      clear hw2 hR1 HB1
      obtain ⟨bx, hbx⟩ : ∃ b, w1.heap.size = b := ⟨_, rfl⟩
      rw [hbx] at hcell2 hl1 hl2 ⊢
      clear hbx
      with_reducible refine (HI.out bx w2 hl2 hcell2 (Kd.C_below HC.out HB2.out)).mono ?_
      rintro e w3 ⟨rfl, hb3⟩
      have hcell3 := (hb3.cell (p := ⟨bx, 0, none⟩) hl2).trans hcell2
      have hR3 := (hb3.block w.heap.size (Nat.lt_trans hl1 hl2)).trans hR2
      have HC3 := Lib.hid (Kd.C_below (Kd.C_below HC.out HB2.out) hb3)
      have HB3 := Lib.hid (HB2.out.trans (hb3.mono HB2.out.size))
      clear hb3 hcell2 hR2 HB2 HI HC hl2
      clear HC3
      obtain ⟨k0, k1, k2, f0, f1, f2⟩ := row3_facts hR3
      go_wp2
      refine bodyPost_ret (results_ct rfl _ _ w.heap.size 26 #[.string ⟨#[]⟩, .string ⟨#[]⟩, .string ⟨#[]⟩] (0, 0) _ rfl (blk_put (blk_put (blk_put hR3 0 _ rfl) 1 _ rfl) 2 _ rfl) Tryz.underlying26 rfl (by kernel_rfl)) rfl ?_
      exact ⟨rfl, ((HB3.out.setCell (p := ⟨w.heap.size, 0, none⟩) (Nat.le_refl _) _).setCell (p := ⟨w.heap.size, 1, none⟩) (Nat.le_refl _) _).setCell (p := ⟨w.heap.size, 2, none⟩) (Nat.le_refl _) _⟩
    · have HF := Lib.hid (show fnd l x = (l[k]!, true) by rw [hfn, if_neg hx0, hsome])
      have hXe : X.toList.isEmpty = false := by rw [hbt]; cases x with | nil => exact absurd rfl hx0 | cons _ _ => rfl
      have q : decide ((k : Int) < 0) = false := decide_eq_false (by omega)
      clear hsome hfn hbt
      go_enter Tryz.func10, Tryz.ntmps10
      go_wp2_with fail
      have HB0 := Lib.hid ((Below.refl w.heap.size w).alloc (Nat.le_refl _) (.cells #[.string ⟨#[]⟩, .string ⟨#[]⟩, .string ⟨#[]⟩] 26 (0, 0)))
      have hR0 := heap_alloc_new w (.cells #[.string ⟨#[]⟩, .string ⟨#[]⟩, .string ⟨#[]⟩] 26 (0, 0))
      have hRl : w.heap.size < (w.alloc (.cells #[.string ⟨#[]⟩, .string ⟨#[]⟩, .string ⟨#[]⟩] 26 (0, 0))).heap.size := by rw [World.size_alloc]; omega
      refine (HLab.out _ (HLd.out.go HB0.out)).mono ?_
      rintro e w1 ⟨rfl, hb1⟩
      have hR1 := (hb1.block _ hRl).trans hR0
      have HB1 := Lib.hid (HB0.out.trans (hb1.mono (Nat.le_of_lt hRl)))
      have hl1 : w.heap.size < w1.heap.size := Nat.lt_of_lt_of_le hRl hb1.size
      clear hb1 HB0 hR0 hRl HLab HLd
      go_wp2_with fail
      obtain ⟨w2, hw2⟩ : ∃ w2, w2 = w1.alloc (.cells #[.string X] 9 (0, 0)) := ⟨_, rfl⟩
      have hcell2 : w2.cell? ⟨w1.heap.size, 0, none⟩ = some (.string X) := by rw [hw2]; exact cell_of_one (heap_alloc_new w1 _)
      have hl2 : w1.heap.size < w2.heap.size := by rw [hw2, World.size_alloc]; omega
      have HB2 := Lib.hid (show Below w.heap.size w w2 by rw [hw2]; exact HB1.out.alloc (Nat.le_of_lt hl1) _)
      have hR2 : w2.heap[w.heap.size]? = some (.cells #[.string ⟨#[]⟩, .string ⟨#[]⟩, .string ⟨#[]⟩] 26 (0, 0)) := by rw [hw2]; exact (Below.heap_alloc w1 _ _ hl1).trans hR1
      rw [show (w1.alloc (Obj.cells #[Value.string X] 9)) = w2 from hw2.symm]
      clear hw2 hR1 HB1
      obtain ⟨bx, hbx⟩ : ∃ b, w1.heap.size = b := ⟨_, rfl⟩
      rw [hbx] at hcell2 hl1 hl2 ⊢
      clear hbx
      with_reducible refine (HI.out bx w2 hl2 hcell2 (Kd.C_below HC.out HB2.out)).mono ?_
      rintro e w3 ⟨rfl, hb3⟩
      have hcell3 := (hb3.cell (p := ⟨bx, 0, none⟩) hl2).trans hcell2
      have hR3 := (hb3.block w.heap.size (Nat.lt_trans hl1 hl2)).trans hR2
      have HC3 := Lib.hid (Kd.C_below (Kd.C_below HC.out HB2.out) hb3)
      have HB3 := Lib.hid (HB2.out.trans (hb3.mono HB2.out.size))
      clear hb3 hcell2 hR2 HB2 HI HC hl2
      obtain ⟨b, off, rfl, hbl, hcs⟩ := refs_lie HC3.out (by omega)
      have d0 : w3.cell? ⟨b, off + k * 3, none⟩ = some (.string (l[k]!).f0) := hcs k hk 0 _ rfl
      have d1 : w3.cell? ⟨b, off + k * 3 + 1, none⟩ = some (.string (l[k]!).f1) := hcs k hk 1 _ rfl
      have d2 : w3.cell? ⟨b, off + k * 3 + 2, none⟩ = some (.string (l[k]!).f2) := hcs k hk 2 _ rfl
      obtain ⟨y, hy⟩ : ∃ y, l[k]! = y := ⟨_, rfl⟩
      rw [hy] at HF d0 d1 d2
      clear hcs hy HC3
      obtain ⟨k0, k1, k2, f0, f1, f2⟩ := row3_facts hR3
      go_wp2
      rw [HF.out]
      refine bodyPost_ret (results_ct rfl _ _ w.heap.size 26 #[.string y.f0, .string y.f1, .string y.f2] (0, 0) _ rfl (blk_put (blk_put (blk_put hR3 0 _ rfl) 1 _ rfl) 2 _ rfl) Tryz.underlying26 rfl (by kernel_rfl)) rfl ?_
      exact ⟨rfl, ((HB3.out.setCell (p := ⟨w.heap.size, 0, none⟩) (Nat.le_refl _) _).setCell (p := ⟨w.heap.size, 1, none⟩) (Nat.le_refl _) _).setCell (p := ⟨w.heap.size, 2, none⟩) (Nat.le_refl _) _⟩
def refs_Find.f (l0 : List S26) (a1 : ByteArray) : Option (ByteArray × ByteArray × ByteArray × Bool) := if a1.size ≤ 65536 then some ((fnd l0 (lbl a1.data.toList)).1.f0, (fnd l0 (lbl a1.data.toList)).1.f1, (fnd l0 (lbl a1.data.toList)).1.f2, (fnd l0 (lbl a1.data.toList)).2) else none
theorem refs_Find.calls (A0 : Option Addr) (c0 : Nat) (l0 : List S26) (a1 : ByteArray) (r1 r2 r3 : ByteArray) (r4 : Bool) (w : World) (hLd : Laid w) (hr0 : Kd.C k26 w A0 l0.length l0) (hc0 : l0.length ≤ c0) (h : refs_Find.f l0 a1 = some (r1, r2, r3, r4)) :
    Calls Tryz.prog 10 #[.slice A0 l0.length c0, .string a1] w fun e w' => e = .returned (.tuple #[.agg #[.string r1, .string r2, .string r3], .bool r4]) ∧ Below w.heap.size w w' := by
  unfold refs_Find.f at h
  split at h
  · rename_i hc
    have h2 := Option.some.inj h
    simp only [Prod.mk.injEq] at h2
    obtain ⟨rfl, rfl, rfl, rfl⟩ := h2
    exact find_walk A0 c0 l0 a1 w hLd hr0 hc
  · cases h
end Go.Proofs.YtekifcbokdidlaaGreatDoor.PA

namespace Go.Proofs.YtekifcbokdidlaaGreatDoor.PA
open Go.RowKit Go.Proofs.YtekifcbokdidlaaGreatDoorW.PrintWords Go.Proofs.YtekifcbokdidlaaGreatDoorW.PrintLast Go.Proofs.YtekifcbokdidlaaGreatDoorW.PrintMore
attribute [local go_sem] max2_int min2_int max_two min_two max_three min_three max_four min_four   -- for this text's walks alone
set_option linter.unusedVariables false
set_option linter.unusedSimpArgs false






/-! ### link_White: function 47 -/
def link_White.f (a0 : ByteArray) : Option (Int) := (strings_TrimLeft.f a0 (⟨#[32, 9, 10]⟩ : ByteArray)).bind fun t101 => (some (wrap64 ((a0.size : Int) - (t101.size : Int))))
set_option maxHeartbeats 8000000 in
set_option maxRecDepth 100000 in
theorem link_White.calls (a0 : ByteArray) (r : Int) (w : World) (h : link_White.f a0 = some r) :
    Calls Tryz.prog 47 #[.string a0] w fun e w' => e = .returned (.int .i64 r) ∧ Below w.heap.size w w' := by
  have HB := Aside0.mk (Below.refl w.heap.size w)
  have H : ((strings_TrimLeft.f a0 (⟨#[32, 9, 10]⟩ : ByteArray)).bind fun t101 => (some (wrap64 ((a0.size : Int) - (t101.size : Int))))) = some r := h
  clear h
  replace H := Option.bind_eq_some_iff.mp H
  obtain ⟨t101, A20, H⟩ := H
  replace H : (some (wrap64 ((a0.size : Int) - (t101.size : Int)))) = some r := H
  have A2 := Aside0.mk A20
  clear A20
  obtain rfl := Option.some.inj H
  go_enter Tryz.func47, Tryz.ntmps47
  go_wp2_with (first | ((with_reducible refine gate_callee (f := 54) rfl ?_); refine goesL_ (some 6) rfl rfl Tryz.func54 (by kernel_rfl) rfl #[.string a0, .string (⟨#[32, 9, 10]⟩ : ByteArray)] rfl (by (try simp only [List.map_toArray, List.map_cons, List.map_nil]); first | done | rfl | (simp only [List.length_drop, List.length_take]; rfl)) ?_; (with_reducible refine (strings_TrimLeft.calls a0 (⟨#[32, 9, 10]⟩ : ByteArray) t101 _ A2.out).mono ?_); rintro e w3 ⟨rfl, hb⟩; refine ⟨_, rfl, ?_⟩; have n0_ := Aside0.mk (below_step (by repeat (first | (with_reducible first | exact HB.out | apply below_alloc | apply pw_below_drewN | apply below_drew1) | exact HB.out)) hb); clear HB; have HB := n0_; clear n0_; (try clear hb); (try clear hb2); (try clear hk); (try clear hi)))
  go_ret
  exact ⟨by first | rfl | exact retNe _ | (simp [errW_none, errW_some] <;> rfl) | (simp [*, errW_none, errW_some] <;> rfl), by repeat (first | (with_reducible first | exact HB.out | apply below_alloc | apply pw_below_drewN | apply below_drew1) | exact HB.out)⟩


end Go.Proofs.YtekifcbokdidlaaGreatDoor.PA
namespace Go.Proofs.YtekifcbokdidlaaGreatDoor.PA
open Go.RowKit Go.Proofs.YtekifcbokdidlaaGreatDoorW.PrintWords Go.Proofs.YtekifcbokdidlaaGreatDoorW.PrintLast Go.Proofs.YtekifcbokdidlaaGreatDoorW.PrintMore
attribute [local go_sem] max2_int min2_int max_two min_two max_three min_three max_four min_four   -- for this text's walks alone
set_option linter.unusedVariables false
set_option linter.unusedSimpArgs false






/-! ### refs_gap: function 28 -/
def refs_gap.f (a0 : ByteArray) : Option (Int × Bool) := (link_White.f a0).bind fun t102 => (if 0 ≤ t102 then (if t102 ≤ (a0.size : Int) then ((strings_Count.f (a0.extract 0 (t102 : Int).toNat) (⟨#[10]⟩ : ByteArray)).bind fun t103 => (some (t102, decide (t103 ≤ 1)))) else (none)) else (none))
set_option maxHeartbeats 8000000 in
set_option maxRecDepth 100000 in
theorem refs_gap.calls (a0 : ByteArray) (r1 : Int) (r2 : Bool) (w : World) (h : refs_gap.f a0 = some (r1, r2)) :
    Calls Tryz.prog 28 #[.string a0] w fun e w' => e = .returned (.tuple #[.int .i64 r1, .bool r2]) ∧ Below w.heap.size w w' := by
  have HB := Aside0.mk (Below.refl w.heap.size w)
  have H : ((link_White.f a0).bind fun t102 => (if 0 ≤ t102 then (if t102 ≤ (a0.size : Int) then ((strings_Count.f (a0.extract 0 (t102 : Int).toNat) (⟨#[10]⟩ : ByteArray)).bind fun t103 => (some (t102, decide (t103 ≤ 1)))) else (none)) else (none))) = some (r1, r2) := h
  clear h
  replace H := Option.bind_eq_some_iff.mp H
  obtain ⟨t102, A20, H⟩ := H
  replace H : (if 0 ≤ t102 then (if t102 ≤ (a0.size : Int) then ((strings_Count.f (a0.extract 0 (t102 : Int).toNat) (⟨#[10]⟩ : ByteArray)).bind fun t103 => (some (t102, decide (t103 ≤ 1)))) else (none)) else (none)) = some (r1, r2) := H
  have A2 := Aside0.mk A20
  clear A20
  by_cases c3 : 0 ≤ t102
  · rw [if_pos c3] at H
    have c3b0 := eq_true c3
    have c3b1 : decide (0 ≤ t102) = true := decide_eq_true c3
    clear c3
    by_cases c4 : t102 ≤ (a0.size : Int)
    · rw [if_pos c4] at H
      have c4b0 := eq_true c4
      have c4b1 : decide (t102 ≤ (a0.size : Int)) = true := decide_eq_true c4
      clear c4
      replace H := Option.bind_eq_some_iff.mp H
      obtain ⟨t103, A50, H⟩ := H
      replace H : (some (t102, decide (t103 ≤ 1))) = some (r1, r2) := H
      have A5 := Aside0.mk A50
      clear A50
      simp only [Option.some.injEq, Prod.mk.injEq] at H
      obtain ⟨rfl, rfl⟩ := H
      go_enter Tryz.func28, Tryz.ntmps28
      go_wp2_with (first | ((with_reducible refine gate_callee (f := 47) rfl ?_); refine goesL_ (some 6) rfl rfl Tryz.func47 (by kernel_rfl) rfl #[.string a0] rfl (by (try simp only [List.map_toArray, List.map_cons, List.map_nil]); first | done | rfl | (simp only [List.length_drop, List.length_take]; rfl)) ?_; (with_reducible refine (link_White.calls a0 t102 _ A2.out).mono ?_); rintro e w6 ⟨rfl, hb⟩; refine ⟨_, rfl, ?_⟩; have n0_ := Aside0.mk (below_step (by repeat (first | (with_reducible first | exact HB.out | apply below_alloc | apply pw_below_drewN | apply below_drew1) | exact HB.out)) hb); clear HB; have HB := n0_; clear n0_; (try clear hb); (try clear hb2); (try clear hk); (try clear hi)) | ((with_reducible refine gate_callee (f := 49) rfl ?_); refine goesL_ (some 11) rfl rfl Tryz.func49 (by kernel_rfl) rfl #[.string (a0.extract 0 (t102 : Int).toNat), .string (⟨#[10]⟩ : ByteArray)] rfl (by (try simp only [List.map_toArray, List.map_cons, List.map_nil]); first | done | rfl | (simp only [List.length_drop, List.length_take]; rfl)) ?_; (with_reducible refine (strings_Count.calls (a0.extract 0 (t102 : Int).toNat) (⟨#[10]⟩ : ByteArray) t103 _ A5.out).mono ?_); rintro e w' ⟨rfl, ⟨nd, rfl⟩⟩; refine ⟨_, rfl, ?_⟩))
      go_ret2
      exact ⟨by first | rfl | exact retNe _ | (simp [errW_none, errW_some] <;> rfl) | (simp [*, errW_none, errW_some] <;> rfl), by repeat (first | (with_reducible first | exact HB.out | apply below_alloc | apply pw_below_drewN | apply below_drew1) | exact HB.out)⟩
    · rw [if_neg c4] at H
      exact absurd H (by simp)
  · rw [if_neg c3] at H
    exact absurd H (by simp)


end Go.Proofs.YtekifcbokdidlaaGreatDoor.PA
namespace Go.Proofs.YtekifcbokdidlaaGreatDoor.PA
open Go.RowKit Go.Proofs.YtekifcbokdidlaaGreatDoorW.PrintWords Go.Proofs.YtekifcbokdidlaaGreatDoorW.PrintLast Go.Proofs.YtekifcbokdidlaaGreatDoorW.PrintMore
attribute [local go_sem] max2_int min2_int max_two min_two max_three min_three max_four min_four   -- for this text's walks alone
set_option linter.unusedVariables false
set_option linter.unusedSimpArgs false






/-! ### refs_end: function 31 -/
def refs_end.f (a0 : ByteArray) : Option (Int × Bool) := (strings_TrimLeft.f a0 (⟨#[32, 9]⟩ : ByteArray)).bind fun t104 => (if t104.toList = ([] : List UInt8) then (some (wrap64 ((a0.size : Int) - (t104.size : Int)), true)) else (if 0 < (t104.size : Int) then (if (bt t104 0) = 10 then (some (wrap64 ((wrap64 ((a0.size : Int) - (t104.size : Int))) + 1), true)) else (some (0, false))) else (none)))
set_option maxHeartbeats 8000000 in
set_option maxRecDepth 100000 in
theorem refs_end.calls (a0 : ByteArray) (r1 : Int) (r2 : Bool) (w : World) (h : refs_end.f a0 = some (r1, r2)) :
    Calls Tryz.prog 31 #[.string a0] w fun e w' => e = .returned (.tuple #[.int .i64 r1, .bool r2]) ∧ Below w.heap.size w w' := by
  have HB := Aside0.mk (Below.refl w.heap.size w)
  have H : ((strings_TrimLeft.f a0 (⟨#[32, 9]⟩ : ByteArray)).bind fun t104 => (if t104.toList = ([] : List UInt8) then (some (wrap64 ((a0.size : Int) - (t104.size : Int)), true)) else (if 0 < (t104.size : Int) then (if (bt t104 0) = 10 then (some (wrap64 ((wrap64 ((a0.size : Int) - (t104.size : Int))) + 1), true)) else (some (0, false))) else (none)))) = some (r1, r2) := h
  clear h
  replace H := Option.bind_eq_some_iff.mp H
  obtain ⟨t104, A20, H⟩ := H
  replace H : (if t104.toList = ([] : List UInt8) then (some (wrap64 ((a0.size : Int) - (t104.size : Int)), true)) else (if 0 < (t104.size : Int) then (if (bt t104 0) = 10 then (some (wrap64 ((wrap64 ((a0.size : Int) - (t104.size : Int))) + 1), true)) else (some (0, false))) else (none))) = some (r1, r2) := H
  have A2 := Aside0.mk A20
  clear A20
  by_cases c3 : t104.toList = ([] : List UInt8)
  · rw [if_pos c3] at H
    have c3b0 : (t104.toList == ([] : List UInt8)) = true := beq_iff_eq.mpr c3
    have c3b1 : (t104.toList != ([] : List UInt8)) = false := bne_eq_false_iff_eq.mpr c3
    clear c3
    simp only [Option.some.injEq, Prod.mk.injEq] at H
    obtain ⟨rfl, rfl⟩ := H
    go_enter Tryz.func31, Tryz.ntmps31
    go_wp2_with (first | ((with_reducible refine gate_callee (f := 54) rfl ?_); refine goesL_ (some 7) rfl rfl Tryz.func54 (by kernel_rfl) rfl #[.string a0, .string (⟨#[32, 9]⟩ : ByteArray)] rfl (by (try simp only [List.map_toArray, List.map_cons, List.map_nil]); first | done | rfl | (simp only [List.length_drop, List.length_take]; rfl)) ?_; (with_reducible refine (strings_TrimLeft.calls a0 (⟨#[32, 9]⟩ : ByteArray) t104 _ A2.out).mono ?_); rintro e w4 ⟨rfl, hb⟩; refine ⟨_, rfl, ?_⟩; have n0_ := Aside0.mk (below_step (by repeat (first | (with_reducible first | exact HB.out | apply below_alloc | apply pw_below_drewN | apply below_drew1) | exact HB.out)) hb); clear HB; have HB := n0_; clear n0_; (try clear hb); (try clear hb2); (try clear hk); (try clear hi)))
    go_ret2
    exact ⟨by first | rfl | exact retNe _ | (simp [errW_none, errW_some] <;> rfl) | (simp [*, errW_none, errW_some] <;> rfl), by repeat (first | (with_reducible first | exact HB.out | apply below_alloc | apply pw_below_drewN | apply below_drew1) | exact HB.out)⟩
  · rw [if_neg c3] at H
    have c3b0 : (t104.toList == ([] : List UInt8)) = false := beq_eq_false_iff_ne.mpr c3
    have c3b1 : (t104.toList != ([] : List UInt8)) = true := bne_iff_ne.mpr c3
    by_cases c5 : 0 < (t104.size : Int)
    · rw [if_pos c5] at H
      have c5b0 : decide (0 < (t104.size : Int)) = true := decide_eq_true c5
      have c5b1 : decide (0 < t104.size) = true := decide_eq_true (by omega)
      clear c5
      by_cases c7 : (bt t104 0) = 10
      · rw [if_pos c7] at H
        have c7b0 : ((bt t104 0) == 10) = true := beq_iff_eq.mpr c7
        have c7b1 : ((bt t104 0) != 10) = false := bne_eq_false_iff_eq.mpr c7
        clear c7
        simp only [Option.some.injEq, Prod.mk.injEq] at H
        obtain ⟨rfl, rfl⟩ := H
        go_enter Tryz.func31, Tryz.ntmps31
        go_wp2_with (first | ((with_reducible refine gate_callee (f := 54) rfl ?_); refine goesL_ (some 7) rfl rfl Tryz.func54 (by kernel_rfl) rfl #[.string a0, .string (⟨#[32, 9]⟩ : ByteArray)] rfl (by (try simp only [List.map_toArray, List.map_cons, List.map_nil]); first | done | rfl | (simp only [List.length_drop, List.length_take]; rfl)) ?_; (with_reducible refine (strings_TrimLeft.calls a0 (⟨#[32, 9]⟩ : ByteArray) t104 _ A2.out).mono ?_); rintro e w8 ⟨rfl, hb⟩; refine ⟨_, rfl, ?_⟩; have n0_ := Aside0.mk (below_step (by repeat (first | (with_reducible first | exact HB.out | apply below_alloc | apply pw_below_drewN | apply below_drew1) | exact HB.out)) hb); clear HB; have HB := n0_; clear n0_; (try clear hb); (try clear hb2); (try clear hk); (try clear hi); have p6 : 0 ≤ (0 : Int) := (by omega); have q6 : 0 < t104.size := (by have : (0 : Int) < (t104.size : Int) := of_decide_eq_true (by first | (with_reducible assumption) | assumption); omega); have hx6 : ∀ h : 0 < t104.size, ((t104[0]'h).toNat : Int) = bt t104 0 := bt_at t104 0; clear p6; have qi6 : (0 < (t104.size : Int)) = True := eq_true (of_decide_eq_true (by first | (with_reducible assumption) | assumption)); replace q6 := eq_true q6))
        go_ret2
        exact ⟨by first | rfl | exact retNe _ | (simp [errW_none, errW_some] <;> rfl) | (simp [*, errW_none, errW_some] <;> rfl), by repeat (first | (with_reducible first | exact HB.out | apply below_alloc | apply pw_below_drewN | apply below_drew1) | exact HB.out)⟩
      · rw [if_neg c7] at H
        have c7b0 : ((bt t104 0) == 10) = false := beq_eq_false_iff_ne.mpr c7
        have c7b1 : ((bt t104 0) != 10) = true := bne_iff_ne.mpr c7
        simp only [Option.some.injEq, Prod.mk.injEq] at H
        obtain ⟨rfl, rfl⟩ := H
        go_enter Tryz.func31, Tryz.ntmps31
        go_wp2_with (first | ((with_reducible refine gate_callee (f := 54) rfl ?_); refine goesL_ (some 7) rfl rfl Tryz.func54 (by kernel_rfl) rfl #[.string a0, .string (⟨#[32, 9]⟩ : ByteArray)] rfl (by (try simp only [List.map_toArray, List.map_cons, List.map_nil]); first | done | rfl | (simp only [List.length_drop, List.length_take]; rfl)) ?_; (with_reducible refine (strings_TrimLeft.calls a0 (⟨#[32, 9]⟩ : ByteArray) t104 _ A2.out).mono ?_); rintro e w9 ⟨rfl, hb⟩; refine ⟨_, rfl, ?_⟩; have n0_ := Aside0.mk (below_step (by repeat (first | (with_reducible first | exact HB.out | apply below_alloc | apply pw_below_drewN | apply below_drew1) | exact HB.out)) hb); clear HB; have HB := n0_; clear n0_; (try clear hb); (try clear hb2); (try clear hk); (try clear hi); have p6 : 0 ≤ (0 : Int) := (by omega); have q6 : 0 < t104.size := (by have : (0 : Int) < (t104.size : Int) := of_decide_eq_true (by first | (with_reducible assumption) | assumption); omega); have hx6 : ∀ h : 0 < t104.size, ((t104[0]'h).toNat : Int) = bt t104 0 := bt_at t104 0; clear p6; have qi6 : (0 < (t104.size : Int)) = True := eq_true (of_decide_eq_true (by first | (with_reducible assumption) | assumption)); replace q6 := eq_true q6))
        go_ret2
        exact ⟨by first | rfl | exact retNe _ | (simp [errW_none, errW_some] <;> rfl) | (simp [*, errW_none, errW_some] <;> rfl), by repeat (first | (with_reducible first | exact HB.out | apply below_alloc | apply pw_below_drewN | apply below_drew1) | exact HB.out)⟩
    · rw [if_neg c5] at H
      exact absurd H (by simp)


end Go.Proofs.YtekifcbokdidlaaGreatDoor.PA
namespace Go.Proofs.YtekifcbokdidlaaGreatDoor.PA
open Go.RowKit Go.Proofs.YtekifcbokdidlaaGreatDoorW.PrintWords Go.Proofs.YtekifcbokdidlaaGreatDoorW.PrintLast Go.Proofs.YtekifcbokdidlaaGreatDoorW.PrintMore
attribute [local go_sem] max2_int min2_int max_two min_two max_three min_three max_four min_four   -- for this text's walks alone
set_option linter.unusedVariables false
set_option linter.unusedSimpArgs false






/-! ### refs_titled: function 30 -/
def refs_titled.j0 : Nat → ByteArray → Int → Bool → Option (ByteArray × Int × Bool)
  | 0, _, _, _ => none
  | k + 1, x0, x5, x20 => if x20 = true then (some ((⟨#[]⟩ : ByteArray), 0, false)) else (if 0 ≤ x5 then (if x5 ≤ (x0.size : Int) then ((link_Title.f (x0.extract (x5 : Int).toNat x0.size)).bind fun bt107 => (if bt107.2 = 0 then (some ((⟨#[]⟩ : ByteArray), 0, false)) else (if 0 ≤ (wrap64 (x5 + bt107.2)) then (if (wrap64 (x5 + bt107.2)) ≤ (x0.size : Int) then ((refs_end.f (x0.extract ((wrap64 (x5 + bt107.2)) : Int).toNat x0.size)).bind fun bt109 => (some (bt107.1, wrap64 ((wrap64 (x5 + bt107.2)) + bt109.1), bt109.2))) else (none)) else (none)))) else (none)) else (none))
def refs_titled.f (k : Nat) (a0 : ByteArray) : Option (ByteArray × Int × Bool) := (refs_gap.f a0).bind fun bt105 => (if bt105.2 = true then (refs_titled.j0 k a0 bt105.1 (bt105.1 == 0)) else (refs_titled.j0 k a0 bt105.1 true))
theorem refs_titled.mono_l : ∀ k, (∀ y0 y1 y2, LeO (refs_titled.j0 k y0 y1 y2) (refs_titled.j0 (k + 1) y0 y1 y2))
  | 0 => fun _ _ _ r h => by simp [refs_titled.j0] at h
  | k + 1 => by
    have ih0 := refs_titled.mono_l k
    · intro y0 y1 y2
      unfold refs_titled.j0
      repeat' first
      | (with_reducible exact ih0 _ _ _)
      | (with_reducible exact LeO.refl _)
      | (with_reducible exact LeO.none _)
      | (with_reducible refine LeO.ite ?_ ?_)
      | (with_reducible refine LeO.bind ?_ (fun _ => ?_))
      | exact ih0 _ _ _
      | exact LeO.none _
      | refine LeO.ite ?_ ?_
      | refine LeO.bind ?_ (fun _ => ?_)
theorem refs_titled.mono : ∀ a0 k, LeO (refs_titled.f k a0) (refs_titled.f (k + 1) a0) := by
  intro a0 k
  have ih0 := refs_titled.mono_l k
  unfold refs_titled.f
  repeat' first
      | (with_reducible exact ih0 _ _ _)
      | (with_reducible exact LeO.refl _)
      | (with_reducible exact LeO.none _)
      | (with_reducible refine LeO.ite ?_ ?_)
      | (with_reducible refine LeO.bind ?_ (fun _ => ?_))
      | exact ih0 _ _ _
      | exact LeO.none _
      | refine LeO.ite ?_ ?_
      | refine LeO.bind ?_ (fun _ => ?_)
set_option maxHeartbeats 8000000 in
set_option maxRecDepth 100000 in
theorem refs_titled.calls (k : Nat) (a0 : ByteArray) (r1 : ByteArray) (r2 : Int) (r3 : Bool) (w : World) (hLd : Laid w) (h : refs_titled.f k a0 = some (r1, r2, r3)) :
    Calls Tryz.prog 30 #[.string a0] w fun e w' => e = .returned (.tuple #[.string r1, .int .i64 r2, .bool r3]) ∧ Below w.heap.size w w' := by
  have HB := Aside0.mk (Below.refl w.heap.size w)
  have H : ((refs_gap.f a0).bind fun bt105 => (if bt105.2 = true then (refs_titled.j0 k a0 bt105.1 (bt105.1 == 0)) else (refs_titled.j0 k a0 bt105.1 true))) = some (r1, r2, r3) := h
  clear h
  replace H := Option.bind_eq_some_iff.mp H
  obtain ⟨⟨t105, t106⟩, A20, H⟩ := H
  replace H : (if t106 = true then (refs_titled.j0 k a0 t105 (t105 == 0)) else (refs_titled.j0 k a0 t105 true)) = some (r1, r2, r3) := H
  have A2 := Aside0.mk A20
  clear A20
  have HC3 := Aside0.mk H
  clear H
  go_enter Tryz.func30, Tryz.ntmps30
  go_upto_region 2 with (first | ((with_reducible refine gate_callee (f := 28) rfl ?_); refine goesL_ (some 12) rfl rfl Tryz.func28 (by kernel_rfl) rfl #[.string a0] rfl (by (try simp only [List.map_toArray, List.map_cons, List.map_nil]); first | done | rfl | (simp only [List.length_drop, List.length_take]; rfl)) ?_; (with_reducible refine (refs_gap.calls a0 t105 t106 _ A2.out).mono ?_); rintro e w4 ⟨rfl, hb⟩; refine ⟨_, rfl, ?_⟩; have n0_ := Aside0.mk (below_step (by repeat (first | (with_reducible first | exact HB.out | apply below_alloc | apply pw_below_drewN | apply below_drew1) | exact HB.out)) hb); clear HB; have HB := n0_; clear n0_; (try clear hb); (try clear hb2); (try clear hk); (try clear hi)))
  (try simp only [Act.put, List.setIfInBounds_toArray, List.set_cons_zero, List.set_cons_succ])
  go_cut [20] (fun v20 wc => ∃ (kq : Nat) (x20_2 : Bool), v20 = .bool x20_2 ∧ Aside0 (refs_titled.j0 kq a0 t105 x20_2 = some (r1, r2, r3)) ∧ Aside0 (kq ≤ k) ∧ Aside0 (Below w.heap.size w wc))
  case first =>
    have H := HC3.out
    clear HC3
    by_cases c5 : t106 = true
    · subst c5
      have H1 : (refs_titled.j0 k a0 t105 (t105 == 0)) = some (r1, r2, r3) := by rw [if_pos rfl] at H; exact H
      clear H
      have H := H1
      clear H1
      have H' := Aside0.mk H
      clear H
      go_wp2
      go_meet
      case rel => exact ⟨_, ((t105 == 0)), (by first | rfl | (simp; done) | (simp [*]; done)), H', ⟨by first | omega | exact Nat.le_refl _⟩, ⟨by repeat (first | (with_reducible first | exact HB.out | apply below_alloc | apply pw_below_drewN | apply below_drew1) | exact HB.out)⟩⟩
    · replace c5 := Bool.eq_false_iff.mpr c5
      subst c5
      have H1 : (refs_titled.j0 k a0 t105 true) = some (r1, r2, r3) := by rw [if_neg (show ¬ (false = true) by decide)] at H; exact H
      clear H
      have H := H1
      clear H1
      have H' := Aside0.mk H
      clear H
      go_wp2
      go_meet
      case rel => exact ⟨_, (true), (by first | rfl | (simp; done) | (simp [*]; done)), H', ⟨by first | omega | exact Nat.le_refl _⟩, ⟨by repeat (first | (with_reducible first | exact HB.out | apply below_alloc | apply pw_below_drewN | apply below_drew1) | exact HB.out)⟩⟩
  case rest =>
    clear HC3
    try clear c2
    try clear p2
    try clear c3
    try clear c5
    obtain ⟨kq, x20_2, rfl, HA, HJ2, HB⟩ := hcut
    cases kq with
    | zero => exact absurd HA.out (by simp [refs_titled.j0])
    | succ kj2 =>
      have H := HA.out
      clear HA
      simp only [refs_titled.j0] at H
      by_cases c6 : x20_2 = true
      · subst c6
        have H1 : (some ((⟨#[]⟩ : ByteArray), 0, false)) = some (r1, r2, r3) := by rw [if_pos rfl] at H; exact H
        clear H
        have H := H1
        clear H1
        simp only [Option.some.injEq, Prod.mk.injEq] at H
        obtain ⟨rfl, rfl, rfl⟩ := H
        go_wp2
        go_ret3
        exact ⟨by first | rfl | exact retNe _ | (simp [errW_none, errW_some] <;> rfl) | (simp [*, errW_none, errW_some] <;> rfl), by repeat (first | (with_reducible first | exact HB.out | apply below_alloc | apply pw_below_drewN | apply below_drew1) | exact HB.out)⟩
      · replace c6 := Bool.eq_false_iff.mpr c6
        subst c6
        have H1 : (if 0 ≤ t105 then (if t105 ≤ (a0.size : Int) then ((link_Title.f (a0.extract (t105 : Int).toNat a0.size)).bind fun bt107 => (if bt107.2 = 0 then (some ((⟨#[]⟩ : ByteArray), 0, false)) else (if 0 ≤ (wrap64 (t105 + bt107.2)) then (if (wrap64 (t105 + bt107.2)) ≤ (a0.size : Int) then ((refs_end.f (a0.extract ((wrap64 (t105 + bt107.2)) : Int).toNat a0.size)).bind fun bt109 => (some (bt107.1, wrap64 ((wrap64 (t105 + bt107.2)) + bt109.1), bt109.2))) else (none)) else (none)))) else (none)) else (none)) = some (r1, r2, r3) := by rw [if_neg (show ¬ (false = true) by decide)] at H; exact H
        clear H
        have H := H1
        clear H1
        by_cases c7 : 0 ≤ t105
        · rw [if_pos c7] at H
          have c7b0 := eq_true c7
          have c7b1 : decide (0 ≤ t105) = true := decide_eq_true c7
          clear c7
          by_cases c8 : t105 ≤ (a0.size : Int)
          · rw [if_pos c8] at H
            have c8b0 := eq_true c8
            have c8b1 : decide (t105 ≤ (a0.size : Int)) = true := decide_eq_true c8
            clear c8
            replace H := Option.bind_eq_some_iff.mp H
            obtain ⟨⟨t107, t108⟩, A90, H⟩ := H
            replace H : (if t108 = 0 then (some ((⟨#[]⟩ : ByteArray), 0, false)) else (if 0 ≤ (wrap64 (t105 + t108)) then (if (wrap64 (t105 + t108)) ≤ (a0.size : Int) then ((refs_end.f (a0.extract ((wrap64 (t105 + t108)) : Int).toNat a0.size)).bind fun bt109 => (some (t107, wrap64 ((wrap64 (t105 + t108)) + bt109.1), bt109.2))) else (none)) else (none))) = some (r1, r2, r3) := H
            have A9 := Aside0.mk A90
            clear A90
            by_cases c10 : t108 = 0
            · rw [if_pos c10] at H
              have c10b0 : (t108 == 0) = true := beq_iff_eq.mpr c10
              have c10b1 : (t108 != 0) = false := bne_eq_false_iff_eq.mpr c10
              clear c10
              simp only [Option.some.injEq, Prod.mk.injEq] at H
              obtain ⟨rfl, rfl, rfl⟩ := H
              go_wp2_with (first | ((with_reducible refine gate_callee (f := 53) rfl ?_); refine goesL_ (some 25) rfl rfl Tryz.func53 (by kernel_rfl) rfl #[.string (a0.extract (t105 : Int).toNat a0.size)] rfl (by (try simp only [List.map_toArray, List.map_cons, List.map_nil]); first | done | rfl | (simp only [List.length_drop, List.length_take]; rfl)) ?_; (with_reducible refine (link_Title.calls (a0.extract (t105 : Int).toNat a0.size) t107 t108 _ ?side1 A9.out).mono ?_); (case side1 => exact Laid.go hLd (by repeat (first | (with_reducible first | exact HB.out | apply below_alloc | apply pw_below_drewN | apply below_drew1) | exact HB.out))); rintro e w11 ⟨rfl, hb⟩; refine ⟨_, rfl, ?_⟩; have n0_ := Aside0.mk (below_step (by repeat (first | (with_reducible first | exact HB.out | apply below_alloc | apply pw_below_drewN | apply below_drew1) | exact HB.out)) hb); clear HB; have HB := n0_; clear n0_; (try clear hb); (try clear hb2); (try clear hk); (try clear hi)))
              go_ret3
              exact ⟨by first | rfl | exact retNe _ | (simp [errW_none, errW_some] <;> rfl) | (simp [*, errW_none, errW_some] <;> rfl), by repeat (first | (with_reducible first | exact HB.out | apply below_alloc | apply pw_below_drewN | apply below_drew1) | exact HB.out)⟩
            · rw [if_neg c10] at H
              have c10b0 : (t108 == 0) = false := beq_eq_false_iff_ne.mpr c10
              have c10b1 : (t108 != 0) = true := bne_iff_ne.mpr c10
              obtain ⟨ji12, hji12⟩ : ∃ j_ : Int, (wrap64 (t105 + t108)) = j_ := ⟨_, rfl⟩
              replace H : (if 0 ≤ (ji12) then (if (ji12) ≤ (a0.size : Int) then ((refs_end.f (a0.extract ((ji12) : Int).toNat a0.size)).bind fun bt109 => (some (t107, wrap64 ((ji12) + bt109.1), bt109.2))) else (none)) else (none)) = some (r1, r2, r3) := by first | (rw [hji12] at H; exact H) | (simp only [hji12] at H ⊢; exact H)
              (try rw [hji12] at A9)
              have hji12w : (IntKind.i64.wrap (t105 + t108)) = ji12 := (i64_w _).trans hji12
              by_cases c13 : 0 ≤ (ji12)
              · rw [if_pos c13] at H
                have c13b0 := eq_true c13
                have c13b1 : decide (0 ≤ (ji12)) = true := decide_eq_true c13
                clear c13
                by_cases c14 : (ji12) ≤ (a0.size : Int)
                · rw [if_pos c14] at H
                  have c14b0 := eq_true c14
                  have c14b1 : decide ((ji12) ≤ (a0.size : Int)) = true := decide_eq_true c14
                  clear c14
                  replace H := Option.bind_eq_some_iff.mp H
                  obtain ⟨⟨t109, t110⟩, A150, H⟩ := H
                  replace H : (some (t107, wrap64 ((ji12) + t109), t110)) = some (r1, r2, r3) := H
                  have A15 := Aside0.mk A150
                  clear A150
                  simp only [Option.some.injEq, Prod.mk.injEq] at H
                  obtain ⟨rfl, rfl, rfl⟩ := H
                  go_wp2_with (first | ((with_reducible refine gate_callee (f := 53) rfl ?_); refine goesL_ (some 25) rfl rfl Tryz.func53 (by kernel_rfl) rfl #[.string (a0.extract (t105 : Int).toNat a0.size)] rfl (by (try simp only [List.map_toArray, List.map_cons, List.map_nil]); first | done | rfl | (simp only [List.length_drop, List.length_take]; rfl)) ?_; (with_reducible refine (link_Title.calls (a0.extract (t105 : Int).toNat a0.size) t107 t108 _ ?side1 A9.out).mono ?_); (case side1 => exact Laid.go hLd (by repeat (first | (with_reducible first | exact HB.out | apply below_alloc | apply pw_below_drewN | apply below_drew1) | exact HB.out))); rintro e w16 ⟨rfl, hb⟩; refine ⟨_, rfl, ?_⟩; have n0_ := Aside0.mk (below_step (by repeat (first | (with_reducible first | exact HB.out | apply below_alloc | apply pw_below_drewN | apply below_drew1) | exact HB.out)) hb); clear HB; have HB := n0_; clear n0_; (try clear hb); (try clear hb2); (try clear hk); (try clear hi)) | ((with_reducible refine gate_callee (f := 31) rfl ?_); refine goesL_ (some 36) rfl rfl Tryz.func31 (by kernel_rfl) rfl #[.string (a0.extract ((ji12) : Int).toNat a0.size)] rfl (by (try simp only [List.map_toArray, List.map_cons, List.map_nil]); first | done | (simp only [hji12]; rfl) | rfl | (simp only [List.length_drop, List.length_take]; rfl)) ?_; (with_reducible refine (refs_end.calls (a0.extract ((ji12) : Int).toNat a0.size) t109 t110 _ A15.out).mono ?_); rintro e w17 ⟨rfl, hb⟩; refine ⟨_, rfl, ?_⟩; have n0_ := Aside0.mk (below_step (by repeat (first | (with_reducible first | exact HB.out | apply below_alloc | apply pw_below_drewN | apply below_drew1) | exact HB.out)) hb); clear HB; have HB := n0_; clear n0_; (try clear hb); (try clear hb2); (try clear hk); (try clear hi)))
                  go_ret3
                  exact ⟨by first | rfl | exact retNe _ | (simp [errW_none, errW_some] <;> rfl) | (simp only [← hji12]; first | rfl | (simp [errW_none, errW_some] <;> rfl)) | (simp [*, errW_none, errW_some] <;> rfl), by repeat (first | (with_reducible first | exact HB.out | apply below_alloc | apply pw_below_drewN | apply below_drew1) | exact HB.out)⟩
                · rw [if_neg c14] at H
                  exact absurd H (by simp)
              · rw [if_neg c13] at H
                exact absurd H (by simp)
          · rw [if_neg c8] at H
            exact absurd H (by simp)
        · rw [if_neg c7] at H
          exact absurd H (by simp)

end Go.Proofs.YtekifcbokdidlaaGreatDoor.PA
namespace Go.Proofs.YtekifcbokdidlaaGreatDoor.PA
open Go.RowKit Go.Proofs.YtekifcbokdidlaaGreatDoorW.PrintWords Go.Proofs.YtekifcbokdidlaaGreatDoorW.PrintLast Go.Proofs.YtekifcbokdidlaaGreatDoorW.PrintMore
attribute [local go_sem] max2_int min2_int max_two min_two max_three min_three max_four min_four   -- for this text's walks alone
set_option linter.unusedVariables false
set_option linter.unusedSimpArgs false






/-! ### refs_Take: function 15 -/
def refs_Take.j0 : Nat → ByteArray → ByteArray → ByteArray → Int → Bool → Option (ByteArray × ByteArray × ByteArray × Int)
  | 0, _, _, _, _, _ => none
  | k + 1, x0, x4, x6, x8, x41 => if x41 = true then (some ((⟨#[]⟩ : ByteArray), (⟨#[]⟩ : ByteArray), (⟨#[]⟩ : ByteArray), 0)) else (if 0 ≤ x8 then (if x8 ≤ (x6.size : Int) then ((link_Dest.f (x6.extract (x8 : Int).toNat x6.size)).bind fun bt118 => (if bt118.2.2 = true then (if 0 ≤ (wrap64 (x8 + bt118.2.1)) then (if (wrap64 (x8 + bt118.2.1)) ≤ (x6.size : Int) then ((class_Label.f x4).bind fun t121 => ((refs_titled.f k (x6.extract ((wrap64 (x8 + bt118.2.1)) : Int).toNat x6.size)).bind fun bt123 => (if bt123.2.2 = true then (some (t121, bt118.1, bt123.1, wrap64 ((wrap64 ((x0.size : Int) - ((x6.extract ((wrap64 (x8 + bt118.2.1)) : Int).toNat x6.size).size : Int))) + bt123.2.1))) else ((refs_end.f (x6.extract ((wrap64 (x8 + bt118.2.1)) : Int).toNat x6.size)).bind fun bt126 => (if bt126.2 = true then (some (t121, bt118.1, (⟨#[]⟩ : ByteArray), wrap64 ((wrap64 ((x0.size : Int) - ((x6.extract ((wrap64 (x8 + bt118.2.1)) : Int).toNat x6.size).size : Int))) + bt126.1))) else (some ((⟨#[]⟩ : ByteArray), (⟨#[]⟩ : ByteArray), (⟨#[]⟩ : ByteArray), 0))))))) else (none)) else (none)) else (some ((⟨#[]⟩ : ByteArray), (⟨#[]⟩ : ByteArray), (⟨#[]⟩ : ByteArray), 0)))) else (none)) else (none))
def refs_Take.f (k : Nat) (a0 : ByteArray) : Option (ByteArray × ByteArray × ByteArray × Int) := (link_Label.f a0).bind fun bt112 => (if 0 ≤ bt112.2 then (if bt112.2 ≤ (a0.size : Int) then ((strings_CutPrefix.f (a0.extract (bt112.2 : Int).toNat a0.size) (⟨#[58]⟩ : ByteArray)).bind fun bt114 => ((refs_gap.f bt114.1).bind fun bt116 => (if bt112.2 = 0 then (refs_Take.j0 k a0 bt112.1 bt114.1 bt116.1 true) else (if bt114.2 = true then (refs_Take.j0 k a0 bt112.1 bt114.1 bt116.1 (!bt116.2)) else (refs_Take.j0 k a0 bt112.1 bt114.1 bt116.1 true))))) else (none)) else (none))
theorem refs_Take.mono_l : ∀ k, (∀ y0 y1 y2 y3 y4, LeO (refs_Take.j0 k y0 y1 y2 y3 y4) (refs_Take.j0 (k + 1) y0 y1 y2 y3 y4))
  | 0 => fun _ _ _ _ _ r h => by simp [refs_Take.j0] at h
  | k + 1 => by
    have ih0 := refs_Take.mono_l k
    · intro y0 y1 y2 y3 y4
      unfold refs_Take.j0
      repeat' first
      | (with_reducible exact ih0 _ _ _ _ _)
      | (with_reducible exact refs_titled.mono _ _)
      | (with_reducible exact LeO.refl _)
      | (with_reducible exact LeO.none _)
      | (with_reducible refine LeO.ite ?_ ?_)
      | (with_reducible refine LeO.bind ?_ (fun _ => ?_))
      | exact ih0 _ _ _ _ _
      | exact refs_titled.mono _ _
      | exact LeO.none _
      | refine LeO.ite ?_ ?_
      | refine LeO.bind ?_ (fun _ => ?_)
theorem refs_Take.mono : ∀ a0 k, LeO (refs_Take.f k a0) (refs_Take.f (k + 1) a0) := by
  intro a0 k
  have ih0 := refs_Take.mono_l k
  unfold refs_Take.f
  repeat' first
      | (with_reducible exact ih0 _ _ _ _ _)
      | (with_reducible exact refs_titled.mono _ _)
      | (with_reducible exact LeO.refl _)
      | (with_reducible exact LeO.none _)
      | (with_reducible refine LeO.ite ?_ ?_)
      | (with_reducible refine LeO.bind ?_ (fun _ => ?_))
      | exact ih0 _ _ _ _ _
      | exact refs_titled.mono _ _
      | exact LeO.none _
      | refine LeO.ite ?_ ?_
      | refine LeO.bind ?_ (fun _ => ?_)
set_option maxHeartbeats 8000000 in
set_option maxRecDepth 100000 in
theorem refs_Take.calls (k : Nat) (a0 : ByteArray) (r1 : ByteArray) (r2 : ByteArray) (r3 : ByteArray) (r4 : Int) (w : World) (hLd : Laid w) (h : refs_Take.f k a0 = some (r1, r2, r3, r4)) :
    Calls Tryz.prog 15 #[.string a0] w fun e w' => e = .returned (.tuple #[.agg #[.string r1, .string r2, .string r3], .int .i64 r4]) ∧ Below w.heap.size w w' := by
  have hu26 := Tryz.underlying26
  have HB := Aside0.mk (Below.refl w.heap.size w)
  have H : ((link_Label.f a0).bind fun bt112 => (if 0 ≤ bt112.2 then (if bt112.2 ≤ (a0.size : Int) then ((strings_CutPrefix.f (a0.extract (bt112.2 : Int).toNat a0.size) (⟨#[58]⟩ : ByteArray)).bind fun bt114 => ((refs_gap.f bt114.1).bind fun bt116 => (if bt112.2 = 0 then (refs_Take.j0 k a0 bt112.1 bt114.1 bt116.1 true) else (if bt114.2 = true then (refs_Take.j0 k a0 bt112.1 bt114.1 bt116.1 (!bt116.2)) else (refs_Take.j0 k a0 bt112.1 bt114.1 bt116.1 true))))) else (none)) else (none))) = some (r1, r2, r3, r4) := h
  clear h
  replace H := Option.bind_eq_some_iff.mp H
  obtain ⟨⟨t112, t113⟩, A20, H⟩ := H
  replace H : (if 0 ≤ t113 then (if t113 ≤ (a0.size : Int) then ((strings_CutPrefix.f (a0.extract (t113 : Int).toNat a0.size) (⟨#[58]⟩ : ByteArray)).bind fun bt114 => ((refs_gap.f bt114.1).bind fun bt116 => (if t113 = 0 then (refs_Take.j0 k a0 t112 bt114.1 bt116.1 true) else (if bt114.2 = true then (refs_Take.j0 k a0 t112 bt114.1 bt116.1 (!bt116.2)) else (refs_Take.j0 k a0 t112 bt114.1 bt116.1 true))))) else (none)) else (none)) = some (r1, r2, r3, r4) := H
  have A2 := Aside0.mk A20
  clear A20
  by_cases c3 : 0 ≤ t113
  · rw [if_pos c3] at H
    have c3b0 := eq_true c3
    have c3b1 : decide (0 ≤ t113) = true := decide_eq_true c3
    clear c3
    by_cases c4 : t113 ≤ (a0.size : Int)
    · rw [if_pos c4] at H
      have c4b0 := eq_true c4
      have c4b1 : decide (t113 ≤ (a0.size : Int)) = true := decide_eq_true c4
      clear c4
      replace H := Option.bind_eq_some_iff.mp H
      obtain ⟨⟨t114, t115⟩, A50, H⟩ := H
      replace H : ((refs_gap.f t114).bind fun bt116 => (if t113 = 0 then (refs_Take.j0 k a0 t112 t114 bt116.1 true) else (if t115 = true then (refs_Take.j0 k a0 t112 t114 bt116.1 (!bt116.2)) else (refs_Take.j0 k a0 t112 t114 bt116.1 true)))) = some (r1, r2, r3, r4) := H
      have A5 := Aside0.mk A50
      clear A50
      replace H := Option.bind_eq_some_iff.mp H
      obtain ⟨⟨t116, t117⟩, A60, H⟩ := H
      replace H : (if t113 = 0 then (refs_Take.j0 k a0 t112 t114 t116 true) else (if t115 = true then (refs_Take.j0 k a0 t112 t114 t116 (!t117)) else (refs_Take.j0 k a0 t112 t114 t116 true))) = some (r1, r2, r3, r4) := H
      have A6 := Aside0.mk A60
      clear A60
      have HC7 := Aside0.mk H
      clear H
      go_enter Tryz.func15, Tryz.ntmps15
      go_upto_region 4 with (first | ((with_reducible refine gate_dst (N := 2) rfl ?_); refine box_event ?hg (N := 2) ?hd (cs := #[.string (⟨#[]⟩ : ByteArray), .string (⟨#[]⟩ : ByteArray), .string (⟨#[]⟩ : ByteArray)]) (t := 26) ?hr ?_; (case hd => rfl); (case hg => rfl); (case hr => first | (go_simp; done) | (go_simp; rfl)); intro gb111 hg w8 hbox hb; have n0_ := Aside0.mk (below_step (by repeat (first | (with_reducible first | exact HB.out | apply below_alloc | apply pw_below_drewN | apply below_drew1) | exact HB.out)) hb); have n1_ := Aside0.mk (hbox); have n2_ := Aside0.mk ((by rw [hg]; exact (below_size (by repeat (first | (with_reducible first | exact HB.out | apply below_alloc | apply pw_below_drewN | apply below_drew1) | exact HB.out))) : w.heap.size ≤ gb111)); have n3_ := Aside0.mk ((by rw [hg]; exact (below_size (by repeat (first | (with_reducible first | exact HB.out | apply below_alloc | apply pw_below_drewN | apply below_drew1) | exact HB.out))) : w.heap.size ≤ gb111)); clear HB; have HB := n0_; have BK111 := n1_; have GW111 := n2_; have GE111 := n3_; clear n0_ n1_ n2_ n3_; clear hb hbox hg) | ((with_reducible refine gate_callee (f := 26) rfl ?_); refine goesL_ (some 17) rfl rfl Tryz.func26 (by kernel_rfl) rfl #[.string a0] rfl (by (try simp only [List.map_toArray, List.map_cons, List.map_nil]); first | done | rfl | (simp only [List.length_drop, List.length_take]; rfl)) ?_; (with_reducible refine (link_Label.calls a0 t112 t113 _ A2.out).mono ?_); rintro e w9 ⟨rfl, hb⟩; refine ⟨_, rfl, ?_⟩; have n0_ := Aside0.mk (blk_below (g := gb111) (o := .cells #[.string (⟨#[]⟩ : ByteArray), .string (⟨#[]⟩ : ByteArray), .string (⟨#[]⟩ : ByteArray)] 26 (0, 0)) (by (with_reducible repeat (first | refine blk_drewN ?_ _ | refine blk_drew ?_ | refine blk_alloc ?_ _)); exact BK111.out) hb); have n1_ := Aside0.mk (below_step (by repeat (first | (with_reducible first | exact HB.out | apply below_alloc | apply pw_below_drewN | apply below_drew1 | refine below_set ?_ GE111.out) | exact HB.out)) hb); clear BK111; clear HB; have BK111 := n0_; have HB := n1_; clear n0_ n1_; (try clear hb); (try clear hb2); (try clear hk); (try clear hi)) | ((with_reducible refine gate_callee (f := 27) rfl ?_); refine goesL_ (some 24) rfl rfl Tryz.func27 (by kernel_rfl) rfl #[.string (a0.extract (t113 : Int).toNat a0.size), .string (⟨#[58]⟩ : ByteArray)] rfl (by (try simp only [List.map_toArray, List.map_cons, List.map_nil]); first | done | rfl | (simp only [List.length_drop, List.length_take]; rfl)) ?_; (with_reducible refine (strings_CutPrefix.calls (a0.extract (t113 : Int).toNat a0.size) (⟨#[58]⟩ : ByteArray) t114 t115 _ A5.out).mono ?_); rintro e w' ⟨rfl, ⟨nd, rfl⟩⟩; refine ⟨_, rfl, ?_⟩) | ((with_reducible refine gate_callee (f := 28) rfl ?_); refine goesL_ (some 29) rfl rfl Tryz.func28 (by kernel_rfl) rfl #[.string t114] rfl (by (try simp only [List.map_toArray, List.map_cons, List.map_nil]); first | done | rfl | (simp only [List.length_drop, List.length_take]; rfl)) ?_; (with_reducible refine (refs_gap.calls t114 t116 t117 _ A6.out).mono ?_); rintro e w10 ⟨rfl, hb⟩; refine ⟨_, rfl, ?_⟩; have n0_ := Aside0.mk (blk_below (g := gb111) (o := .cells #[.string (⟨#[]⟩ : ByteArray), .string (⟨#[]⟩ : ByteArray), .string (⟨#[]⟩ : ByteArray)] 26 (0, 0)) (by (with_reducible repeat (first | refine blk_drewN ?_ _ | refine blk_drew ?_ | refine blk_alloc ?_ _)); exact BK111.out) hb); have n1_ := Aside0.mk (below_step (by repeat (first | (with_reducible first | exact HB.out | apply below_alloc | apply pw_below_drewN | apply below_drew1 | refine below_set ?_ GE111.out) | exact HB.out)) hb); clear BK111; clear HB; have BK111 := n0_; have HB := n1_; clear n0_ n1_; (try clear hb); (try clear hb2); (try clear hk); (try clear hi)))
      (try simp only [Act.put, List.setIfInBounds_toArray, List.set_cons_zero, List.set_cons_succ])
      go_cut [41] (fun v41 wc => ∃ (kq : Nat) (x41_6 : Bool), v41 = .bool x41_6 ∧ Aside0 (refs_Take.j0 kq a0 t112 t114 t116 x41_6 = some (r1, r2, r3, r4)) ∧ Aside0 (kq ≤ k) ∧ Aside0 (wc.heap[gb111]? = some (.cells #[.string (⟨#[]⟩ : ByteArray), .string (⟨#[]⟩ : ByteArray), .string (⟨#[]⟩ : ByteArray)] 26 (0, 0))) ∧ Aside0 (Below w.heap.size w wc))
      case first =>
        have H := HC7.out
        clear HC7
        by_cases c11 : t113 = 0
        · rw [if_pos c11] at H
          have c11b0 : (t113 == 0) = true := beq_iff_eq.mpr c11
          have c11b1 : (t113 != 0) = false := bne_eq_false_iff_eq.mpr c11
          clear c11
          (first | rw [c11b0] | (simp only [i64_w, i32_w]; rw [c11b0]) | skip)
          have H' := Aside0.mk H
          clear H
          go_wp2
          go_meet
          case rel => exact ⟨_, (true), (by first | rfl | (simp; done) | (simp [*]; done)), H', ⟨by first | omega | exact Nat.le_refl _⟩, ⟨by (with_reducible repeat (first | refine blk_drewN ?_ _ | refine blk_drew ?_ | refine blk_alloc ?_ _)); exact BK111.out⟩, ⟨by repeat (first | (with_reducible first | exact HB.out | apply below_alloc | apply pw_below_drewN | apply below_drew1 | refine below_set ?_ GE111.out) | exact HB.out)⟩⟩
        · rw [if_neg c11] at H
          have c11b0 : (t113 == 0) = false := beq_eq_false_iff_ne.mpr c11
          have c11b1 : (t113 != 0) = true := bne_iff_ne.mpr c11
          (first | rw [c11b0] | (simp only [i64_w, i32_w]; rw [c11b0]) | skip)
          by_cases c12 : t115 = true
          · subst c12
            have H1 : (refs_Take.j0 k a0 t112 t114 t116 (!t117)) = some (r1, r2, r3, r4) := by rw [if_pos rfl] at H; exact H
            clear H
            have H := H1
            clear H1
            have H' := Aside0.mk H
            clear H
            go_wp2
            go_meet
            case rel => exact ⟨_, (!t117), (by first | rfl | (simp; done) | (simp [*]; done)), H', ⟨by first | omega | exact Nat.le_refl _⟩, ⟨by (with_reducible repeat (first | refine blk_drewN ?_ _ | refine blk_drew ?_ | refine blk_alloc ?_ _)); exact BK111.out⟩, ⟨by repeat (first | (with_reducible first | exact HB.out | apply below_alloc | apply pw_below_drewN | apply below_drew1 | refine below_set ?_ GE111.out) | exact HB.out)⟩⟩
          · replace c12 := Bool.eq_false_iff.mpr c12
            subst c12
            have H1 : (refs_Take.j0 k a0 t112 t114 t116 true) = some (r1, r2, r3, r4) := by rw [if_neg (show ¬ (false = true) by decide)] at H; exact H
            clear H
            have H := H1
            clear H1
            have H' := Aside0.mk H
            clear H
            go_wp2
            go_meet
            case rel => exact ⟨_, (true), (by first | rfl | (simp; done) | (simp [*]; done)), H', ⟨by first | omega | exact Nat.le_refl _⟩, ⟨by (with_reducible repeat (first | refine blk_drewN ?_ _ | refine blk_drew ?_ | refine blk_alloc ?_ _)); exact BK111.out⟩, ⟨by repeat (first | (with_reducible first | exact HB.out | apply below_alloc | apply pw_below_drewN | apply below_drew1 | refine below_set ?_ GE111.out) | exact HB.out)⟩⟩
      case rest =>
        clear HC7
        try clear c1
        try clear c2
        try clear p2
        try clear c3
        try clear c3b0
        try clear c3b1
        try clear c4
        try clear c4b0
        try clear c4b1
        try clear c11
        try clear c11b0
        try clear c11b1
        try clear c12
        obtain ⟨kq, x41_6, rfl, HA, HJ6, BK111, HB⟩ := hcut
        cases kq with
        | zero => exact absurd HA.out (by simp [refs_Take.j0])
        | succ kj6 =>
          have H := HA.out
          clear HA
          simp only [refs_Take.j0] at H
          by_cases c13 : x41_6 = true
          · subst c13
            have H1 : (some ((⟨#[]⟩ : ByteArray), (⟨#[]⟩ : ByteArray), (⟨#[]⟩ : ByteArray), 0)) = some (r1, r2, r3, r4) := by rw [if_pos rfl] at H; exact H
            clear H
            have H := H1
            clear H1
            simp only [Option.some.injEq, Prod.mk.injEq] at H
            obtain ⟨rfl, rfl, rfl, rfl⟩ := H
            have hcz14_0 : wc.cell? ⟨gb111, 0, none⟩ = some (.string (⟨#[]⟩ : ByteArray)) := (blk_cell BK111.out 0).trans rfl
            have hcz14_1 : wc.cell? ⟨gb111, 1, none⟩ = some (.string (⟨#[]⟩ : ByteArray)) := (blk_cell BK111.out 1).trans rfl
            have hcz14_2 : wc.cell? ⟨gb111, 2, none⟩ = some (.string (⟨#[]⟩ : ByteArray)) := (blk_cell BK111.out 2).trans rfl
            have hfz14_0 := blk_frozen BK111.out 0
            have hfz14_1 := blk_frozen BK111.out 1
            have hfz14_2 := blk_frozen BK111.out 2
            go_wp2
            refine bodyPost_ret (results_ct rfl _ _ gb111 26 #[.string (⟨#[]⟩ : ByteArray), .string (⟨#[]⟩ : ByteArray), .string (⟨#[]⟩ : ByteArray)] (0, 0) _ rfl (by (with_reducible repeat (first | refine blk_drewN ?_ _ | refine blk_drew ?_ | refine blk_alloc ?_ _)); refine blk_put (cs := #[.string (⟨#[]⟩ : ByteArray), .string (⟨#[]⟩ : ByteArray), .string (⟨#[]⟩ : ByteArray)]) ?_ 2 _ rfl; (with_reducible repeat (first | refine blk_drewN ?_ _ | refine blk_drew ?_ | refine blk_alloc ?_ _)); refine blk_put (cs := #[.string (⟨#[]⟩ : ByteArray), .string (⟨#[]⟩ : ByteArray), .string (⟨#[]⟩ : ByteArray)]) ?_ 1 _ rfl; (with_reducible repeat (first | refine blk_drewN ?_ _ | refine blk_drew ?_ | refine blk_alloc ?_ _)); refine blk_put (cs := #[.string (⟨#[]⟩ : ByteArray), .string (⟨#[]⟩ : ByteArray), .string (⟨#[]⟩ : ByteArray)]) ?_ 0 _ rfl; (with_reducible repeat (first | refine blk_drewN ?_ _ | refine blk_drew ?_ | refine blk_alloc ?_ _)); exact BK111.out) Tryz.underlying26 rfl (by kernel_rfl)) rfl ?_
            exact ⟨by first | rfl | exact retNe _ | (simp [errW_none, errW_some] <;> rfl) | (simp [*, errW_none, errW_some] <;> rfl), by repeat (first | (with_reducible first | exact HB.out | apply below_alloc | apply pw_below_drewN | apply below_drew1 | refine below_set ?_ GE111.out) | exact HB.out)⟩
          · replace c13 := Bool.eq_false_iff.mpr c13
            subst c13
            have H1 : (if 0 ≤ t116 then (if t116 ≤ (t114.size : Int) then ((link_Dest.f (t114.extract (t116 : Int).toNat t114.size)).bind fun bt118 => (if bt118.2.2 = true then (if 0 ≤ (wrap64 (t116 + bt118.2.1)) then (if (wrap64 (t116 + bt118.2.1)) ≤ (t114.size : Int) then ((class_Label.f t112).bind fun t121 => ((refs_titled.f kj6 (t114.extract ((wrap64 (t116 + bt118.2.1)) : Int).toNat t114.size)).bind fun bt123 => (if bt123.2.2 = true then (some (t121, bt118.1, bt123.1, wrap64 ((wrap64 ((a0.size : Int) - ((t114.extract ((wrap64 (t116 + bt118.2.1)) : Int).toNat t114.size).size : Int))) + bt123.2.1))) else ((refs_end.f (t114.extract ((wrap64 (t116 + bt118.2.1)) : Int).toNat t114.size)).bind fun bt126 => (if bt126.2 = true then (some (t121, bt118.1, (⟨#[]⟩ : ByteArray), wrap64 ((wrap64 ((a0.size : Int) - ((t114.extract ((wrap64 (t116 + bt118.2.1)) : Int).toNat t114.size).size : Int))) + bt126.1))) else (some ((⟨#[]⟩ : ByteArray), (⟨#[]⟩ : ByteArray), (⟨#[]⟩ : ByteArray), 0))))))) else (none)) else (none)) else (some ((⟨#[]⟩ : ByteArray), (⟨#[]⟩ : ByteArray), (⟨#[]⟩ : ByteArray), 0)))) else (none)) else (none)) = some (r1, r2, r3, r4) := by rw [if_neg (show ¬ (false = true) by decide)] at H; exact H
            clear H
            have H := H1
            clear H1
            by_cases c15 : 0 ≤ t116
            · rw [if_pos c15] at H
              have c15b0 := eq_true c15
              have c15b1 : decide (0 ≤ t116) = true := decide_eq_true c15
              clear c15
              by_cases c16 : t116 ≤ (t114.size : Int)
              · rw [if_pos c16] at H
                have c16b0 := eq_true c16
                have c16b1 : decide (t116 ≤ (t114.size : Int)) = true := decide_eq_true c16
                clear c16
                replace H := Option.bind_eq_some_iff.mp H
                obtain ⟨⟨t118, t119, t120⟩, A170, H⟩ := H
                replace H : (if t120 = true then (if 0 ≤ (wrap64 (t116 + t119)) then (if (wrap64 (t116 + t119)) ≤ (t114.size : Int) then ((class_Label.f t112).bind fun t121 => ((refs_titled.f kj6 (t114.extract ((wrap64 (t116 + t119)) : Int).toNat t114.size)).bind fun bt123 => (if bt123.2.2 = true then (some (t121, t118, bt123.1, wrap64 ((wrap64 ((a0.size : Int) - ((t114.extract ((wrap64 (t116 + t119)) : Int).toNat t114.size).size : Int))) + bt123.2.1))) else ((refs_end.f (t114.extract ((wrap64 (t116 + t119)) : Int).toNat t114.size)).bind fun bt126 => (if bt126.2 = true then (some (t121, t118, (⟨#[]⟩ : ByteArray), wrap64 ((wrap64 ((a0.size : Int) - ((t114.extract ((wrap64 (t116 + t119)) : Int).toNat t114.size).size : Int))) + bt126.1))) else (some ((⟨#[]⟩ : ByteArray), (⟨#[]⟩ : ByteArray), (⟨#[]⟩ : ByteArray), 0))))))) else (none)) else (none)) else (some ((⟨#[]⟩ : ByteArray), (⟨#[]⟩ : ByteArray), (⟨#[]⟩ : ByteArray), 0))) = some (r1, r2, r3, r4) := H
                have A17 := Aside0.mk A170
                clear A170
                by_cases c18 : t120 = true
                · subst c18
                  have H1 : (if 0 ≤ (wrap64 (t116 + t119)) then (if (wrap64 (t116 + t119)) ≤ (t114.size : Int) then ((class_Label.f t112).bind fun t121 => ((refs_titled.f kj6 (t114.extract ((wrap64 (t116 + t119)) : Int).toNat t114.size)).bind fun bt123 => (if bt123.2.2 = true then (some (t121, t118, bt123.1, wrap64 ((wrap64 ((a0.size : Int) - ((t114.extract ((wrap64 (t116 + t119)) : Int).toNat t114.size).size : Int))) + bt123.2.1))) else ((refs_end.f (t114.extract ((wrap64 (t116 + t119)) : Int).toNat t114.size)).bind fun bt126 => (if bt126.2 = true then (some (t121, t118, (⟨#[]⟩ : ByteArray), wrap64 ((wrap64 ((a0.size : Int) - ((t114.extract ((wrap64 (t116 + t119)) : Int).toNat t114.size).size : Int))) + bt126.1))) else (some ((⟨#[]⟩ : ByteArray), (⟨#[]⟩ : ByteArray), (⟨#[]⟩ : ByteArray), 0))))))) else (none)) else (none)) = some (r1, r2, r3, r4) := by rw [if_pos rfl] at H; exact H
                  clear H
                  have H := H1
                  clear H1
                  obtain ⟨ji19, hji19⟩ : ∃ j_ : Int, (wrap64 (t116 + t119)) = j_ := ⟨_, rfl⟩
                  replace H : (if 0 ≤ (ji19) then (if (ji19) ≤ (t114.size : Int) then ((class_Label.f t112).bind fun t121 => ((refs_titled.f kj6 (t114.extract ((ji19) : Int).toNat t114.size)).bind fun bt123 => (if bt123.2.2 = true then (some (t121, t118, bt123.1, wrap64 ((wrap64 ((a0.size : Int) - ((t114.extract ((ji19) : Int).toNat t114.size).size : Int))) + bt123.2.1))) else ((refs_end.f (t114.extract ((ji19) : Int).toNat t114.size)).bind fun bt126 => (if bt126.2 = true then (some (t121, t118, (⟨#[]⟩ : ByteArray), wrap64 ((wrap64 ((a0.size : Int) - ((t114.extract ((ji19) : Int).toNat t114.size).size : Int))) + bt126.1))) else (some ((⟨#[]⟩ : ByteArray), (⟨#[]⟩ : ByteArray), (⟨#[]⟩ : ByteArray), 0))))))) else (none)) else (none)) = some (r1, r2, r3, r4) := by first | (rw [hji19] at H; exact H) | (simp only [hji19] at H ⊢; exact H)
                  (try rw [hji19] at A17)
                  have hji19w : (IntKind.i64.wrap (t116 + t119)) = ji19 := (i64_w _).trans hji19
                  by_cases c20 : 0 ≤ (ji19)
                  · rw [if_pos c20] at H
                    have c20b0 := eq_true c20
                    have c20b1 : decide (0 ≤ (ji19)) = true := decide_eq_true c20
                    clear c20
                    by_cases c21 : (ji19) ≤ (t114.size : Int)
                    · rw [if_pos c21] at H
                      have c21b0 := eq_true c21
                      have c21b1 : decide ((ji19) ≤ (t114.size : Int)) = true := decide_eq_true c21
                      clear c21
                      replace H := Option.bind_eq_some_iff.mp H
                      obtain ⟨t121, A220, H⟩ := H
                      replace H : ((refs_titled.f kj6 (t114.extract ((ji19) : Int).toNat t114.size)).bind fun bt123 => (if bt123.2.2 = true then (some (t121, t118, bt123.1, wrap64 ((wrap64 ((a0.size : Int) - ((t114.extract ((ji19) : Int).toNat t114.size).size : Int))) + bt123.2.1))) else ((refs_end.f (t114.extract ((ji19) : Int).toNat t114.size)).bind fun bt126 => (if bt126.2 = true then (some (t121, t118, (⟨#[]⟩ : ByteArray), wrap64 ((wrap64 ((a0.size : Int) - ((t114.extract ((ji19) : Int).toNat t114.size).size : Int))) + bt126.1))) else (some ((⟨#[]⟩ : ByteArray), (⟨#[]⟩ : ByteArray), (⟨#[]⟩ : ByteArray), 0)))))) = some (r1, r2, r3, r4) := H
                      have A22 := Aside0.mk A220
                      clear A220
                      replace H := Option.bind_eq_some_iff.mp H
                      obtain ⟨⟨t123, t124, t125⟩, A230, H⟩ := H
                      replace H : (if t125 = true then (some (t121, t118, t123, wrap64 ((wrap64 ((a0.size : Int) - ((t114.extract ((ji19) : Int).toNat t114.size).size : Int))) + t124))) else ((refs_end.f (t114.extract ((ji19) : Int).toNat t114.size)).bind fun bt126 => (if bt126.2 = true then (some (t121, t118, (⟨#[]⟩ : ByteArray), wrap64 ((wrap64 ((a0.size : Int) - ((t114.extract ((ji19) : Int).toNat t114.size).size : Int))) + bt126.1))) else (some ((⟨#[]⟩ : ByteArray), (⟨#[]⟩ : ByteArray), (⟨#[]⟩ : ByteArray), 0))))) = some (r1, r2, r3, r4) := H
                      have A23 := Aside0.mk A230
                      clear A230
                      by_cases c24 : t125 = true
                      · subst c24
                        have H1 : (some (t121, t118, t123, wrap64 ((wrap64 ((a0.size : Int) - ((t114.extract ((ji19) : Int).toNat t114.size).size : Int))) + t124))) = some (r1, r2, r3, r4) := by rw [if_pos rfl] at H; exact H
                        clear H
                        have H := H1
                        clear H1
                        simp only [Option.some.injEq, Prod.mk.injEq] at H
                        obtain ⟨rfl, rfl, rfl, rfl⟩ := H
                        go_wp2_with (first | ((with_reducible refine gate_callee (f := 29) rfl ?_); refine goesL_ (some 47) rfl rfl Tryz.func29 (by kernel_rfl) rfl #[.string (t114.extract (t116 : Int).toNat t114.size)] rfl (by (try simp only [List.map_toArray, List.map_cons, List.map_nil]); first | done | rfl | (simp only [List.length_drop, List.length_take]; rfl)) ?_; (with_reducible refine (link_Dest.calls (t114.extract (t116 : Int).toNat t114.size) t118 t119 true _ ?side1 A17.out).mono ?_); (case side1 => exact Laid.go hLd (by repeat (first | (with_reducible first | exact HB.out | apply below_alloc | apply pw_below_drewN | apply below_drew1 | refine below_set ?_ GE111.out) | exact HB.out))); rintro e w25 ⟨rfl, hb⟩; refine ⟨_, rfl, ?_⟩; have n0_ := Aside0.mk (blk_below (g := gb111) (o := .cells #[.string (⟨#[]⟩ : ByteArray), .string (⟨#[]⟩ : ByteArray), .string (⟨#[]⟩ : ByteArray)] 26 (0, 0)) (by (with_reducible repeat (first | refine blk_drewN ?_ _ | refine blk_drew ?_ | refine blk_alloc ?_ _)); exact BK111.out) hb); have n1_ := Aside0.mk (below_step (by repeat (first | (with_reducible first | exact HB.out | apply below_alloc | apply pw_below_drewN | apply below_drew1 | refine below_set ?_ GE111.out) | exact HB.out)) hb); clear BK111; clear HB; have BK111 := n0_; have HB := n1_; clear n0_ n1_; (try clear hb); (try clear hb2); (try clear hk); (try clear hi)) | ((with_reducible refine gate_callee (f := 19) rfl ?_); refine goesL_ (some 60) rfl rfl Tryz.func19 (by kernel_rfl) rfl #[.string t112] rfl (by (try simp only [List.map_toArray, List.map_cons, List.map_nil]); first | done | rfl | (simp only [List.length_drop, List.length_take]; rfl)) ?_; (with_reducible refine (class_Label.calls t112 t121 _ ?side1 A22.out).mono ?_); (case side1 => exact Laid.go hLd (by repeat (first | (with_reducible first | exact HB.out | apply below_alloc | apply pw_below_drewN | apply below_drew1 | refine below_set ?_ GE111.out) | exact HB.out))); rintro e w26 ⟨rfl, hb⟩; refine ⟨_, rfl, ?_⟩; have n0_ := Aside0.mk (blk_below (g := gb111) (o := .cells #[.string (⟨#[]⟩ : ByteArray), .string (⟨#[]⟩ : ByteArray), .string (⟨#[]⟩ : ByteArray)] 26 (0, 0)) (by (with_reducible repeat (first | refine blk_drewN ?_ _ | refine blk_drew ?_ | refine blk_alloc ?_ _)); exact BK111.out) hb); have n1_ := Aside0.mk (below_step (by repeat (first | (with_reducible first | exact HB.out | apply below_alloc | apply pw_below_drewN | apply below_drew1 | refine below_set ?_ GE111.out) | exact HB.out)) hb); clear BK111; clear HB; have BK111 := n0_; have HB := n1_; clear n0_ n1_; (try clear hb); (try clear hb2); (try clear hk); (try clear hi)) | ((with_reducible refine gate_dst (N := 12) rfl ?_); refine box_event ?hg (N := 12) ?hd (cs := #[.string (⟨#[]⟩ : ByteArray), .string (⟨#[]⟩ : ByteArray), .string (⟨#[]⟩ : ByteArray)]) (t := 26) ?hr ?_; (case hd => rfl); (case hg => rfl); (case hr => first | (go_simp; done) | (go_simp; rfl)); intro gb122 hg w27 hbox hb; have n0_ := Aside0.mk (blk_below (g := gb111) (o := .cells #[.string (⟨#[]⟩ : ByteArray), .string (⟨#[]⟩ : ByteArray), .string (⟨#[]⟩ : ByteArray)] 26 (0, 0)) (by (with_reducible repeat (first | refine blk_drewN ?_ _ | refine blk_drew ?_ | refine blk_alloc ?_ _)); exact BK111.out) hb); have n1_ := Aside0.mk (below_step (by repeat (first | (with_reducible first | exact HB.out | apply below_alloc | apply pw_below_drewN | apply below_drew1 | refine below_set ?_ GE111.out) | exact HB.out)) hb); have n2_ := Aside0.mk (hbox); have n3_ := Aside0.mk ((by rw [hg]; exact (below_size (by repeat (first | (with_reducible first | exact HB.out | apply below_alloc | apply pw_below_drewN | apply below_drew1 | refine below_set ?_ GE111.out) | exact HB.out))) : w.heap.size ≤ gb122)); have n4_ := Aside0.mk ((by rw [hg]; exact (below_size (by repeat (first | (with_reducible first | exact HB.out | apply below_alloc | apply pw_below_drewN | apply below_drew1 | refine below_set ?_ GE111.out) | exact HB.out))) : w.heap.size ≤ gb122)); have n5_ := Aside0.mk ((by rw [hg]; exact Nat.ne_of_lt (blk_lt (g := gb111) (o := .cells #[.string (⟨#[]⟩ : ByteArray), .string (⟨#[]⟩ : ByteArray), .string (⟨#[]⟩ : ByteArray)] 26 (0, 0)) (by (with_reducible repeat (first | refine blk_drewN ?_ _ | refine blk_drew ?_ | refine blk_alloc ?_ _)); exact BK111.out)) : gb111 ≠ gb122)); have n6_ := Aside0.mk ((by rw [hg]; exact Nat.ne_of_gt (blk_lt (g := gb111) (o := .cells #[.string (⟨#[]⟩ : ByteArray), .string (⟨#[]⟩ : ByteArray), .string (⟨#[]⟩ : ByteArray)] 26 (0, 0)) (by (with_reducible repeat (first | refine blk_drewN ?_ _ | refine blk_drew ?_ | refine blk_alloc ?_ _)); exact BK111.out)) : gb122 ≠ gb111)); clear BK111; clear HB; have BK111 := n0_; have HB := n1_; have BK122 := n2_; have GW122 := n3_; have GE122 := n4_; have NB111_122 := n5_; have NB122_111 := n6_; clear n0_ n1_ n2_ n3_ n4_ n5_ n6_; clear hb hbox hg; have hnb28 := NB122_111.out; have hnc28 := NB111_122.out; have hcz29_0 : w27.cell? ⟨gb122, 0, none⟩ = some (.string (⟨#[]⟩ : ByteArray)) := (blk_cell BK122.out 0).trans rfl; have hcz29_1 : w27.cell? ⟨gb122, 1, none⟩ = some (.string (⟨#[]⟩ : ByteArray)) := (blk_cell BK122.out 1).trans rfl; have hcz29_2 : w27.cell? ⟨gb122, 2, none⟩ = some (.string (⟨#[]⟩ : ByteArray)) := (blk_cell BK122.out 2).trans rfl; have hfz29_0 := blk_frozen BK122.out 0; have hfz29_1 := blk_frozen BK122.out 1; have hfz29_2 := blk_frozen BK122.out 2) | ((with_reducible refine gate_callee (f := 30) rfl ?_); refine goesL_ (some 65) rfl rfl Tryz.func30 (by kernel_rfl) rfl #[.string (t114.extract ((ji19) : Int).toNat t114.size)] rfl (by (try simp only [List.map_toArray, List.map_cons, List.map_nil]); first | done | (simp only [hji19]; rfl) | rfl | (simp only [List.length_drop, List.length_take]; rfl)) ?_; (with_reducible refine (refs_titled.calls kj6 (t114.extract ((ji19) : Int).toNat t114.size) t123 t124 true _ ?side1 A23.out).mono ?_); (case side1 => exact Laid.go hLd (by repeat (first | (with_reducible first | exact HB.out | apply below_alloc | apply pw_below_drewN | apply below_drew1 | refine below_set ?_ GE111.out | refine below_set ?_ GE122.out) | exact HB.out))); rintro e w30 ⟨rfl, hb⟩; refine ⟨_, rfl, ?_⟩; have n0_ := Aside0.mk (blk_below (g := gb111) (o := .cells #[.string (⟨#[]⟩ : ByteArray), .string (⟨#[]⟩ : ByteArray), .string (⟨#[]⟩ : ByteArray)] 26 (0, 0)) (by (with_reducible repeat (first | refine blk_drewN ?_ _ | refine blk_drew ?_ | refine blk_alloc ?_ _)); refine blk_far ?_ NB111_122.out _; (with_reducible repeat (first | refine blk_drewN ?_ _ | refine blk_drew ?_ | refine blk_alloc ?_ _)); refine blk_far ?_ NB111_122.out _; (with_reducible repeat (first | refine blk_drewN ?_ _ | refine blk_drew ?_ | refine blk_alloc ?_ _)); refine blk_far ?_ NB111_122.out _; (with_reducible repeat (first | refine blk_drewN ?_ _ | refine blk_drew ?_ | refine blk_alloc ?_ _)); exact BK111.out) hb); have n1_ := Aside0.mk (blk_below (g := gb122) (o := .cells #[.string t121, .string t118, .string (⟨#[]⟩ : ByteArray)] 26 (0, 0)) (by (with_reducible repeat (first | refine blk_drewN ?_ _ | refine blk_drew ?_ | refine blk_alloc ?_ _)); refine blk_put (cs := #[.string t121, .string t118, .string (⟨#[]⟩ : ByteArray)]) ?_ 2 _ rfl; (with_reducible repeat (first | refine blk_drewN ?_ _ | refine blk_drew ?_ | refine blk_alloc ?_ _)); refine blk_put (cs := #[.string t121, .string (⟨#[]⟩ : ByteArray), .string (⟨#[]⟩ : ByteArray)]) ?_ 1 _ rfl; (with_reducible repeat (first | refine blk_drewN ?_ _ | refine blk_drew ?_ | refine blk_alloc ?_ _)); refine blk_put (cs := #[.string (⟨#[]⟩ : ByteArray), .string (⟨#[]⟩ : ByteArray), .string (⟨#[]⟩ : ByteArray)]) ?_ 0 _ rfl; (with_reducible repeat (first | refine blk_drewN ?_ _ | refine blk_drew ?_ | refine blk_alloc ?_ _)); exact BK122.out) hb); have n2_ := Aside0.mk (below_step (by repeat (first | (with_reducible first | exact HB.out | apply below_alloc | apply pw_below_drewN | apply below_drew1 | refine below_set ?_ GE111.out | refine below_set ?_ GE122.out) | exact HB.out)) hb); clear BK111; clear BK122; clear HB; have BK111 := n0_; have BK122 := n1_; have HB := n2_; clear n0_ n1_ n2_; (try clear hb); (try clear hb2); (try clear hk); (try clear hi); have hcz31_0 : w30.cell? ⟨gb122, 0, none⟩ = some (.string t121) := (blk_cell BK122.out 0).trans rfl; have hcz31_1 : w30.cell? ⟨gb122, 1, none⟩ = some (.string t118) := (blk_cell BK122.out 1).trans rfl; have hcz31_2 : w30.cell? ⟨gb122, 2, none⟩ = some (.string (⟨#[]⟩ : ByteArray)) := (blk_cell BK122.out 2).trans rfl; have hfz31_0 := blk_frozen BK122.out 0; have hfz31_1 := blk_frozen BK122.out 1; have hfz31_2 := blk_frozen BK122.out 2; have hcz32_0 : w30.cell? ⟨gb111, 0, none⟩ = some (.string (⟨#[]⟩ : ByteArray)) := (blk_cell BK111.out 0).trans rfl; have hcz32_1 : w30.cell? ⟨gb111, 1, none⟩ = some (.string (⟨#[]⟩ : ByteArray)) := (blk_cell BK111.out 1).trans rfl; have hcz32_2 : w30.cell? ⟨gb111, 2, none⟩ = some (.string (⟨#[]⟩ : ByteArray)) := (blk_cell BK111.out 2).trans rfl; have hfz32_0 := blk_frozen BK111.out 0; have hfz32_1 := blk_frozen BK111.out 1; have hfz32_2 := blk_frozen BK111.out 2))
                        refine bodyPost_ret (results_ct rfl _ _ gb111 26 #[.string t121, .string t118, .string t123] (0, 0) _ rfl (by (with_reducible repeat (first | refine blk_drewN ?_ _ | refine blk_drew ?_ | refine blk_alloc ?_ _)); refine blk_put (cs := #[.string t121, .string t118, .string (⟨#[]⟩ : ByteArray)]) ?_ 2 _ rfl; (with_reducible repeat (first | refine blk_drewN ?_ _ | refine blk_drew ?_ | refine blk_alloc ?_ _)); refine blk_put (cs := #[.string t121, .string (⟨#[]⟩ : ByteArray), .string (⟨#[]⟩ : ByteArray)]) ?_ 1 _ rfl; (with_reducible repeat (first | refine blk_drewN ?_ _ | refine blk_drew ?_ | refine blk_alloc ?_ _)); refine blk_put (cs := #[.string (⟨#[]⟩ : ByteArray), .string (⟨#[]⟩ : ByteArray), .string (⟨#[]⟩ : ByteArray)]) ?_ 0 _ rfl; (with_reducible repeat (first | refine blk_drewN ?_ _ | refine blk_drew ?_ | refine blk_alloc ?_ _)); refine blk_far ?_ NB111_122.out _; (with_reducible repeat (first | refine blk_drewN ?_ _ | refine blk_drew ?_ | refine blk_alloc ?_ _)); exact BK111.out) Tryz.underlying26 rfl (by kernel_rfl)) rfl ?_
                        exact ⟨by first | rfl | exact retNe _ | (simp [errW_none, errW_some] <;> rfl) | (simp only [← hji19]; first | rfl | (simp [errW_none, errW_some] <;> rfl)) | (simp [*, errW_none, errW_some] <;> rfl), by repeat (first | (with_reducible first | exact HB.out | apply below_alloc | apply pw_below_drewN | apply below_drew1 | refine below_set ?_ GE111.out | refine below_set ?_ GE122.out) | exact HB.out)⟩
                      · replace c24 := Bool.eq_false_iff.mpr c24
                        subst c24
                        have H1 : ((refs_end.f (t114.extract ((ji19) : Int).toNat t114.size)).bind fun bt126 => (if bt126.2 = true then (some (t121, t118, (⟨#[]⟩ : ByteArray), wrap64 ((wrap64 ((a0.size : Int) - ((t114.extract ((ji19) : Int).toNat t114.size).size : Int))) + bt126.1))) else (some ((⟨#[]⟩ : ByteArray), (⟨#[]⟩ : ByteArray), (⟨#[]⟩ : ByteArray), 0)))) = some (r1, r2, r3, r4) := by rw [if_neg (show ¬ (false = true) by decide)] at H; exact H
                        clear H
                        have H := H1
                        clear H1
                        replace H := Option.bind_eq_some_iff.mp H
                        obtain ⟨⟨t126, t127⟩, A330, H⟩ := H
                        replace H : (if t127 = true then (some (t121, t118, (⟨#[]⟩ : ByteArray), wrap64 ((wrap64 ((a0.size : Int) - ((t114.extract ((ji19) : Int).toNat t114.size).size : Int))) + t126))) else (some ((⟨#[]⟩ : ByteArray), (⟨#[]⟩ : ByteArray), (⟨#[]⟩ : ByteArray), 0))) = some (r1, r2, r3, r4) := H
                        have A33 := Aside0.mk A330
                        clear A330
                        by_cases c34 : t127 = true
                        · subst c34
                          have H1 : (some (t121, t118, (⟨#[]⟩ : ByteArray), wrap64 ((wrap64 ((a0.size : Int) - ((t114.extract ((ji19) : Int).toNat t114.size).size : Int))) + t126))) = some (r1, r2, r3, r4) := by rw [if_pos rfl] at H; exact H
                          clear H
                          have H := H1
                          clear H1
                          simp only [Option.some.injEq, Prod.mk.injEq] at H
                          obtain ⟨rfl, rfl, rfl, rfl⟩ := H
                          go_wp2_with (first | ((with_reducible refine gate_callee (f := 29) rfl ?_); refine goesL_ (some 47) rfl rfl Tryz.func29 (by kernel_rfl) rfl #[.string (t114.extract (t116 : Int).toNat t114.size)] rfl (by (try simp only [List.map_toArray, List.map_cons, List.map_nil]); first | done | rfl | (simp only [List.length_drop, List.length_take]; rfl)) ?_; (with_reducible refine (link_Dest.calls (t114.extract (t116 : Int).toNat t114.size) t118 t119 true _ ?side1 A17.out).mono ?_); (case side1 => exact Laid.go hLd (by repeat (first | (with_reducible first | exact HB.out | apply below_alloc | apply pw_below_drewN | apply below_drew1 | refine below_set ?_ GE111.out) | exact HB.out))); rintro e w35 ⟨rfl, hb⟩; refine ⟨_, rfl, ?_⟩; have n0_ := Aside0.mk (blk_below (g := gb111) (o := .cells #[.string (⟨#[]⟩ : ByteArray), .string (⟨#[]⟩ : ByteArray), .string (⟨#[]⟩ : ByteArray)] 26 (0, 0)) (by (with_reducible repeat (first | refine blk_drewN ?_ _ | refine blk_drew ?_ | refine blk_alloc ?_ _)); exact BK111.out) hb); have n1_ := Aside0.mk (below_step (by repeat (first | (with_reducible first | exact HB.out | apply below_alloc | apply pw_below_drewN | apply below_drew1 | refine below_set ?_ GE111.out) | exact HB.out)) hb); clear BK111; clear HB; have BK111 := n0_; have HB := n1_; clear n0_ n1_; (try clear hb); (try clear hb2); (try clear hk); (try clear hi)) | ((with_reducible refine gate_callee (f := 19) rfl ?_); refine goesL_ (some 60) rfl rfl Tryz.func19 (by kernel_rfl) rfl #[.string t112] rfl (by (try simp only [List.map_toArray, List.map_cons, List.map_nil]); first | done | rfl | (simp only [List.length_drop, List.length_take]; rfl)) ?_; (with_reducible refine (class_Label.calls t112 t121 _ ?side1 A22.out).mono ?_); (case side1 => exact Laid.go hLd (by repeat (first | (with_reducible first | exact HB.out | apply below_alloc | apply pw_below_drewN | apply below_drew1 | refine below_set ?_ GE111.out) | exact HB.out))); rintro e w36 ⟨rfl, hb⟩; refine ⟨_, rfl, ?_⟩; have n0_ := Aside0.mk (blk_below (g := gb111) (o := .cells #[.string (⟨#[]⟩ : ByteArray), .string (⟨#[]⟩ : ByteArray), .string (⟨#[]⟩ : ByteArray)] 26 (0, 0)) (by (with_reducible repeat (first | refine blk_drewN ?_ _ | refine blk_drew ?_ | refine blk_alloc ?_ _)); exact BK111.out) hb); have n1_ := Aside0.mk (below_step (by repeat (first | (with_reducible first | exact HB.out | apply below_alloc | apply pw_below_drewN | apply below_drew1 | refine below_set ?_ GE111.out) | exact HB.out)) hb); clear BK111; clear HB; have BK111 := n0_; have HB := n1_; clear n0_ n1_; (try clear hb); (try clear hb2); (try clear hk); (try clear hi)) | ((with_reducible refine gate_dst (N := 12) rfl ?_); refine box_event ?hg (N := 12) ?hd (cs := #[.string (⟨#[]⟩ : ByteArray), .string (⟨#[]⟩ : ByteArray), .string (⟨#[]⟩ : ByteArray)]) (t := 26) ?hr ?_; (case hd => rfl); (case hg => rfl); (case hr => first | (go_simp; done) | (go_simp; rfl)); intro gb122 hg w37 hbox hb; have n0_ := Aside0.mk (blk_below (g := gb111) (o := .cells #[.string (⟨#[]⟩ : ByteArray), .string (⟨#[]⟩ : ByteArray), .string (⟨#[]⟩ : ByteArray)] 26 (0, 0)) (by (with_reducible repeat (first | refine blk_drewN ?_ _ | refine blk_drew ?_ | refine blk_alloc ?_ _)); exact BK111.out) hb); have n1_ := Aside0.mk (below_step (by repeat (first | (with_reducible first | exact HB.out | apply below_alloc | apply pw_below_drewN | apply below_drew1 | refine below_set ?_ GE111.out) | exact HB.out)) hb); have n2_ := Aside0.mk (hbox); have n3_ := Aside0.mk ((by rw [hg]; exact (below_size (by repeat (first | (with_reducible first | exact HB.out | apply below_alloc | apply pw_below_drewN | apply below_drew1 | refine below_set ?_ GE111.out) | exact HB.out))) : w.heap.size ≤ gb122)); have n4_ := Aside0.mk ((by rw [hg]; exact (below_size (by repeat (first | (with_reducible first | exact HB.out | apply below_alloc | apply pw_below_drewN | apply below_drew1 | refine below_set ?_ GE111.out) | exact HB.out))) : w.heap.size ≤ gb122)); have n5_ := Aside0.mk ((by rw [hg]; exact Nat.ne_of_lt (blk_lt (g := gb111) (o := .cells #[.string (⟨#[]⟩ : ByteArray), .string (⟨#[]⟩ : ByteArray), .string (⟨#[]⟩ : ByteArray)] 26 (0, 0)) (by (with_reducible repeat (first | refine blk_drewN ?_ _ | refine blk_drew ?_ | refine blk_alloc ?_ _)); exact BK111.out)) : gb111 ≠ gb122)); have n6_ := Aside0.mk ((by rw [hg]; exact Nat.ne_of_gt (blk_lt (g := gb111) (o := .cells #[.string (⟨#[]⟩ : ByteArray), .string (⟨#[]⟩ : ByteArray), .string (⟨#[]⟩ : ByteArray)] 26 (0, 0)) (by (with_reducible repeat (first | refine blk_drewN ?_ _ | refine blk_drew ?_ | refine blk_alloc ?_ _)); exact BK111.out)) : gb122 ≠ gb111)); clear BK111; clear HB; have BK111 := n0_; have HB := n1_; have BK122 := n2_; have GW122 := n3_; have GE122 := n4_; have NB111_122 := n5_; have NB122_111 := n6_; clear n0_ n1_ n2_ n3_ n4_ n5_ n6_; clear hb hbox hg; have hnb38 := NB122_111.out; have hnc38 := NB111_122.out; have hcz39_0 : w37.cell? ⟨gb122, 0, none⟩ = some (.string (⟨#[]⟩ : ByteArray)) := (blk_cell BK122.out 0).trans rfl; have hcz39_1 : w37.cell? ⟨gb122, 1, none⟩ = some (.string (⟨#[]⟩ : ByteArray)) := (blk_cell BK122.out 1).trans rfl; have hcz39_2 : w37.cell? ⟨gb122, 2, none⟩ = some (.string (⟨#[]⟩ : ByteArray)) := (blk_cell BK122.out 2).trans rfl; have hfz39_0 := blk_frozen BK122.out 0; have hfz39_1 := blk_frozen BK122.out 1; have hfz39_2 := blk_frozen BK122.out 2) | ((with_reducible refine gate_callee (f := 30) rfl ?_); refine goesL_ (some 65) rfl rfl Tryz.func30 (by kernel_rfl) rfl #[.string (t114.extract ((ji19) : Int).toNat t114.size)] rfl (by (try simp only [List.map_toArray, List.map_cons, List.map_nil]); first | done | (simp only [hji19]; rfl) | rfl | (simp only [List.length_drop, List.length_take]; rfl)) ?_; (with_reducible refine (refs_titled.calls kj6 (t114.extract ((ji19) : Int).toNat t114.size) t123 t124 false _ ?side1 A23.out).mono ?_); (case side1 => exact Laid.go hLd (by repeat (first | (with_reducible first | exact HB.out | apply below_alloc | apply pw_below_drewN | apply below_drew1 | refine below_set ?_ GE111.out | refine below_set ?_ GE122.out) | exact HB.out))); rintro e w40 ⟨rfl, hb⟩; refine ⟨_, rfl, ?_⟩; have n0_ := Aside0.mk (blk_below (g := gb111) (o := .cells #[.string (⟨#[]⟩ : ByteArray), .string (⟨#[]⟩ : ByteArray), .string (⟨#[]⟩ : ByteArray)] 26 (0, 0)) (by (with_reducible repeat (first | refine blk_drewN ?_ _ | refine blk_drew ?_ | refine blk_alloc ?_ _)); refine blk_far ?_ NB111_122.out _; (with_reducible repeat (first | refine blk_drewN ?_ _ | refine blk_drew ?_ | refine blk_alloc ?_ _)); refine blk_far ?_ NB111_122.out _; (with_reducible repeat (first | refine blk_drewN ?_ _ | refine blk_drew ?_ | refine blk_alloc ?_ _)); refine blk_far ?_ NB111_122.out _; (with_reducible repeat (first | refine blk_drewN ?_ _ | refine blk_drew ?_ | refine blk_alloc ?_ _)); exact BK111.out) hb); have n1_ := Aside0.mk (blk_below (g := gb122) (o := .cells #[.string t121, .string t118, .string (⟨#[]⟩ : ByteArray)] 26 (0, 0)) (by (with_reducible repeat (first | refine blk_drewN ?_ _ | refine blk_drew ?_ | refine blk_alloc ?_ _)); refine blk_put (cs := #[.string t121, .string t118, .string (⟨#[]⟩ : ByteArray)]) ?_ 2 _ rfl; (with_reducible repeat (first | refine blk_drewN ?_ _ | refine blk_drew ?_ | refine blk_alloc ?_ _)); refine blk_put (cs := #[.string t121, .string (⟨#[]⟩ : ByteArray), .string (⟨#[]⟩ : ByteArray)]) ?_ 1 _ rfl; (with_reducible repeat (first | refine blk_drewN ?_ _ | refine blk_drew ?_ | refine blk_alloc ?_ _)); refine blk_put (cs := #[.string (⟨#[]⟩ : ByteArray), .string (⟨#[]⟩ : ByteArray), .string (⟨#[]⟩ : ByteArray)]) ?_ 0 _ rfl; (with_reducible repeat (first | refine blk_drewN ?_ _ | refine blk_drew ?_ | refine blk_alloc ?_ _)); exact BK122.out) hb); have n2_ := Aside0.mk (below_step (by repeat (first | (with_reducible first | exact HB.out | apply below_alloc | apply pw_below_drewN | apply below_drew1 | refine below_set ?_ GE111.out | refine below_set ?_ GE122.out) | exact HB.out)) hb); clear BK111; clear BK122; clear HB; have BK111 := n0_; have BK122 := n1_; have HB := n2_; clear n0_ n1_ n2_; (try clear hb); (try clear hb2); (try clear hk); (try clear hi)) | ((with_reducible refine gate_callee (f := 31) rfl ?_); refine goesL_ (some 74) rfl rfl Tryz.func31 (by kernel_rfl) rfl #[.string (t114.extract ((ji19) : Int).toNat t114.size)] rfl (by (try simp only [List.map_toArray, List.map_cons, List.map_nil]); first | done | (simp only [hji19]; rfl) | rfl | (simp only [List.length_drop, List.length_take]; rfl)) ?_; (with_reducible refine (refs_end.calls (t114.extract ((ji19) : Int).toNat t114.size) t126 true _ A33.out).mono ?_); rintro e w41 ⟨rfl, hb⟩; refine ⟨_, rfl, ?_⟩; have n0_ := Aside0.mk (blk_below (g := gb111) (o := .cells #[.string (⟨#[]⟩ : ByteArray), .string (⟨#[]⟩ : ByteArray), .string (⟨#[]⟩ : ByteArray)] 26 (0, 0)) (by (with_reducible repeat (first | refine blk_drewN ?_ _ | refine blk_drew ?_ | refine blk_alloc ?_ _)); exact BK111.out) hb); have n1_ := Aside0.mk (blk_below (g := gb122) (o := .cells #[.string t121, .string t118, .string (⟨#[]⟩ : ByteArray)] 26 (0, 0)) (by (with_reducible repeat (first | refine blk_drewN ?_ _ | refine blk_drew ?_ | refine blk_alloc ?_ _)); exact BK122.out) hb); have n2_ := Aside0.mk (below_step (by repeat (first | (with_reducible first | exact HB.out | apply below_alloc | apply pw_below_drewN | apply below_drew1 | refine below_set ?_ GE111.out | refine below_set ?_ GE122.out) | exact HB.out)) hb); clear BK111; clear BK122; clear HB; have BK111 := n0_; have BK122 := n1_; have HB := n2_; clear n0_ n1_ n2_; (try clear hb); (try clear hb2); (try clear hk); (try clear hi); have hcz42_0 : w41.cell? ⟨gb122, 0, none⟩ = some (.string t121) := (blk_cell BK122.out 0).trans rfl; have hcz42_1 : w41.cell? ⟨gb122, 1, none⟩ = some (.string t118) := (blk_cell BK122.out 1).trans rfl; have hcz42_2 : w41.cell? ⟨gb122, 2, none⟩ = some (.string (⟨#[]⟩ : ByteArray)) := (blk_cell BK122.out 2).trans rfl; have hfz42_0 := blk_frozen BK122.out 0; have hfz42_1 := blk_frozen BK122.out 1; have hfz42_2 := blk_frozen BK122.out 2; have hcz43_0 : w41.cell? ⟨gb111, 0, none⟩ = some (.string (⟨#[]⟩ : ByteArray)) := (blk_cell BK111.out 0).trans rfl; have hcz43_1 : w41.cell? ⟨gb111, 1, none⟩ = some (.string (⟨#[]⟩ : ByteArray)) := (blk_cell BK111.out 1).trans rfl; have hcz43_2 : w41.cell? ⟨gb111, 2, none⟩ = some (.string (⟨#[]⟩ : ByteArray)) := (blk_cell BK111.out 2).trans rfl; have hfz43_0 := blk_frozen BK111.out 0; have hfz43_1 := blk_frozen BK111.out 1; have hfz43_2 := blk_frozen BK111.out 2))
                          refine bodyPost_ret (results_ct rfl _ _ gb111 26 #[.string t121, .string t118, .string (⟨#[]⟩ : ByteArray)] (0, 0) _ rfl (by (with_reducible repeat (first | refine blk_drewN ?_ _ | refine blk_drew ?_ | refine blk_alloc ?_ _)); refine blk_put (cs := #[.string t121, .string t118, .string (⟨#[]⟩ : ByteArray)]) ?_ 2 _ rfl; (with_reducible repeat (first | refine blk_drewN ?_ _ | refine blk_drew ?_ | refine blk_alloc ?_ _)); refine blk_put (cs := #[.string t121, .string (⟨#[]⟩ : ByteArray), .string (⟨#[]⟩ : ByteArray)]) ?_ 1 _ rfl; (with_reducible repeat (first | refine blk_drewN ?_ _ | refine blk_drew ?_ | refine blk_alloc ?_ _)); refine blk_put (cs := #[.string (⟨#[]⟩ : ByteArray), .string (⟨#[]⟩ : ByteArray), .string (⟨#[]⟩ : ByteArray)]) ?_ 0 _ rfl; (with_reducible repeat (first | refine blk_drewN ?_ _ | refine blk_drew ?_ | refine blk_alloc ?_ _)); exact BK111.out) Tryz.underlying26 rfl (by kernel_rfl)) rfl ?_
                          exact ⟨by first | rfl | exact retNe _ | (simp [errW_none, errW_some] <;> rfl) | (simp only [← hji19]; first | rfl | (simp [errW_none, errW_some] <;> rfl)) | (simp [*, errW_none, errW_some] <;> rfl), by repeat (first | (with_reducible first | exact HB.out | apply below_alloc | apply pw_below_drewN | apply below_drew1 | refine below_set ?_ GE111.out | refine below_set ?_ GE122.out) | exact HB.out)⟩
                        · replace c34 := Bool.eq_false_iff.mpr c34
                          subst c34
                          have H1 : (some ((⟨#[]⟩ : ByteArray), (⟨#[]⟩ : ByteArray), (⟨#[]⟩ : ByteArray), 0)) = some (r1, r2, r3, r4) := by rw [if_neg (show ¬ (false = true) by decide)] at H; exact H
                          clear H
                          have H := H1
                          clear H1
                          simp only [Option.some.injEq, Prod.mk.injEq] at H
                          obtain ⟨rfl, rfl, rfl, rfl⟩ := H
                          go_wp2_with (first | ((with_reducible refine gate_callee (f := 29) rfl ?_); refine goesL_ (some 47) rfl rfl Tryz.func29 (by kernel_rfl) rfl #[.string (t114.extract (t116 : Int).toNat t114.size)] rfl (by (try simp only [List.map_toArray, List.map_cons, List.map_nil]); first | done | rfl | (simp only [List.length_drop, List.length_take]; rfl)) ?_; (with_reducible refine (link_Dest.calls (t114.extract (t116 : Int).toNat t114.size) t118 t119 true _ ?side1 A17.out).mono ?_); (case side1 => exact Laid.go hLd (by repeat (first | (with_reducible first | exact HB.out | apply below_alloc | apply pw_below_drewN | apply below_drew1 | refine below_set ?_ GE111.out) | exact HB.out))); rintro e w44 ⟨rfl, hb⟩; refine ⟨_, rfl, ?_⟩; have n0_ := Aside0.mk (blk_below (g := gb111) (o := .cells #[.string (⟨#[]⟩ : ByteArray), .string (⟨#[]⟩ : ByteArray), .string (⟨#[]⟩ : ByteArray)] 26 (0, 0)) (by (with_reducible repeat (first | refine blk_drewN ?_ _ | refine blk_drew ?_ | refine blk_alloc ?_ _)); exact BK111.out) hb); have n1_ := Aside0.mk (below_step (by repeat (first | (with_reducible first | exact HB.out | apply below_alloc | apply pw_below_drewN | apply below_drew1 | refine below_set ?_ GE111.out) | exact HB.out)) hb); clear BK111; clear HB; have BK111 := n0_; have HB := n1_; clear n0_ n1_; (try clear hb); (try clear hb2); (try clear hk); (try clear hi)) | ((with_reducible refine gate_callee (f := 19) rfl ?_); refine goesL_ (some 60) rfl rfl Tryz.func19 (by kernel_rfl) rfl #[.string t112] rfl (by (try simp only [List.map_toArray, List.map_cons, List.map_nil]); first | done | rfl | (simp only [List.length_drop, List.length_take]; rfl)) ?_; (with_reducible refine (class_Label.calls t112 t121 _ ?side1 A22.out).mono ?_); (case side1 => exact Laid.go hLd (by repeat (first | (with_reducible first | exact HB.out | apply below_alloc | apply pw_below_drewN | apply below_drew1 | refine below_set ?_ GE111.out) | exact HB.out))); rintro e w45 ⟨rfl, hb⟩; refine ⟨_, rfl, ?_⟩; have n0_ := Aside0.mk (blk_below (g := gb111) (o := .cells #[.string (⟨#[]⟩ : ByteArray), .string (⟨#[]⟩ : ByteArray), .string (⟨#[]⟩ : ByteArray)] 26 (0, 0)) (by (with_reducible repeat (first | refine blk_drewN ?_ _ | refine blk_drew ?_ | refine blk_alloc ?_ _)); exact BK111.out) hb); have n1_ := Aside0.mk (below_step (by repeat (first | (with_reducible first | exact HB.out | apply below_alloc | apply pw_below_drewN | apply below_drew1 | refine below_set ?_ GE111.out) | exact HB.out)) hb); clear BK111; clear HB; have BK111 := n0_; have HB := n1_; clear n0_ n1_; (try clear hb); (try clear hb2); (try clear hk); (try clear hi)) | ((with_reducible refine gate_dst (N := 12) rfl ?_); refine box_event ?hg (N := 12) ?hd (cs := #[.string (⟨#[]⟩ : ByteArray), .string (⟨#[]⟩ : ByteArray), .string (⟨#[]⟩ : ByteArray)]) (t := 26) ?hr ?_; (case hd => rfl); (case hg => rfl); (case hr => first | (go_simp; done) | (go_simp; rfl)); intro gb122 hg w46 hbox hb; have n0_ := Aside0.mk (blk_below (g := gb111) (o := .cells #[.string (⟨#[]⟩ : ByteArray), .string (⟨#[]⟩ : ByteArray), .string (⟨#[]⟩ : ByteArray)] 26 (0, 0)) (by (with_reducible repeat (first | refine blk_drewN ?_ _ | refine blk_drew ?_ | refine blk_alloc ?_ _)); exact BK111.out) hb); have n1_ := Aside0.mk (below_step (by repeat (first | (with_reducible first | exact HB.out | apply below_alloc | apply pw_below_drewN | apply below_drew1 | refine below_set ?_ GE111.out) | exact HB.out)) hb); have n2_ := Aside0.mk (hbox); have n3_ := Aside0.mk ((by rw [hg]; exact (below_size (by repeat (first | (with_reducible first | exact HB.out | apply below_alloc | apply pw_below_drewN | apply below_drew1 | refine below_set ?_ GE111.out) | exact HB.out))) : w.heap.size ≤ gb122)); have n4_ := Aside0.mk ((by rw [hg]; exact (below_size (by repeat (first | (with_reducible first | exact HB.out | apply below_alloc | apply pw_below_drewN | apply below_drew1 | refine below_set ?_ GE111.out) | exact HB.out))) : w.heap.size ≤ gb122)); have n5_ := Aside0.mk ((by rw [hg]; exact Nat.ne_of_lt (blk_lt (g := gb111) (o := .cells #[.string (⟨#[]⟩ : ByteArray), .string (⟨#[]⟩ : ByteArray), .string (⟨#[]⟩ : ByteArray)] 26 (0, 0)) (by (with_reducible repeat (first | refine blk_drewN ?_ _ | refine blk_drew ?_ | refine blk_alloc ?_ _)); exact BK111.out)) : gb111 ≠ gb122)); have n6_ := Aside0.mk ((by rw [hg]; exact Nat.ne_of_gt (blk_lt (g := gb111) (o := .cells #[.string (⟨#[]⟩ : ByteArray), .string (⟨#[]⟩ : ByteArray), .string (⟨#[]⟩ : ByteArray)] 26 (0, 0)) (by (with_reducible repeat (first | refine blk_drewN ?_ _ | refine blk_drew ?_ | refine blk_alloc ?_ _)); exact BK111.out)) : gb122 ≠ gb111)); clear BK111; clear HB; have BK111 := n0_; have HB := n1_; have BK122 := n2_; have GW122 := n3_; have GE122 := n4_; have NB111_122 := n5_; have NB122_111 := n6_; clear n0_ n1_ n2_ n3_ n4_ n5_ n6_; clear hb hbox hg; have hnb47 := NB122_111.out; have hnc47 := NB111_122.out; have hcz48_0 : w46.cell? ⟨gb122, 0, none⟩ = some (.string (⟨#[]⟩ : ByteArray)) := (blk_cell BK122.out 0).trans rfl; have hcz48_1 : w46.cell? ⟨gb122, 1, none⟩ = some (.string (⟨#[]⟩ : ByteArray)) := (blk_cell BK122.out 1).trans rfl; have hcz48_2 : w46.cell? ⟨gb122, 2, none⟩ = some (.string (⟨#[]⟩ : ByteArray)) := (blk_cell BK122.out 2).trans rfl; have hfz48_0 := blk_frozen BK122.out 0; have hfz48_1 := blk_frozen BK122.out 1; have hfz48_2 := blk_frozen BK122.out 2) | ((with_reducible refine gate_callee (f := 30) rfl ?_); refine goesL_ (some 65) rfl rfl Tryz.func30 (by kernel_rfl) rfl #[.string (t114.extract ((ji19) : Int).toNat t114.size)] rfl (by (try simp only [List.map_toArray, List.map_cons, List.map_nil]); first | done | (simp only [hji19]; rfl) | rfl | (simp only [List.length_drop, List.length_take]; rfl)) ?_; (with_reducible refine (refs_titled.calls kj6 (t114.extract ((ji19) : Int).toNat t114.size) t123 t124 false _ ?side1 A23.out).mono ?_); (case side1 => exact Laid.go hLd (by repeat (first | (with_reducible first | exact HB.out | apply below_alloc | apply pw_below_drewN | apply below_drew1 | refine below_set ?_ GE111.out | refine below_set ?_ GE122.out) | exact HB.out))); rintro e w49 ⟨rfl, hb⟩; refine ⟨_, rfl, ?_⟩; have n0_ := Aside0.mk (blk_below (g := gb111) (o := .cells #[.string (⟨#[]⟩ : ByteArray), .string (⟨#[]⟩ : ByteArray), .string (⟨#[]⟩ : ByteArray)] 26 (0, 0)) (by (with_reducible repeat (first | refine blk_drewN ?_ _ | refine blk_drew ?_ | refine blk_alloc ?_ _)); refine blk_far ?_ NB111_122.out _; (with_reducible repeat (first | refine blk_drewN ?_ _ | refine blk_drew ?_ | refine blk_alloc ?_ _)); refine blk_far ?_ NB111_122.out _; (with_reducible repeat (first | refine blk_drewN ?_ _ | refine blk_drew ?_ | refine blk_alloc ?_ _)); refine blk_far ?_ NB111_122.out _; (with_reducible repeat (first | refine blk_drewN ?_ _ | refine blk_drew ?_ | refine blk_alloc ?_ _)); exact BK111.out) hb); have n1_ := Aside0.mk (blk_below (g := gb122) (o := .cells #[.string t121, .string t118, .string (⟨#[]⟩ : ByteArray)] 26 (0, 0)) (by (with_reducible repeat (first | refine blk_drewN ?_ _ | refine blk_drew ?_ | refine blk_alloc ?_ _)); refine blk_put (cs := #[.string t121, .string t118, .string (⟨#[]⟩ : ByteArray)]) ?_ 2 _ rfl; (with_reducible repeat (first | refine blk_drewN ?_ _ | refine blk_drew ?_ | refine blk_alloc ?_ _)); refine blk_put (cs := #[.string t121, .string (⟨#[]⟩ : ByteArray), .string (⟨#[]⟩ : ByteArray)]) ?_ 1 _ rfl; (with_reducible repeat (first | refine blk_drewN ?_ _ | refine blk_drew ?_ | refine blk_alloc ?_ _)); refine blk_put (cs := #[.string (⟨#[]⟩ : ByteArray), .string (⟨#[]⟩ : ByteArray), .string (⟨#[]⟩ : ByteArray)]) ?_ 0 _ rfl; (with_reducible repeat (first | refine blk_drewN ?_ _ | refine blk_drew ?_ | refine blk_alloc ?_ _)); exact BK122.out) hb); have n2_ := Aside0.mk (below_step (by repeat (first | (with_reducible first | exact HB.out | apply below_alloc | apply pw_below_drewN | apply below_drew1 | refine below_set ?_ GE111.out | refine below_set ?_ GE122.out) | exact HB.out)) hb); clear BK111; clear BK122; clear HB; have BK111 := n0_; have BK122 := n1_; have HB := n2_; clear n0_ n1_ n2_; (try clear hb); (try clear hb2); (try clear hk); (try clear hi)) | ((with_reducible refine gate_callee (f := 31) rfl ?_); refine goesL_ (some 74) rfl rfl Tryz.func31 (by kernel_rfl) rfl #[.string (t114.extract ((ji19) : Int).toNat t114.size)] rfl (by (try simp only [List.map_toArray, List.map_cons, List.map_nil]); first | done | (simp only [hji19]; rfl) | rfl | (simp only [List.length_drop, List.length_take]; rfl)) ?_; (with_reducible refine (refs_end.calls (t114.extract ((ji19) : Int).toNat t114.size) t126 false _ A33.out).mono ?_); rintro e w50 ⟨rfl, hb⟩; refine ⟨_, rfl, ?_⟩; have n0_ := Aside0.mk (blk_below (g := gb111) (o := .cells #[.string (⟨#[]⟩ : ByteArray), .string (⟨#[]⟩ : ByteArray), .string (⟨#[]⟩ : ByteArray)] 26 (0, 0)) (by (with_reducible repeat (first | refine blk_drewN ?_ _ | refine blk_drew ?_ | refine blk_alloc ?_ _)); exact BK111.out) hb); have n1_ := Aside0.mk (blk_below (g := gb122) (o := .cells #[.string t121, .string t118, .string (⟨#[]⟩ : ByteArray)] 26 (0, 0)) (by (with_reducible repeat (first | refine blk_drewN ?_ _ | refine blk_drew ?_ | refine blk_alloc ?_ _)); exact BK122.out) hb); have n2_ := Aside0.mk (below_step (by repeat (first | (with_reducible first | exact HB.out | apply below_alloc | apply pw_below_drewN | apply below_drew1 | refine below_set ?_ GE111.out | refine below_set ?_ GE122.out) | exact HB.out)) hb); clear BK111; clear BK122; clear HB; have BK111 := n0_; have BK122 := n1_; have HB := n2_; clear n0_ n1_ n2_; (try clear hb); (try clear hb2); (try clear hk); (try clear hi); have hcz51_0 : w50.cell? ⟨gb111, 0, none⟩ = some (.string (⟨#[]⟩ : ByteArray)) := (blk_cell BK111.out 0).trans rfl; have hcz51_1 : w50.cell? ⟨gb111, 1, none⟩ = some (.string (⟨#[]⟩ : ByteArray)) := (blk_cell BK111.out 1).trans rfl; have hcz51_2 : w50.cell? ⟨gb111, 2, none⟩ = some (.string (⟨#[]⟩ : ByteArray)) := (blk_cell BK111.out 2).trans rfl; have hfz51_0 := blk_frozen BK111.out 0; have hfz51_1 := blk_frozen BK111.out 1; have hfz51_2 := blk_frozen BK111.out 2))
                          refine bodyPost_ret (results_ct rfl _ _ gb111 26 #[.string (⟨#[]⟩ : ByteArray), .string (⟨#[]⟩ : ByteArray), .string (⟨#[]⟩ : ByteArray)] (0, 0) _ rfl (by (with_reducible repeat (first | refine blk_drewN ?_ _ | refine blk_drew ?_ | refine blk_alloc ?_ _)); refine blk_put (cs := #[.string (⟨#[]⟩ : ByteArray), .string (⟨#[]⟩ : ByteArray), .string (⟨#[]⟩ : ByteArray)]) ?_ 2 _ rfl; (with_reducible repeat (first | refine blk_drewN ?_ _ | refine blk_drew ?_ | refine blk_alloc ?_ _)); refine blk_put (cs := #[.string (⟨#[]⟩ : ByteArray), .string (⟨#[]⟩ : ByteArray), .string (⟨#[]⟩ : ByteArray)]) ?_ 1 _ rfl; (with_reducible repeat (first | refine blk_drewN ?_ _ | refine blk_drew ?_ | refine blk_alloc ?_ _)); refine blk_put (cs := #[.string (⟨#[]⟩ : ByteArray), .string (⟨#[]⟩ : ByteArray), .string (⟨#[]⟩ : ByteArray)]) ?_ 0 _ rfl; (with_reducible repeat (first | refine blk_drewN ?_ _ | refine blk_drew ?_ | refine blk_alloc ?_ _)); exact BK111.out) Tryz.underlying26 rfl (by kernel_rfl)) rfl ?_
                          exact ⟨by first | rfl | exact retNe _ | (simp [errW_none, errW_some] <;> rfl) | (simp only [← hji19]; first | rfl | (simp [errW_none, errW_some] <;> rfl)) | (simp [*, errW_none, errW_some] <;> rfl), by repeat (first | (with_reducible first | exact HB.out | apply below_alloc | apply pw_below_drewN | apply below_drew1 | refine below_set ?_ GE111.out | refine below_set ?_ GE122.out) | exact HB.out)⟩
                    · rw [if_neg c21] at H
                      exact absurd H (by simp)
                  · rw [if_neg c20] at H
                    exact absurd H (by simp)
                · replace c18 := Bool.eq_false_iff.mpr c18
                  subst c18
                  have H1 : (some ((⟨#[]⟩ : ByteArray), (⟨#[]⟩ : ByteArray), (⟨#[]⟩ : ByteArray), 0)) = some (r1, r2, r3, r4) := by rw [if_neg (show ¬ (false = true) by decide)] at H; exact H
                  clear H
                  have H := H1
                  clear H1
                  simp only [Option.some.injEq, Prod.mk.injEq] at H
                  obtain ⟨rfl, rfl, rfl, rfl⟩ := H
                  go_wp2_with (first | ((with_reducible refine gate_callee (f := 29) rfl ?_); refine goesL_ (some 47) rfl rfl Tryz.func29 (by kernel_rfl) rfl #[.string (t114.extract (t116 : Int).toNat t114.size)] rfl (by (try simp only [List.map_toArray, List.map_cons, List.map_nil]); first | done | rfl | (simp only [List.length_drop, List.length_take]; rfl)) ?_; (with_reducible refine (link_Dest.calls (t114.extract (t116 : Int).toNat t114.size) t118 t119 false _ ?side1 A17.out).mono ?_); (case side1 => exact Laid.go hLd (by repeat (first | (with_reducible first | exact HB.out | apply below_alloc | apply pw_below_drewN | apply below_drew1 | refine below_set ?_ GE111.out) | exact HB.out))); rintro e w52 ⟨rfl, hb⟩; refine ⟨_, rfl, ?_⟩; have n0_ := Aside0.mk (blk_below (g := gb111) (o := .cells #[.string (⟨#[]⟩ : ByteArray), .string (⟨#[]⟩ : ByteArray), .string (⟨#[]⟩ : ByteArray)] 26 (0, 0)) (by (with_reducible repeat (first | refine blk_drewN ?_ _ | refine blk_drew ?_ | refine blk_alloc ?_ _)); exact BK111.out) hb); have n1_ := Aside0.mk (below_step (by repeat (first | (with_reducible first | exact HB.out | apply below_alloc | apply pw_below_drewN | apply below_drew1 | refine below_set ?_ GE111.out) | exact HB.out)) hb); clear BK111; clear HB; have BK111 := n0_; have HB := n1_; clear n0_ n1_; (try clear hb); (try clear hb2); (try clear hk); (try clear hi); have hcz53_0 : w52.cell? ⟨gb111, 0, none⟩ = some (.string (⟨#[]⟩ : ByteArray)) := (blk_cell BK111.out 0).trans rfl; have hcz53_1 : w52.cell? ⟨gb111, 1, none⟩ = some (.string (⟨#[]⟩ : ByteArray)) := (blk_cell BK111.out 1).trans rfl; have hcz53_2 : w52.cell? ⟨gb111, 2, none⟩ = some (.string (⟨#[]⟩ : ByteArray)) := (blk_cell BK111.out 2).trans rfl; have hfz53_0 := blk_frozen BK111.out 0; have hfz53_1 := blk_frozen BK111.out 1; have hfz53_2 := blk_frozen BK111.out 2))
                  refine bodyPost_ret (results_ct rfl _ _ gb111 26 #[.string (⟨#[]⟩ : ByteArray), .string (⟨#[]⟩ : ByteArray), .string (⟨#[]⟩ : ByteArray)] (0, 0) _ rfl (by (with_reducible repeat (first | refine blk_drewN ?_ _ | refine blk_drew ?_ | refine blk_alloc ?_ _)); refine blk_put (cs := #[.string (⟨#[]⟩ : ByteArray), .string (⟨#[]⟩ : ByteArray), .string (⟨#[]⟩ : ByteArray)]) ?_ 2 _ rfl; (with_reducible repeat (first | refine blk_drewN ?_ _ | refine blk_drew ?_ | refine blk_alloc ?_ _)); refine blk_put (cs := #[.string (⟨#[]⟩ : ByteArray), .string (⟨#[]⟩ : ByteArray), .string (⟨#[]⟩ : ByteArray)]) ?_ 1 _ rfl; (with_reducible repeat (first | refine blk_drewN ?_ _ | refine blk_drew ?_ | refine blk_alloc ?_ _)); refine blk_put (cs := #[.string (⟨#[]⟩ : ByteArray), .string (⟨#[]⟩ : ByteArray), .string (⟨#[]⟩ : ByteArray)]) ?_ 0 _ rfl; (with_reducible repeat (first | refine blk_drewN ?_ _ | refine blk_drew ?_ | refine blk_alloc ?_ _)); exact BK111.out) Tryz.underlying26 rfl (by kernel_rfl)) rfl ?_
                  exact ⟨by first | rfl | exact retNe _ | (simp [errW_none, errW_some] <;> rfl) | (simp [*, errW_none, errW_some] <;> rfl), by repeat (first | (with_reducible first | exact HB.out | apply below_alloc | apply pw_below_drewN | apply below_drew1 | refine below_set ?_ GE111.out) | exact HB.out)⟩
              · rw [if_neg c16] at H
                exact absurd H (by simp)
            · rw [if_neg c15] at H
              exact absurd H (by simp)
    · rw [if_neg c4] at H
      exact absurd H (by simp)
  · rw [if_neg c3] at H
    exact absurd H (by simp)


end Go.Proofs.YtekifcbokdidlaaGreatDoor.PA

namespace Go.Proofs.YtekifcbokdidlaaGreatDoor.PA
open Go.RowKit Go.Shelf Go.Proofs.YtekifcbokdidlaaGreatDoor.Pl Go.Proofs.YtekifcbokdidlaaGreatDoorW.PrintWords Go.Proofs.YtekifcbokdidlaaGreatDoorW.PrintLast Go.Proofs.YtekifcbokdidlaaGreatDoorW.PrintMore
set_option linter.unusedVariables false
attribute [local go_sem] Oper.semAt_some

theorem each_in (F : Fence) (n : Nat) (hF : F.fn 37) (hro : F.round = none) (s : ByteArray) (w : World) :
    CallsIn F n Tryz.prog 37 #[.string s] w fun e w' => e = .returned (.func (.func 61) #[] #[.pointer (some ⟨w.heap.size, 0, none⟩)]) ∧ w' = w.alloc (.cells #[.string s] 9) := by
  refine callsIn_of_wp Tryz.func37 rfl hF ?_ hro
  simp only [Tryz.ntmps37, List.size_toArray, List.length_cons, List.length_nil, Nat.reduceAdd, Nat.reduceSub, Array.replicate_succ, Array.replicate_zero, List.push_toArray, List.append_toArray, List.nil_append, List.cons_append]
  gi_wp2
  go_ret
  exact ⟨rfl, rfl⟩
/-- A range over a function whose rounds are met within the function's own walk. -/
theorem range_seq {F : Fence} {n : Nat} {P : Program} {g : Operand} {ps : Array Tmp} {assign body : Code} {Q : Exit → Act → World → Prop} {a : Act} {w : World}
    (hro : F.round = none) (h1 : F.depth.isSome = true → 1 ≤ n) {gf : Nat} {lb : Array Value} (hg : a.eval g = .func (.func gf) #[] lb) (hFg : F.fn gf) (eg : ∀ args w, (callFunc gf args).run P w = .ok (.enter gf args) w)
    (Fin : World → Prop)
    (hiter : ∀ (fn : FuncId) (rc : Loop), F.fn fn → rc.state = .ready → rc.pending = none → rc.fn = fn → rc.tmps = a.tmps → rc.params = ps → rc.assign = assign → rc.body = body →
      CallsIn F (n - 1) P gf (#[.func (.yield (w.heap.size + 1)) #[] #[]] ++ lb) ((w.alloc (.deferred (some []))).alloc (.loop rc)) fun e W2 => (∃ v, e = .returned v) ∧ W2.heap[w.heap.size + 1]? = some (.loop rc) ∧ Fin W2)
    (hdone : ∀ (rc : Loop) (W2 : World), Fin W2 → W2.heap[w.heap.size + 1]? = some (.loop rc) → Q .normal { a with defers := { target := .collected w.heap.size, args := #[] } :: a.defers } (W2.putObj (w.heap.size + 1) (.loop { rc with state := .exhausted }))) :
    (Code.rangeFunc g ps assign body).wpIn F n P Q a w := by
  refine wpIn_rangeFunc (fun fn hfn => ?_)
  rw [hro]
  obtain ⟨rc, hrc⟩ : ∃ rc : Loop, rc = { state := .ready, pending := none, fn := fn, tmps := a.tmps, params := ps, assign := assign, body := body, defers := w.heap.size } := ⟨_, rfl⟩
  obtain ⟨W1, hW1⟩ : ∃ W1, W1 = (w.alloc (.deferred (some []))).alloc (.loop rc) := ⟨_, rfl⟩
  refine ⟨w.heap.size + 1, [{ target := .collected w.heap.size, args := #[] }], W1, { target := .fn (.func gf) lb, args := #[.func (.yield (w.heap.size + 1)) #[] #[]] }, W1, gf, #[.func (.yield (w.heap.size + 1)) #[] #[]] ++ lb, W1, ?_, ?_, ?_, ?_, h1, CallsIn.mono (by rw [hW1]; exact hiter fn rc hfn (by rw [hrc]) (by rw [hrc]) (by rw [hrc]) (by rw [hrc]) (by rw [hrc]) (by rw [hrc]) (by rw [hrc])) ?_⟩
  · rw [hW1, hrc]
    exact run_enterLoop_outer _ _ _ _ _
  · simp only [resolve, hg]
    simp [go_sem]
  · intro f' hf'
    simp [Target.leads] at hf'
    subst hf'
    exact hFg
  · simp [invoke, go_sem, eg]
  · rintro e W2 ⟨⟨v, rfl⟩, hl, hf⟩
    exact ⟨none, _, (run_endLoop hl (by rw [hrc]; simp)).trans (by rw [hrc]), hdone _ W2 hf hl⟩
/-- What stands in memory between two rounds. -/
structure ASt (w : World) (Bo Bs0 D l : Nat) (rc : Loop) (acc : List S26) (s : ByteArray) (W : World) : Prop where
  laid : Laid W
  box : ∃ v, Boxed W Bo 22 v ∧ W.ownsRow w.heap.size 26 3 v acc.length (acc.flatMap encR3)
  boxS : Boxed W Bs0 9 (.string s)
  dfr : W.heap[D]? = some (.deferred (some []))
  rcd : W.heap[l]? = some (.loop rc)
  bel : Below w.heap.size w W
theorem ASt.go {w : World} {Bo Bs0 D l : Nat} {rc : Loop} {acc : List S26} {s : ByteArray} {W X : World} (h : ASt w Bo Bs0 D l rc acc s W) (hb : Below W.heap.size W X) : ASt w Bo Bs0 D l rc acc s X where
  laid := h.laid.go hb
  box := by
    obtain ⟨v, h1, h2⟩ := h.box
    exact ⟨v, (hb.block _ h1.lt).trans h1, pw_own_below h2 hb⟩
  boxS := (hb.block _ h.boxS.lt).trans h.boxS
  dfr := (hb.block _ (Array.getElem?_eq_some_iff.1 h.dfr).1).trans h.dfr
  rcd := (hb.block _ (Array.getElem?_eq_some_iff.1 h.rcd).1).trans h.rcd
  bel := h.bel.trans (hb.mono h.bel.size)
theorem ASt.set {w : World} {Bo Bs0 D l B : Nat} {rc : Loop} {acc : List S26} {s x y : ByteArray} {W : World} (hLd : Laid w) (h : ASt w Bo Bs0 D l rc acc s W) (hB : Boxed W B 9 (.string x)) (h1 : Bo ≠ B) (h2 : Bs0 ≠ B) (h3 : w.heap.size ≤ B) :
    ASt w Bo Bs0 D l rc acc s (W.setCell ⟨B, 0, none⟩ (.string y)) where
  laid := hLd.go (h.bel.trans ((Below.refl _ W).setCell (p := ⟨B, 0, none⟩) h3 _))
  box := by
    obtain ⟨v, hv, hr⟩ := h.box
    exact ⟨v, hv.kept (grownBy_setCell' _ _ _) (by simpa using h1), hr.kept (grownBy_setCell' W B (.string y)) (.inr (hB.not_row (by decide) hr).symm)⟩
  boxS := h.boxS.kept (grownBy_setCell' _ _ _) (by simpa using h2)
  dfr := (KeepsOthers.setCell W _ _).same _ _ h.dfr rfl
  rcd := (KeepsOthers.setCell W _ _).same _ _ h.rcd rfl
  bel := h.bel.trans ((Below.refl _ W).setCell (p := ⟨B, 0, none⟩) h3 _)
/-- The definitions a text begins with, and what is left; by at most so many steps. -/
def refs_All.l (k : Nat) : Nat → ByteArray → List S26 → Option (List S26 × ByteArray)
  | 0, _, _ => none
  | f + 1, s, acc => (refs_Take.f k s).bind fun t => if 0 ≤ t.2.2.2 ∧ t.2.2.2 ≤ (s.size : Int) then (if t.2.2.2 = 0 then some (acc, s) else refs_All.l k f (s.extract t.2.2.2.toNat s.size) (acc ++ [⟨t.1, t.2.1, t.2.2.1⟩])) else none
theorem cell_three_new (W : World) (x y z : Value) (t : TypeId) : ∀ j u, [x, y, z][j]? = some u → (W.alloc (.cells #[x, y, z] t)).cell? ((⟨W.heap.size, 0, none⟩ : Addr).add j) = some u := by
  intro j u hj
  match j, hj with
  | 0, hj => simp at hj; subst hj; simp [Addr.add]
  | 1, hj => simp at hj; subst hj; simp [Addr.add]
  | 2, hj => simp at hj; subst hj; simp [Addr.add]
  | (j + 3), hj => simp at hj
theorem refs_R {W : World} {base : Nat} {v : Value} {acc : List S26} (h : W.ownsRow base 26 3 v acc.length (acc.flatMap encR3)) : Kd.R k26 26 W base (fun _ => True) v acc := by
  refine ⟨fun _ _ => trivial, _, h, ?_⟩
  have key : ∀ (l pre : List S26) (cs : List Value), Reps (k26.M W base (fun k => True ∧ some k ≠ v.ownBlock)) 3 pre cs → Reps (k26.M W base (fun k => True ∧ some k ≠ v.ownBlock)) 3 (pre ++ l) (cs ++ l.flatMap encR3) := by
    intro l
    induction l with
    | nil => intro pre cs h; simpa using h
    | cons x l ih =>
      intro pre cs h
      have := ih (pre ++ [x]) (cs ++ encR3 x) (h.snoc (k26_mkM _ _ _ x) rfl)
      simpa [List.append_assoc] using this
  exact key acc [] [] (Reps.none _ _)
theorem infoR : (Tryz.prog.info? 26).map (fun i => (i.zero, i.size, i.bytes)) = some (some (.agg #[.string ⟨#[]⟩, .string ⟨#[]⟩, .string ⟨#[]⟩]), 3, 48) := by kernel_rfl
set_option maxRecDepth 100000 in
set_option maxHeartbeats 2000000 in
theorem all_walk (k : Nat) (s0 : ByteArray) (R : List S26 × ByteArray) (w : World) (hLd : Laid w) (hs : s0.size ≤ 1048576) (hR : ∃ f, refs_All.l k f s0 [] = some R) :
    Calls Tryz.prog 17 #[.string s0] w fun e w' => ∃ v0_, e = .returned (.tuple #[v0_, .string R.2]) ∧ Kd.R k26 26 w' w.heap.size (fun _ => True) v0_ R.1 ∧ Below w.heap.size w w' := by
  refine (callsIn_wide (n := 5)).1 ?_
  refine callsIn_of_wp_marks Tryz.func17 rfl trivial ?_ rfl
  simp only [Tryz.ntmps17, List.size_toArray, List.length_cons, List.length_nil, Nat.reduceAdd, Nat.reduceSub, Array.replicate_succ, Array.replicate_zero, List.push_toArray, List.append_toArray, List.nil_append, List.cons_append]
  gi_wp2
  refine ⟨trivial, ?_⟩
  refine (each_in Fence.wide 4 trivial rfl s0 _).mono ?_
  rintro e w' ⟨rfl, rfl⟩
  gi_wp2
  have hB1 : Below w.heap.size w (((w.alloc (.cells #[.string s0] 9)).alloc (.cells #[.slice none 0 0] 22)).alloc (.cells #[.string s0] 9)) := (((Below.refl w.heap.size w).alloc (Nat.le_refl _) _).alloc (by simp) _).alloc (by simp; omega) _
  have b1 := Boxed.new w 9 (.string s0)
  have b2 := Boxed.new (w.alloc (.cells #[.string s0] 9)) 22 (.slice none 0 0)
  have b3 := Boxed.new ((w.alloc (.cells #[.string s0] 9)).alloc (.cells #[.slice none 0 0] 22)) 9 (.string s0)
  replace b1 := (b1.alloc (.cells #[.slice none 0 0] 22)).alloc (.cells #[.string s0] 9)
  replace b2 := b2.alloc (.cells #[.string s0] 9)
  rw [World.size_alloc] at b2
  rw [World.size_alloc, World.size_alloc] at b3
  obtain ⟨W, hW⟩ : ∃ W, W = ((w.alloc (.cells #[.string s0] 9)).alloc (.cells #[.slice none 0 0] 22)).alloc (.cells #[.string s0] 9) := ⟨_, rfl⟩
  have hWs : W.heap.size = w.heap.size + 3 := by rw [hW]; simp
  rw [← hW] at hB1 b1 b2 b3
  rw [show ((w.alloc (Obj.cells #[Value.string s0] 9)).alloc (Obj.cells #[Value.slice none 0 0] 22)).alloc (Obj.cells #[Value.string s0] 9) = W from hW.symm]
  clear hW
  refine range_seq rfl (by intro h; cases h) (gf := 61) (lb := #[.pointer (some ⟨w.heap.size + 1 + 1, 0, none⟩)]) rfl trivial (enters_of Tryz.func61 (by kernel_rfl) rfl)
    (fun W2 => ∃ rc, ASt w (w.heap.size + 1) w.heap.size W.heap.size (W.heap.size + 1) rc R.1 R.2 W2) ?iter ?done
  case iter =>
    intro fn rc hfn hst hpe hfe htm hps has hbo
    have hb2 : Below W.heap.size W ((W.alloc (.deferred (some []))).alloc (.loop rc)) := ((Below.refl _ W).alloc (Nat.le_refl _) _).alloc (by simp) _
    have hb9 := hb2
    have hA0 : ASt w (w.heap.size + 1) w.heap.size W.heap.size (W.heap.size + 1) rc [] s0 ((W.alloc (.deferred (some []))).alloc (.loop rc)) := by
      refine ⟨(hLd.go hB1).go hb2, ⟨_, (hb2.block _ b2.lt).trans b2, World.ownsRow_nil _ _ _ _⟩, (hb2.block _ b1.lt).trans b1, ?_, ?_, hB1.trans (hb2.mono (by omega))⟩
      · exact (Below.heap_alloc _ _ _ (by simp)).trans (World.alloc_heap_new W _)
      · have := World.alloc_heap_new (W.alloc (.deferred (some []))) (.loop rc)
        rwa [World.size_alloc] at this
    have hround : ∀ (acc : List S26) (r : S26) (s rest : ByteArray) (X : World), acc.length ≤ 1048576 → ASt w (w.heap.size + 1) w.heap.size W.heap.size (W.heap.size + 1) rc acc s X → Boxed X (w.heap.size + 1 + 1) 9 (.string rest) →
        YieldAt Fence.wide (5 - 1 - 1) Tryz.prog (W.heap.size + 1) #[.agg #[.string r.f0, .string r.f1, .string r.f2], .string rest] X fun e Y => e = .returned (.bool true) ∧ ASt w (w.heap.size + 1) w.heap.size W.heap.size (W.heap.size + 1) rc (acc ++ [r]) rest Y ∧ Boxed Y (w.heap.size + 1 + 1) 9 (.string rest) := by
      intro acc r s rest X hacc hA hBs
      have hy := run_yield (P := Tryz.prog) (args := #[.agg #[.string r.f0, .string r.f1, .string r.f2], .string rest]) hA.rcd (by rw [hps]; rfl)
      rw [htm, hps, has, hbo, hfe] at hy
      refine ⟨fn, _, _, _, hy, roundIn_of_wpIn hfn ?_⟩
      clear hy
      gi_wp2
      have hb1 : Below X.heap.size X (X.alloc (.cells #[.string r.f0, .string r.f1, .string r.f2] 26 (0, 0))) := below_alloc (Below.refl _ _) _
      have hA1 := hA.go hb1
      have hBs1 : Boxed (X.alloc (.cells #[.string r.f0, .string r.f1, .string r.f2] 26 (0, 0))) (w.heap.size + 1 + 1) 9 (.string rest) := (hb1.block _ hBs.lt).trans hBs
      have hr1 := heap_alloc_new X (.cells #[.string r.f0, .string r.f1, .string r.f2] 26 (0, 0))
      have hXl : X.heap.size < (X.alloc (.cells #[.string r.f0, .string r.f1, .string r.f2] 26 (0, 0))).heap.size := by simp
      have hXb := hA.bel.size
      have hXr := (Array.getElem?_eq_some_iff.1 hA.rcd).1
      obtain ⟨X1, hX1⟩ : ∃ X1, X1 = X.alloc (.cells #[.string r.f0, .string r.f1, .string r.f2] 26 (0, 0)) := ⟨_, rfl⟩
      rw [← hX1] at hA1 hBs1 hr1 hXl
      rw [show (X.alloc (Obj.cells #[Value.string r.f0, Value.string r.f1, Value.string r.f2] 26)) = X1 from hX1.symm]
      clear hX1 hb1 hA hBs
      obtain ⟨Xs, hXs⟩ : ∃ Xs, X.heap.size = Xs := ⟨_, rfl⟩
      rw [hXs] at hr1 hXl hXb hXr ⊢
      clear hXs
      rw [hWs] at hA1 hXr
      refine ⟨_, run_beginRound hA1.rcd hst, ?_⟩
      obtain ⟨v, hv1, hrow1⟩ := hA1.box
      have hrow2 := ownsRow_putObj hrow1 (.loop { rc with state := .busy }) hA1.rcd rfl
      have hoth : ∀ j, j ≠ w.heap.size + 3 + 1 → (X1.putObj (w.heap.size + 3 + 1) (.loop { rc with state := .busy })).heap[j]? = X1.heap[j]? := fun j hj => World.putObj_heap_other hj
      have hv2 : Boxed (X1.putObj (w.heap.size + 3 + 1) (.loop { rc with state := .busy })) (w.heap.size + 1) 22 v := (hoth _ (by omega)).trans hv1
      have hS2 : Boxed (X1.putObj (w.heap.size + 3 + 1) (.loop { rc with state := .busy })) w.heap.size 9 (.string s) := (hoth _ (by omega)).trans hA1.boxS
      have hI2 : Boxed (X1.putObj (w.heap.size + 3 + 1) (.loop { rc with state := .busy })) (w.heap.size + 1 + 1) 9 (.string rest) := (hoth _ (by omega)).trans hBs1
      have hr2 := (hoth Xs (by omega)).trans hr1
      have hd2 := (hoth (w.heap.size + 3) (by omega)).trans hA1.dfr
      have hl2 : (X1.putObj (w.heap.size + 3 + 1) (.loop { rc with state := .busy })).heap[w.heap.size + 3 + 1]? = some (.loop { rc with state := .busy }) := World.putObj_heap_same (by omega)
      have hB2 : Below w.heap.size w (X1.putObj (w.heap.size + 3 + 1) (.loop { rc with state := .busy })) := hA1.bel.trans (belowK_b (w := w) (Nat.le_refl _) X1 _ _ _ (by omega) hA1.rcd rfl rfl)
      have hL2 := hLd.go hB2
      have hz2 : Xs < (X1.putObj (w.heap.size + 3 + 1) (.loop { rc with state := .busy })).heap.size := by rw [World.putObj_size]; omega
      obtain ⟨X2, hX2⟩ : ∃ X2, X2 = X1.putObj (w.heap.size + 3 + 1) (.loop { rc with state := .busy }) := ⟨_, rfl⟩
      rw [← hX2] at hrow2 hv2 hS2 hI2 hr2 hd2 hl2 hB2 hL2 hz2 ⊢
      clear hX2 hoth hv1 hrow1 hA1 hBs1 hr1
      obtain ⟨i0, hi, hi0, hi1, hi2⟩ := info_parts infoR
      obtain ⟨p0, p1, p2, g0, g1, g2⟩ := row3_facts hr2
      have hvc := hv2.cell
      have hsc := hS2.cell
      have hsf := hS2.frozen
      have hb2s := hB2.size
      gi_wp2_with (gi_at_builtin; refine wpListIn_append_own _ rfl _ _ 22 rfl w.heap.size 26 i0 (.agg #[.string ⟨#[]⟩, .string ⟨#[]⟩, .string ⟨#[]⟩]) 3 48 Tryz.underlying22 hi hi0 hi1 hi2 rfl (by decide) _ _ _ rfl (hrow2.alloc _) ⟨X2.heap.size, 0, none⟩ 1 1 [.string r.f0, .string r.f1, .string r.f2] rfl rfl (cell_three_new _ _ _ _ _) (by simp [Value.oneCell']) (by simp only [maxLen]; omega) (by omega) (by simp; omega) ?_; intro v' w1 hown' hgrow _; obtain ⟨g', cap', rfl⟩ := ownsRow_succ hown'; obtain ⟨hv3, hv4, hr4, hk4, hb4⟩ := hv2.appended (by decide) hrow2 hB2.size (by omega) hown' hgrow; have hS3 := (hS2.alloc _).kept hgrow (hS2.not_row (by decide) hrow2); have hc3 := hv3.cell; have hf3 := hv3.frozen; have hc4 := hS3.cell; have hf4 := hS3.frozen)
      have hI3 := (hI2.alloc _).kept hgrow (hI2.not_row (by decide) hrow2)
      have hS4 : Boxed (w1.setCell ⟨w.heap.size + 1, 0, none⟩ (.slice (some ⟨g', 0, none⟩) (acc.length + 1) cap')) w.heap.size 9 (.string s) := hS3.kept (grownBy_setCell' _ _ _) (by simp)
      have hI4 : Boxed (w1.setCell ⟨w.heap.size + 1, 0, none⟩ (.slice (some ⟨g', 0, none⟩) (acc.length + 1) cap')) (w.heap.size + 1 + 1) 9 (.string rest) := hI3.kept (grownBy_setCell' _ _ _) (by simp)
      obtain ⟨w2, hw2⟩ : ∃ w2, w1.setCell ⟨w.heap.size + 1, 0, none⟩ (.slice (some ⟨g', 0, none⟩) (acc.length + 1) cap') = w2 := ⟨_, rfl⟩
      rw [hw2] at hv4 hr4 hk4 hb4 hS4 hI4 ⊢
      clear hw2 hown' hgrow hv3 hc3 hf3 hc4 hf4 hS3 hI3
      have hv5 : Boxed (w2.setCell ⟨w.heap.size, 0, none⟩ (.string rest)) (w.heap.size + 1) 22 (.slice (some ⟨g', 0, none⟩) (acc.length + 1) cap') := hv4.kept (grownBy_setCell' _ _ _) (by simp)
      have hI5 : Boxed (w2.setCell ⟨w.heap.size, 0, none⟩ (.string rest)) (w.heap.size + 1 + 1) 9 (.string rest) := hI4.kept (grownBy_setCell' _ _ _) (by simp; omega)
      have hS5 := hS4.set (.string rest)
      have hr5 := hr4.kept (grownBy_setCell' w2 w.heap.size (.string rest)) (.inr (hS4.not_row (by decide) hr4).symm)
      have hk5 : KeepsOthers X2 (w2.setCell ⟨w.heap.size, 0, none⟩ (.string rest)) := hk4.trans (KeepsOthers.setCell _ _ _)
      have hb5 : Below w.heap.size X2 (w2.setCell ⟨w.heap.size, 0, none⟩ (.string rest)) := hb4.setCell (p := ⟨w.heap.size, 0, none⟩) (Nat.le_refl _) _
      obtain ⟨w3, hw3⟩ : ∃ w3, w2.setCell ⟨w.heap.size, 0, none⟩ (.string rest) = w3 := ⟨_, rfl⟩
      rw [hw3] at hv5 hI5 hS5 hr5 hk5 hb5 ⊢
      clear hw3
      have hl5 := hk5.same _ _ hl2 rfl
      have hd5 := hk5.same _ _ hd2 rfl
      have hlz := (Array.getElem?_eq_some_iff.1 hl5).1
      have hoth5 : ∀ j, j ≠ w.heap.size + 3 + 1 → (w3.putObj (w.heap.size + 3 + 1) (.loop rc)).heap[j]? = w3.heap[j]? := fun j hj => World.putObj_heap_other hj
      have hB6 : Below w.heap.size w3 (w3.putObj (w.heap.size + 3 + 1) (.loop rc)) := belowK_b (w := w) (Nat.le_refl _) w3 _ _ _ (by omega) hl5 rfl rfl
      have hB7 := (hB2.trans hb5).trans hB6
      have hrcd : (w3.putObj (w.heap.size + 3 + 1) (.loop { { rc with state := .busy } with state := if (none : Option Code).isNone then .ready else .done, pending := none })) = w3.putObj (w.heap.size + 3 + 1) (.loop rc) := by
        have : ({ { rc with state := .busy } with state := if (none : Option Code).isNone then .ready else .done, pending := none } : Loop) = rc := by
          cases rc
          simp at hst hpe ⊢
          exact ⟨hst.symm, hpe.symm⟩
        rw [this]
      refine ⟨_, _, (run_endRound none hl5).trans (by rw [hrcd]; rfl), rfl, ⟨hLd.go hB7, ⟨_, (hoth5 _ (by omega)).trans hv5, ?_⟩, (hoth5 _ (by omega)).trans hS5, (hoth5 _ (by omega)).trans hd5, World.putObj_heap_same hlz, hB7⟩, (hoth5 _ (by omega)).trans hI5⟩
      have hr6 := ownsRow_putObj hr5 (.loop rc) hl5 rfl
      rw [List.length_append, List.length_singleton, List.flatMap_append, List.flatMap_singleton]
      exact hr6
    refine callsIn_of_wp Tryz.func61 rfl trivial ?_ rfl
    simp only [Tryz.ntmps61, List.size_toArray, List.length_cons, List.length_nil, Nat.reduceAdd, Nat.reduceSub, Array.replicate_succ, Array.replicate_zero, List.push_toArray, List.append_toArray, List.nil_append, List.cons_append]
    gi_wp2
    gi_loopw [4] (fun v4 wr => ∃ (f : Nat) (acc : List S26) (s : ByteArray), refs_All.l k f s acc = some R ∧ ASt w (w.heap.size + 1) w.heap.size W.heap.size (W.heap.size + 1) rc acc s wr ∧ Boxed wr (w.heap.size + 1 + 1) 9 (.string s) ∧ acc.length + s.size ≤ s0.size)
      (fun v4 wr => match wr.cell? ⟨w.heap.size + 1 + 1, 0, none⟩ with | some (.string s) => s.size | _ => 0)
    case atStart =>
      obtain ⟨f, hf⟩ := hR
      exact ⟨f, [], s0, hf, hA0, (hb9.block _ b3.lt).trans b3, by simp⟩
    case round =>
      obtain ⟨f, acc, s, hf, hA, hBs, hlen⟩ := hrel
      cases f with
      | zero => cases hf
      | succ f =>
      rw [refs_All.l] at hf
      obtain ⟨⟨t1, t2, t3, t4⟩, hT, hf⟩ := Option.bind_eq_some_iff.1 hf
      dsimp only at hf
      by_cases hn : 0 ≤ t4 ∧ t4 ≤ (s.size : Int)
      case neg => rw [if_neg hn] at hf; cases hf
      rw [if_pos hn] at hf
      have hc := hBs.cell
      have hc9 := Lib.hid hc
      gi_wp2
      refine ⟨trivial, (callsIn_wide.2 (refs_Take.calls k s t1 t2 t3 t4 _ hA.laid hT)).mono ?_⟩
      rintro e W1 ⟨rfl, hb⟩
      have hA1 := hA.go hb
      have hBs1 : Boxed W1 (w.heap.size + 1 + 1) 9 (.string s) := (hb.block _ hBs.lt).trans hBs
      clear hA hBs hb hc
      have hbA : Below W1.heap.size W1 (W1.alloc (.cells #[.string t1, .string t2, .string t3] 26)) := below_alloc (Below.refl _ _) _
      have hBs2 : Boxed (W1.alloc (.cells #[.string t1, .string t2, .string t3] 26)) (w.heap.size + 1 + 1) 9 (.string s) := (hbA.block _ hBs1.lt).trans hBs1
      have hlt3 := hA1.bel.size
      have hr2 := heap_alloc_new W1 (.cells #[.string t1, .string t2, .string t3] 26)
      have hBslt := hBs1.lt
      clear hbA
      have hc2 := hBs2.cell
      have hf2 := hBs2.frozen
      by_cases h0 : t4 = 0
      · rw [if_pos h0] at hf
        subst h0
        cases hf
        have hrest : s.extract (0 : Int).toNat s.size = s := by simp
        have hA3 := (hA1.set (y := s) hLd hBs1 (by omega) (by omega) (by omega)).go (below_alloc (Below.refl _ _) (.cells #[.string t1, .string t2, .string t3] 26))
        rw [hWs] at hA3
        clear hA1 hBs1
        gi_wp2
        refine ⟨(by intro f h; cases h), ?_⟩
        gi_wp2
        refine bodyPost_ret (results_none rfl _ _ _) rfl ?_
        exact ⟨⟨_, rfl⟩, hA3.rcd, rc, hA3⟩
      · rw [if_neg h0] at hf
        have hA3 := (hA1.set (y := s.extract t4.toNat s.size) hLd hBs1 (by omega) (by omega) (by omega)).go (below_alloc (Below.refl _ _) (.cells #[.string t1, .string t2, .string t3] 26))
        have hBs3 := (hBs1.set (.string (s.extract t4.toNat s.size))).alloc (.cells #[.string t1, .string t2, .string t3] 26)
        have hr3 := heap_alloc_new (W1.setCell ⟨w.heap.size + 1 + 1, 0, none⟩ (.string (s.extract t4.toNat s.size))) (.cells #[.string t1, .string t2, .string t3] 26)
        clear hA1 hBs1 hr2
        obtain ⟨fn', tmps', assign', body', hy, hRd⟩ := hround acc ⟨t1, t2, t3⟩ s (s.extract t4.toNat s.size) _ (by omega) hA3 hBs3
        rw [hWs] at hy hRd
        obtain ⟨p0, p1, p2, g0, g1, g2⟩ := row3_facts hr3
        have hc3 := hBs3.cell
        have hq : (t4 == 0) = false := beq_eq_false_iff_ne.2 h0
        gi_wp2
        refine hRd.mono ?_
        rintro e Z ⟨rfl, hA4, hBs4⟩
        gi_wp2
        go_roundw
        case rel => exact ⟨f, _, _, hf, by rw [hWs]; exact hA4, hBs4, by have := hn.2; simp; omega⟩
        case measure => have := hn.2; simp [hBs4.cell, hc9.out]; omega
  case done =>
    rintro rc W2 ⟨rc2, hA⟩ hl
    have hoth : ∀ j, j ≠ W.heap.size + 1 → (W2.putObj (W.heap.size + 1) (.loop { rc with state := .exhausted })).heap[j]? = W2.heap[j]? := fun j hj => World.putObj_heap_other hj
    obtain ⟨v, hv, hrow⟩ := hA.box
    have hrow2 := ownsRow_putObj hrow (.loop { rc with state := .exhausted }) hl rfl
    have hv2 : Boxed (W2.putObj (W.heap.size + 1) (.loop { rc with state := .exhausted })) (w.heap.size + 1) 22 v := (hoth _ (by omega)).trans hv
    have hS2 : Boxed (W2.putObj (W.heap.size + 1) (.loop { rc with state := .exhausted })) w.heap.size 9 (.string R.2) := (hoth _ (by omega)).trans hA.boxS
    have hd2 := (hoth W.heap.size (by omega)).trans hA.dfr
    have hB2 := hA.bel.trans (belowK_b (w := w) (Nat.le_refl _) W2 (W.heap.size + 1) (.loop rc) (.loop { rc with state := .exhausted }) (by omega) hl rfl rfl)
    obtain ⟨W3, hW3⟩ : ∃ W3, W3 = W2.putObj (W.heap.size + 1) (.loop { rc with state := .exhausted }) := ⟨_, rfl⟩
    rw [← hW3] at hrow2 hv2 hS2 hd2 hB2
    rw [show (W2.putObj (W.heap.size + 1) (.loop { rc with state := .exhausted })) = W3 from hW3.symm]
    clear hW3 hrow hv hoth
    have hvc := hv2.cell
    have hsc := hS2.cell
    gi_wp2
    gi_region
    gi_wp2
    refine ⟨by simp, .inl ⟨_, _, rfl, run_takeDeferred hd2, ?_⟩⟩
    exact ⟨_, results_tmp2 rfl _ _ _, v, rfl, refs_R (ownsRow_putObj hrow2 _ hd2 rfl), (below_drew1 hB2).trans (belowK_b (w := w) (Nat.le_refl _) W3.drew W.heap.size _ (.deferred none) (by omega) hd2 rfl rfl)⟩
/-- refs.All in plain words. -/
def refs_All.f (k : Nat) (a0 : ByteArray) : Option (List S26 × ByteArray) := if a0.size ≤ 1048576 then refs_All.l k k a0 [] else none
theorem refs_All.mono_l : ∀ (f k : Nat) (s : ByteArray) (acc : List S26) (r), refs_All.l k f s acc = some r → refs_All.l (k + 1) (f + 1) s acc = some r
  | 0, _, _, _, _, h => by cases h
  | f + 1, k, s, acc, r, h => by
    rw [refs_All.l] at h
    obtain ⟨t, hT, h⟩ := Option.bind_eq_some_iff.1 h
    rw [refs_All.l, refs_Take.mono s k t hT]
    show (if _ then _ else _) = _
    by_cases hn : 0 ≤ t.2.2.2 ∧ t.2.2.2 ≤ (s.size : Int)
    · rw [if_pos hn] at h ⊢
      by_cases h0 : t.2.2.2 = 0
      · rw [if_pos h0] at h ⊢
        exact h
      · rw [if_neg h0] at h ⊢
        exact refs_All.mono_l f k _ _ _ h
    · rw [if_neg hn] at h
      cases h
theorem refs_All.mono : ∀ a0 k, LeO (refs_All.f k a0) (refs_All.f (k + 1) a0) := by
  intro a0 k r h
  unfold refs_All.f at h ⊢
  by_cases hs : a0.size ≤ 1048576
  · rw [if_pos hs] at h ⊢
    exact refs_All.mono_l k k _ _ _ h
  · rw [if_neg hs] at h
    cases h
theorem refs_All.calls (k : Nat) (a0 : ByteArray) (r1 : List S26) (r2 : ByteArray) (w : World) (hLd : Laid w) (h : refs_All.f k a0 = some (r1, r2)) :
    Calls Tryz.prog 17 #[.string a0] w fun e w' => ∃ v0_, e = .returned (.tuple #[v0_, .string r2]) ∧ Kd.R k26 26 w' w.heap.size (fun _ => True) v0_ r1 ∧ Below w.heap.size w w' := by
  unfold refs_All.f at h
  by_cases hs : a0.size ≤ 1048576
  · rw [if_pos hs] at h
    exact all_walk k a0 (r1, r2) w hLd hs ⟨k, h⟩
  · rw [if_neg hs] at h
    cases h
end Go.Proofs.YtekifcbokdidlaaGreatDoor.PA

namespace Go.Proofs.YtekifcbokdidlaaGreatDoor.PA
open Go.RowKit Go.Proofs.YtekifcbokdidlaaGreatDoorW.PrintWords Go.Proofs.YtekifcbokdidlaaGreatDoorW.PrintLast Go.Proofs.YtekifcbokdidlaaGreatDoorW.PrintMore
attribute [local go_sem] max2_int min2_int max_two min_two max_three min_three max_four min_four   -- for this text's walks alone
set_option linter.unusedVariables false
set_option linter.unusedSimpArgs false

/-! ### incipitref03_among: function 95 -/
/-! ### incipitref03_fold: function 70 -/
/-! ### incipitref03_Fold: function 43 -/
/-! ### incipitref03_Label: function 22 -/
end Go.Proofs.YtekifcbokdidlaaGreatDoor.PA

namespace Go.Proofs.YtekifcbokdidlaaGreatDoor.Pure
open Go.RowKit Go.Proofs.YtekifcbokdidlaaGreatDoorW.PrintWords Go.Proofs.YtekifcbokdidlaaGreatDoorW.PrintMore Go.Proofs.YtekifcbokdidlaaGreatDoor.Pl Go.Proofs.YtekifcbokdidlaaGreatDoor.PA

theorem w32 {n : Int} (h0 : 0 ≤ n) (h1 : n ≤ 2000000) : wrap32 n = n := by unfold wrap32; omega
end Go.Proofs.YtekifcbokdidlaaGreatDoor.Pure

namespace Go.Proofs.YtekifcbokdidlaaGreatDoor.PA
open Go.RowKit Go.Shelf Go.Proofs.YtekifcbokdidlaaGreatDoor.Pl Go.Proofs.YtekifcbokdidlaaGreatDoorW.PrintWords Go.Proofs.YtekifcbokdidlaaGreatDoorW.PrintLast Go.Proofs.YtekifcbokdidlaaGreatDoorW.PrintMore
set_option linter.unusedVariables false

theorem flat_at : ∀ (l : List S26) (n : Nat) (u : Value), (l.flatMap encR3)[n]? = some u → ∃ j i x, n = j * 3 + i ∧ l[j]? = some x ∧ (encR3 x)[i]? = some u
  | [], n, u, h => by simp at h
  | x :: l, n, u, h => by
    rw [List.flatMap_cons] at h
    by_cases hn : n < 3
    · rw [List.getElem?_append_left hn] at h
      exact ⟨0, n, x, by omega, rfl, h⟩
    · rw [List.getElem?_append_right (show (encR3 x).length ≤ n from by show 3 ≤ n; omega)] at h
      obtain ⟨j, i, y, h1, h2, h3⟩ := flat_at l (n - 3) u h
      exact ⟨j + 1, i, y, by omega, h2, h3⟩
theorem flat_len : ∀ (l : List S26), (l.flatMap encR3).length = l.length * 3
  | [] => rfl
  | x :: l => by rw [List.flatMap_cons, List.length_append, flat_len l, List.length_cons]; show 3 + _ = _; omega
theorem flat_one : ∀ (l : List S26), ∀ u ∈ l.flatMap encR3, u.oneCell' = true := by
  intro l u hu
  obtain ⟨x, _, hx⟩ := List.mem_flatMap.1 hu
  simp [encR3] at hx
  rcases hx with rfl | rfl | rfl <;> simp [Value.oneCell']
theorem flat_cells {w : World} {ad : Addr} {l : List S26} (h : Kd.C k26 w (some ad) l.length l) : ∀ j u, (l.flatMap encR3)[j]? = some u → w.cell? (ad.add j) = some u := by
  intro n u hn
  obtain ⟨j, i, x, rfl, hx, hi⟩ := flat_at l n u hn
  have h0 : 0 < l.length := by have := (List.getElem?_eq_some_iff.1 hx).1; omega
  obtain ⟨ad', e, hc⟩ := h.2.2 h0
  obtain rfl := Option.some.inj e
  obtain ⟨c, _, hr, hcx⟩ := hc j x hx
  obtain rfl := k26_open hr
  exact hcx i u hi
set_option maxRecDepth 100000 in
set_option maxHeartbeats 2000000 in
theorem clone_walk (A : Option Addr) (c : Nat) (l : List S26) (w : World) (hC : Kd.C k26 w A l.length l) (hl : l.length ≤ 1048576) :
    Calls Tryz.prog 23 #[.slice A l.length c] w fun e w' => ∃ v, e = .returned v ∧ w'.ownsRow w.heap.size 26 3 v l.length (l.flatMap encR3) ∧ Below w.heap.size w w' := by
  have q22 : ∀ (w : World) (a : Option Addr) (n c n' c' : Nat), (binOp .eql 22 (.slice a n c) (.slice none n' c')).run Tryz.prog w = .ok (.bool a.isNone) w := fun w a n c n' c' => Lib.run_eql_slice_nil w _ _ a n c n' c' Tryz.underlying22
  obtain ⟨i0, hi, hi0, hi1, hi2⟩ := info_parts infoR
  cases A with
  | none =>
    have h0 : l.length = 0 := by
      rcases Nat.eq_zero_or_pos l.length with h | h
      · exact h
      · obtain ⟨ad, e, _⟩ := hC.2.2 h
        cases e
    obtain rfl := List.length_eq_zero_iff.1 h0
    go_enter Tryz.func23, Tryz.ntmps23
    go_wp2
    go_ret
    exact ⟨_, rfl, World.ownsRow_nil _ _ _ _, Below.refl _ _⟩
  | some ad =>
    have hcl := flat_cells hC
    have hfl := flat_len l
    have hfo := flat_one l
    obtain ⟨news, hnews⟩ : ∃ news, news = l.flatMap encR3 := ⟨_, rfl⟩
    rw [← hnews] at hcl hfl hfo ⊢
    obtain ⟨n, hn⟩ : ∃ n, n = l.length := ⟨_, rfl⟩
    rw [← hn] at hl hfl ⊢
    have A9 := Lib.hid hcl
    have A8 := Lib.hid hfo
    clear hnews hn hC hcl hfo
    go_enter Tryz.func23, Tryz.ntmps23
    go_wp2_with (at_builtin; refine wpList_append_own _ rfl _ _ 22 rfl w.heap.size 26 i0 (.agg #[.string ⟨#[]⟩, .string ⟨#[]⟩, .string ⟨#[]⟩]) 3 48 Tryz.underlying22 hi hi0 hi1 hi2 rfl (by decide) _ _ _ rfl (World.ownsRow_made w #[] 0 (Nat.le_refl _) (Nat.zero_le _) (by simp)) ad n c news rfl ?qc1 ?qc2 ?qc3 ?qc4 ?qc5 ?qc6 ?_)
    case qc1 => exact hfl
    case qc2 => exact fun j u hj => Lib.cell?_alloc_some _ (A9.out j u hj)
    case qc3 => exact A8.out
    case qc4 => simp only [maxLen]; omega
    case qc5 => omega
    case qc6 => simp
    intro v' w1 hown hgrow _
    go_wp2
    go_ret
    exact ⟨v', rfl, by simpa using hown, ((Below.refl _ w).alloc (Nat.le_refl _) _).grown hgrow (by simp) (by intro k hk; simp [Value.ownBlock] at hk; omega)⟩
/-- The closure of refs.Add: has that definition the same label? -/
theorem add_pred (x y z : ByteArray) (b : Nat) (w : World) (hb : b < w.heap.size) (hc : w.heap[b]? = some (.cells #[.string x, .string y, .string z] 26 (0, 0))) :
    PredBelow Tryz.prog 25 #[.pointer (some ⟨b, 0, none⟩)] (fun y => .agg (encR3 y).toArray) (fun y => y.f0.toList == x.toList) w := fun W y hB => by
  have hc2 := (row3_facts ((hB.block _ hb).trans hc)).1
  have hbW : b < W.heap.size := Nat.lt_of_lt_of_le hb hB.size
  have hne : b ≠ W.heap.size := by omega
  show Calls Tryz.prog 25 #[.agg #[.string y.f0, .string y.f1, .string y.f2], .pointer (some ⟨b, 0, none⟩)] W _
  go_enter Tryz.func25, Tryz.ntmps25
  go_wp2
  go_ret
  exact ⟨rfl, hB.alloc hB.size _⟩
theorem idx_any (p : S26 → Bool) (l : List S26) : decide (0 ≤ Lib.idxBy (fun _ y => p y) l default) = l.any p := by
  unfold Lib.idxBy
  rcases idx_from p l 0 with ⟨h1, h2⟩ | ⟨k, hk, h1, h2⟩
  · rw [h2]
    have : l.any p = false := by
      rw [List.find?_eq_none] at h1
      rw [List.any_eq_false]
      exact fun x hx => h1 x hx
    rw [this]
    rfl
  · rw [h2]
    have : l.any p = true := by
      have hm := List.find?_some h1
      rw [List.any_eq_true]
      exact ⟨_, List.mem_of_find?_eq_some h1, hm⟩
    rw [this]
    exact decide_eq_true (by omega)
theorem contains_walk (A0 : Option Addr) (c0 : Nat) (l : List S26) (p : S26 → Bool) (g : Nat) (lb : Array Value) (eg : ∀ args w, (callFunc g args).run Tryz.prog w = .ok (.enter g args) w) (w : World)
    (hp : PredBelow Tryz.prog g lb (fun x => .agg (encR3 x).toArray) p w) (hC : Kd.C k26 w A0 l.length l) :
    Calls Tryz.prog 24 #[.slice A0 l.length c0, .func (.func g) #[] lb] w fun e w' => e = .returned (.bool (l.any p)) ∧ Below w.heap.size w w' := by
  have h := Lib.hid (idx_walk A0 c0 l p g lb eg w hp hC)
  have ha := idx_any p l
  go_enter Tryz.func24, Tryz.ntmps24
  go_wp2_with fail
  refine h.out.mono ?_
  rintro e w' ⟨rfl, hb⟩
  go_wp2
  go_ret
  exact ⟨by rw [← ha]; rfl, hb⟩
/-- Definitions behind others: those whose label is new. -/
def addL : List S26 → List S26 → List S26
  | out, [] => out
  | out, r :: m => if out.any (fun y => y.f0.toList == r.f0.toList) = true then addL out m else addL (out ++ [r]) m
theorem addL_len : ∀ (m out : List S26), (addL out m).length ≤ out.length + m.length
  | [], out => by rw [addL]; simp
  | r :: m, out => by
    rw [addL]
    split
    · have := addL_len m out; simp; omega
    · have := addL_len m (out ++ [r]); simp at this ⊢; omega
set_option maxRecDepth 100000 in
set_option maxHeartbeats 4000000 in
theorem add_walk (A0 : Option Addr) (c0 : Nat) (l0 : List S26) (A1 : Option Addr) (c1 : Nat) (l1 : List S26) (w : World) (hC0 : Kd.C k26 w A0 l0.length l0) (hC1 : Kd.C k26 w A1 l1.length l1) (hl : l0.length + l1.length ≤ 1000000) :
    Calls Tryz.prog 13 #[.slice A0 l0.length c0, .slice A1 l1.length c1] w fun e w' => ∃ v, e = .returned v ∧ w'.ownsRow w.heap.size 26 3 v (addL l0 l1).length ((addL l0 l1).flatMap encR3) ∧ Below w.heap.size w w' := by
  obtain ⟨i0, hi, hi0, hi1, hi2⟩ := info_parts infoR
  have hcl := Lib.hid (clone_walk A0 c0 l0 w hC0 (by omega))
  have HC1 := Lib.hid hC1
  obtain ⟨R, hR⟩ : ∃ R, addL l0 l1 = R := ⟨_, rfl⟩
  rw [hR]
  have HR := Lib.hid hR
  clear hC0 hC1 hR
  go_enter Tryz.func13, Tryz.ntmps13
  go_wp2_with fail
  refine hcl.out.mono ?_
  rintro e w1 ⟨v, rfl, hown, hb⟩
  have HO := Lib.hid hown
  have HB := Lib.hid hb
  clear hown hb hcl
  go_wp2_with fail
  go_loopw [5, 12] (fun v5 v12 wr => ∃ (i : Nat) (out : List S26), v12 = .int .i64 (i : Int) ∧ i ≤ l1.length ∧ Hid (addL out (l1.drop i) = R) ∧ out.length ≤ l0.length + i ∧ Hid (wr.ownsRow w.heap.size 26 3 v5 out.length (out.flatMap encR3)) ∧ Hid (Below w.heap.size w wr))
    (fun _ v12 _ => l1.length - (intOf v12).toNat)
  case atStart => exact ⟨0, l0, rfl, Nat.zero_le _, HR, Nat.le_refl _, HO, HB⟩
  case round =>
    clear HO HB HR
    obtain ⟨i, out, rfl, hil, HE, hol, HO, HB⟩ := hrel
    by_cases hlt : i < l1.length
    · have hCw := Kd.C_below HC1.out HB.out
      obtain ⟨ad, rfl, q0, q1, q2⟩ := at_T26 hCw (i : Int) (by omega) (by omega)
      rw [Int.toNat_natCast] at q0 q1 q2
      obtain ⟨x, hx⟩ : ∃ x, rd_T26 l1 (i : Int) = x := ⟨_, rfl⟩
      have hx1 : l1[i] = x := by
        rw [← hx]
        unfold rd_T26
        rw [Int.toNat_natCast, List.getD_eq_getElem?_getD, List.getElem?_eq_getElem hlt]
        rfl
      rw [hx] at q0 q1 q2
      clear hx hCw
      have hE := HE.out
      rw [List.drop_eq_getElem_cons hlt, hx1, addL] at hE
      clear hx1 HE
      obtain ⟨A, c, rfl, hc, hCo⟩ := Kd.R_reads (refs_R HO.out)
      have HCo := Lib.hid hCo
      clear hCo
      have hr1 := heap_alloc_new wr (.cells #[.string x.f0, .string x.f1, .string x.f2] 26)
      have hwl : wr.heap.size < (wr.alloc (.cells #[.string x.f0, .string x.f1, .string x.f2] 26)).heap.size := by simp
      have hbA : Below wr.heap.size wr (wr.alloc (.cells #[.string x.f0, .string x.f1, .string x.f2] 26)) := below_alloc (Below.refl _ _) _
      have HK := Lib.hid (contains_walk A c out (fun y => y.f0.toList == x.f0.toList) 25 #[.pointer (some ⟨wr.heap.size, 0, none⟩)] (enters_of Tryz.func25 (by kernel_rfl) rfl) _ (add_pred x.f0 x.f1 x.f2 wr.heap.size _ hwl hr1) (Kd.C_below HCo.out hbA))
      have HR1 := Lib.hid hr1
      have HBA := Lib.hid hbA
      clear hr1 hbA
      go_wp2_with fail
      refine HK.out.mono ?_
      rintro e w3 ⟨rfl, hb3⟩
      have hbb := HBA.out.trans (hb3.mono (Nat.le_of_lt hwl))
      have HB3 := Lib.hid (HB.out.trans (hbb.mono HB.out.size))
      have HO3 := Lib.hid (pw_own_below HO.out hbb)
      have hr3 := (hb3.block _ hwl).trans HR1.out
      have hz3 := hbb.size
      have hz0 := HB.out.size
      have hwl3 := Nat.lt_of_lt_of_le hwl hb3.size
      obtain ⟨p0, p1, p2, g0, g1, g2⟩ := row3_facts hr3
      clear HK HB HO HR1 HBA hbb hb3 hr3 q0 q1 q2
      cases hp : out.any (fun y => y.f0.toList == x.f0.toList) with
      | true =>
        rw [if_pos hp] at hE
        have HE := Lib.hid hE
        clear hE
        go_wp2
        go_roundw
        case rel => exact ⟨i + 1, out, by simp, by omega, HE, by omega, HO3, HB3⟩
        case measure => simp [intOf]; omega
      | false =>
        rw [if_neg (by rw [hp]; decide)] at hE
        have HE := Lib.hid hE
        clear hE
        go_wp2_with (at_builtin; refine wpList_append_own _ rfl _ _ 22 rfl w.heap.size 26 i0 (.agg #[.string ⟨#[]⟩, .string ⟨#[]⟩, .string ⟨#[]⟩]) 3 48 Tryz.underlying22 hi hi0 hi1 hi2 rfl (by decide) _ _ _ rfl (HO3.out.alloc _) ⟨w3.heap.size, 0, none⟩ 1 1 [.string x.f0, .string x.f1, .string x.f2] rfl rfl (cell_three_new _ _ _ _ _) (by simp [Value.oneCell']) (by simp only [maxLen]; omega) (by omega) (by simp; omega) ?_; intro v' w4 hown' hgrow _)
        have HO4 : Hid (w4.ownsRow w.heap.size 26 3 v' (out ++ [x]).length ((out ++ [x]).flatMap encR3)) := by
          refine Lib.hid ?_
          rw [List.length_append, List.length_singleton, List.flatMap_append, List.flatMap_singleton]
          exact hown'
        have HB4 : Hid (Below w.heap.size w w4) := Lib.hid ((HB3.out.alloc HB3.out.size _).grown hgrow (by simp; omega) (fun k hk => own_base HO3.out k hk))
        clear hown' hgrow
        go_wp2
        go_roundw
        case rel => exact ⟨i + 1, out ++ [x], by simp, by omega, HE, by simp; omega, HO4, HB4⟩
        case measure => simp [intOf]; omega
    · have hE := HE.out
      rw [List.drop_eq_nil_of_le (by omega), addL] at hE
      subst hE
      go_wp2
      go_ret
      exact ⟨_, rfl, HO.out, HB.out⟩
/-- refs.Add in plain words. -/
def refs_Add.f (l0 l1 : List S26) : Option (List S26) := if l0.length + l1.length ≤ 1000000 then some (addL l0 l1) else none
theorem refs_Add.calls (A0 : Option Addr) (c0 : Nat) (l0 : List S26) (A1 : Option Addr) (c1 : Nat) (l1 : List S26) (r1 : List S26) (w : World) (hLd : Laid w)
    (hr0 : Kd.C k26 w A0 l0.length l0) (hc0 : l0.length ≤ c0) (hr1 : Kd.C k26 w A1 l1.length l1) (hc1 : l1.length ≤ c1) (h : refs_Add.f l0 l1 = some r1) :
    Calls Tryz.prog 13 #[.slice A0 l0.length c0, .slice A1 l1.length c1] w fun e w' => ∃ v0_, e = .returned v0_ ∧ Kd.R k26 26 w' w.heap.size (fun _ => True) v0_ r1 ∧ Below w.heap.size w w' := by
  unfold refs_Add.f at h
  by_cases hl : l0.length + l1.length ≤ 1000000
  · rw [if_pos hl] at h
    obtain rfl := Option.some.inj h
    refine (add_walk A0 c0 l0 A1 c1 l1 w hr0 hr1 hl).mono ?_
    rintro e w' ⟨v, rfl, ho, hb⟩
    exact ⟨v, rfl, refs_R ho, hb⟩
  · rw [if_neg hl] at h
    cases h
end Go.Proofs.YtekifcbokdidlaaGreatDoor.PA
