/-
  Texts of the proof of LinkPlain, part 2 of 4: contracts and plain laws. Conditions: see each statement.
-/
import Derived.Test.YtjobchgncdgfaaaGreatDoorSLinkPlain1
import Derived.OneCell
import Derived.Lib.SplitLaws
import Derived.Great.BuildSlice
import Derived.WalkLawsBesides
import Derived.BigQuiet
import Derived.Deep.QuietTactic
import Derived.Deep.RegionHeld3
namespace Go.Proofs.YtjobchgncdgfaaaGreatDoor.PA
open Go.RowKit Go.Proofs.YtjobchgncdgfaaaGreatDoor.Pl Go.Proofs.YtjobchgncdgfaaaGreatDoor.Pure Go.Proofs.YtjobchgncdgfaaaGreatDoorW.PrintWords Go.Proofs.YtjobchgncdgfaaaGreatDoorW.PrintLast Go.Proofs.YtjobchgncdgfaaaGreatDoorW.PrintMore
set_option linter.unusedVariables false

/-- Does an address end at a byte? -/
def dstp (o : Nat) (x : UInt8) : Bool := decide (x.toNat ≤ 32) || (decide (x = 127) || (decide (x = 41) && decide (o = 0)))
/-- How many are open behind a byte. -/
def dsto (o : Nat) (x : UInt8) : Nat := if x = 41 then o - 1 else if x = 40 then o + 1 else o
/-- Were they too deep? -/
def dstd (o : Nat) (d : Bool) (x : UInt8) : Bool := if x = 40 then d || decide (32 < o + 1) else d
/-- How far an address goes, how many are open there, and whether they were too deep. -/
def dstL : List UInt8 → Nat → Bool → Nat × Nat × Bool
  | [], o, d => (0, o, d)
  | [x], o, d => if dstp o x = true then (0, o, d) else (1, dsto o x, dstd o d x)
  | x :: y :: t, o, d => if x = 92 ∧ sgn y = true then ((dstL t o d).1 + 2, (dstL t o d).2) else if dstp o x = true then (0, o, d) else ((dstL (y :: t) (dsto o x) (dstd o d x)).1 + 1, (dstL (y :: t) (dsto o x) (dstd o d x)).2)
theorem dst_esc (x y : UInt8) (t : List UInt8) (o : Nat) (d : Bool) (h : x = 92) (h2 : sgn y = true) : dstL (x :: y :: t) o d = ((dstL t o d).1 + 2, (dstL t o d).2) := by rw [dstL, if_pos ⟨h, h2⟩]
theorem dst_one (x : UInt8) (t : List UInt8) (o : Nat) (d : Bool) (h : x = 92 → ∀ y u, t = y :: u → sgn y = false) :
    dstL (x :: t) o d = if dstp o x = true then (0, o, d) else ((dstL t (dsto o x) (dstd o d x)).1 + 1, (dstL t (dsto o x) (dstd o d x)).2) := by
  cases t with
  | nil => rfl
  | cons y u =>
    rw [dstL, if_neg]
    rintro ⟨h1, h2⟩
    rw [h h1 y u rfl] at h2
    cases h2
/-- Two boxes. -/
def Box2 (b : Nat) (o : Nat) (d : Bool) (W : World) : Prop :=
  W.heap[b]? = some (.cells #[.int .i64 (o : Int)] 3 (0, 0)) ∧ W.heap[b + 1]? = some (.cells #[.bool d] 4 (0, 0))
theorem two_other {w : World} {b k : Nat} {u : Value} (h : k ≠ b) : (w.setCell ⟨b, 0, none⟩ u).heap[k]? = w.heap[k]? := Below.heap_setCell _ _ _ _ h
theorem box2_o {b o : Nat} {d : Bool} {W : World} (v : Nat) (h : Box2 b o d W) : Box2 b v d (W.setCell ⟨b, 0, none⟩ (.int .i64 (v : Int))) :=
  ⟨one_setCell h.1, (two_other (by omega)).trans h.2⟩
theorem box2_d {b o : Nat} {d : Bool} {W : World} (v : Bool) (h : Box2 b o d W) : Box2 b o v (W.setCell ⟨b + 1, 0, none⟩ (.bool v)) :=
  ⟨(two_other (by omega)).trans h.1, one_setCell h.2⟩
theorem box2_lt {b o : Nat} {d : Bool} {W : World} (h : Box2 b o d W) : b + 1 < W.heap.size := by
  rcases Nat.lt_or_ge (b + 1) W.heap.size with h1 | h1
  · exact h1
  · have := h.2
    rw [Array.getElem?_eq_none h1] at this
    cases this
theorem box2_below {b o : Nat} {d : Bool} {W W' : World} (h : Box2 b o d W) (hb : Below W.heap.size W W') : Box2 b o d W' := by
  have hl := box2_lt h
  exact ⟨(hb.block b (by omega)).trans h.1, (hb.block (b + 1) hl).trans h.2⟩
theorem dst1_stop (x : UInt8) (o : Nat) (d : Bool) (b : Nat) (W : World) (h : Box2 b o d W) (hp : dstp o x = true) (ho : o ≤ 1099511627776) :
    Calls Tryz.prog 25 #[.int .u8 (x.toNat : Int), .pointer (some ⟨b, 0, none⟩), .pointer (some ⟨b + 1, 0, none⟩)] W fun e w' => e = .returned (.bool true) ∧ w' = W := by
  have c1 := cell_of_one h.1
  have e1 : ((x.toNat : Int) = 127) ↔ x = 127 := u8_eq _ 127 (by omega)
  have e2 : ((x.toNat : Int) = 41) ↔ x = 41 := u8_eq _ 41 (by omega)
  by_cases h0 : x.toNat ≤ 32
  · have q0 : decide ((x.toNat : Int) ≤ 32) = true := decide_eq_true (by omega)
    clear hp h e1 e2 h0
    go_enter Tryz.func25, Tryz.ntmps25
    go_wp2
    go_ret
    exact ⟨rfl, rfl⟩
  · have q0 : decide ((x.toNat : Int) ≤ 32) = false := decide_eq_false (by omega)
    by_cases h1 : x = 127
    · have q1 : ((x.toNat : Int) == 127) = true := beq_iff_eq.2 (e1.2 h1)
      clear hp h e1 e2 h0 h1
      go_enter Tryz.func25, Tryz.ntmps25
      go_wp2
      go_ret
      exact ⟨rfl, rfl⟩
    · have q1 : ((x.toNat : Int) == 127) = false := beq_eq_false_iff_ne.2 (fun e => h1 (e1.1 e))
      unfold dstp at hp
      rw [decide_eq_false h0, decide_eq_false h1, Bool.false_or, Bool.false_or, Bool.and_eq_true, decide_eq_true_eq, decide_eq_true_eq] at hp
      obtain ⟨h2, rfl⟩ := hp
      have q2 : ((x.toNat : Int) == 41) = true := beq_iff_eq.2 (e2.2 h2)
      have q3 : (((0 : Nat) : Int) == 0) = true := rfl
      clear h e1 e2 h0 h1 h2
      go_enter Tryz.func25, Tryz.ntmps25
      go_wp2
      go_ret
      exact ⟨rfl, rfl⟩
set_option maxHeartbeats 1000000 in
theorem dst1_go (x : UInt8) (o : Nat) (d : Bool) (b : Nat) (W : World) (h : Box2 b o d W) (hp : dstp o x = false) (ho : o ≤ 1099511627776) :
    Calls Tryz.prog 25 #[.int .u8 (x.toNat : Int), .pointer (some ⟨b, 0, none⟩), .pointer (some ⟨b + 1, 0, none⟩)] W
      fun e w' => e = .returned (.bool false) ∧ Box2 b (dsto o x) (dstd o d x) w' ∧ Below b W w' := by
  have HX := Aside0.mk h
  have c1 := cell_of_one h.1
  have f1 := free_of_one h.1
  have e1 : ((x.toNat : Int) = 127) ↔ x = 127 := u8_eq _ 127 (by omega)
  have e2 : ((x.toNat : Int) = 41) ↔ x = 41 := u8_eq _ 41 (by omega)
  have e3 : ((x.toNat : Int) = 40) ↔ x = 40 := u8_eq _ 40 (by omega)
  unfold dstp at hp
  simp only [Bool.or_eq_false_iff, Bool.and_eq_false_iff, decide_eq_false_iff_not] at hp
  obtain ⟨h0, h1, h4⟩ := hp
  have q0 : decide ((x.toNat : Int) ≤ 32) = false := decide_eq_false (by omega)
  have q1 : ((x.toNat : Int) == 127) = false := beq_eq_false_iff_ne.2 (fun e => h1 (e1.1 e))
  by_cases h2 : x = 41
  · have ho0 : o ≠ 0 := by rcases h4 with h4 | h4; exact absurd h2 h4; exact h4
    have q2 : ((x.toNat : Int) == 41) = true := beq_iff_eq.2 (e2.2 h2)
    have q3 : ((o : Int) == 0) = false := beq_eq_false_iff_ne.2 (by omega)
    have HO := Aside0.mk (show dsto o x = o - 1 ∧ dstd o d x = d ∧ (o : Int) - 1 = ((o - 1 : Nat) : Int) by subst h2; exact ⟨rfl, rfl, by omega⟩)
    clear h e1 e2 e3 h0 h1 h2 h4
    go_enter Tryz.func25, Tryz.ntmps25
    go_wp2
    go_ret
    rw [HO.out.1, HO.out.2.1, HO.out.2.2]
    exact ⟨rfl, box2_o _ HX.out, (Below.refl b W).setCell (p := ⟨b, 0, none⟩) (Nat.le_refl _) _⟩
  · have q2 : ((x.toNat : Int) == 41) = false := beq_eq_false_iff_ne.2 (fun e => h2 (e2.1 e))
    by_cases h3 : x = 40
    · have q4 : ((x.toNat : Int) == 40) = true := beq_iff_eq.2 (e3.2 h3)
      have HO := Aside0.mk (show dsto o x = o + 1 ∧ dstd o d x = (d || decide (32 < o + 1)) by subst h3; exact ⟨rfl, rfl⟩)
      have B1 := Aside0.mk (box2_o (o + 1) h)
      have c2 := cell_of_one B1.out.2
      have f2 := free_of_one B1.out.2
      have c3 := cell_of_one B1.out.1
      rw [show ((o + 1 : Nat) : Int) = (o : Int) + 1 from rfl] at c2 f2 c3
      clear h e1 e2 e3 h0 h1 h2 h4 h3
      cases d with
      | true =>
        go_enter Tryz.func25, Tryz.ntmps25
        go_wp2
        go_ret
        rw [HO.out.1, HO.out.2]
        exact ⟨rfl, box2_d true (box2_o (o + 1) HX.out), ((Below.refl b W).setCell (p := ⟨b, 0, none⟩) (Nat.le_refl _) _).setCell (p := ⟨b + 1, 0, none⟩) (Nat.le_succ _) _⟩
      | false =>
        have q5 : decide ((32 : Int) < (o : Int) + 1) = decide (32 < o + 1) := by
          by_cases hq : 32 < o + 1
          · rw [decide_eq_true hq]; exact decide_eq_true (by omega)
          · rw [decide_eq_false hq]; exact decide_eq_false (by omega)
        go_enter Tryz.func25, Tryz.ntmps25
        go_wp2
        go_ret
        rw [HO.out.1, HO.out.2]
        exact ⟨rfl, box2_d _ (box2_o (o + 1) HX.out), ((Below.refl b W).setCell (p := ⟨b, 0, none⟩) (Nat.le_refl _) _).setCell (p := ⟨b + 1, 0, none⟩) (Nat.le_succ _) _⟩
    · have q4 : ((x.toNat : Int) == 40) = false := beq_eq_false_iff_ne.2 (fun e => h3 (e3.1 e))
      have HO := Aside0.mk (show dsto o x = o ∧ dstd o d x = d by unfold dsto dstd; rw [if_neg h2, if_neg h3, if_neg h3]; exact ⟨rfl, rfl⟩)
      clear h e1 e2 e3 h0 h1 h2 h4 h3
      go_enter Tryz.func25, Tryz.ntmps25
      go_wp2
      go_ret
      rw [HO.out.1, HO.out.2]
      exact ⟨rfl, HX.out, Below.refl _ _⟩
theorem dsto_le (o : Nat) (x : UInt8) (k : Nat) (h : o ≤ k) : dsto o x ≤ k + 1 := by
  unfold dsto
  split
  · omega
  · split <;> omega
set_option maxHeartbeats 4000000 in
set_option maxRecDepth 100000 in
theorem each_dst (s : List UInt8) (hs : s.length ≤ 1099511627776) (b : Nat) (w : World) (hbx : Box2 b 0 false w) :
    Calls Tryz.prog 21 #[.string (B s), .int .i64 0, .func (.func 25) #[] #[.pointer (some ⟨b, 0, none⟩), .pointer (some ⟨b + 1, 0, none⟩)]] w
      fun e w' => e = .returned (.int .i64 (((dstL s 0 false).1 : Nat) : Int)) ∧ Box2 b (dstL s 0 false).2.1 (dstL s 0 false).2.2 w' ∧ Below b w w' := by
  have hsz : (B s).size = s.length := B_size s
  obtain ⟨R, hR⟩ : ∃ R, dstL s 0 false = R := ⟨_, rfl⟩
  rw [hR]
  have HX0 := Lib.hid hbx
  clear hbx
  go_enter Tryz.func21, Tryz.ntmps21
  go_wp2
  go_loopw [7] (fun vi wr => ∃ (k o : Nat) (d : Bool), vi = .int .i64 k ∧ k ≤ s.length ∧ Hid (o ≤ k) ∧ Hid ((k + (dstL (s.drop k) o d).1, (dstL (s.drop k) o d).2) = R) ∧ Hid (Box2 b o d wr) ∧ Hid (Below b w wr))
    (fun vi _ => s.length - (intOf vi).toNat)
  case atStart => exact ⟨0, 0, false, rfl, by omega, Lib.hid (Nat.le_refl _), Lib.hid (by rw [List.drop_zero, hR]; simp), HX0, Lib.hid (Below.refl _ _)⟩
  case round =>
    obtain ⟨k, o, d, rfl, hk, HO, HA, HX, HB⟩ := hrel
    have ho := HO.out
    by_cases hkn : k < s.length
    · have hks : k < (B s).size := by omega
      have hi : (B s)[k]'hks = s[k] := List.getElem_toArray hkn
      obtain ⟨x, hx⟩ : ∃ x, s[k] = x := ⟨_, rfl⟩
      have hdr : s.drop k = x :: s.drop (k + 1) := by rw [← hx]; exact List.drop_eq_getElem_cons hkn
      rw [hx] at hi
      have hA := HA.out
      rw [hdr] at hA
      by_cases h92 : x = 92
      · have q : (((x.toNat : Nat) : Int) == 92) = true := by rw [h92]; rfl
        by_cases hk1 : k + 1 < s.length
        · have hks1 : k + 1 < (B s).size := by omega
          have hi1 : (B s)[k + 1]'hks1 = s[k + 1] := List.getElem_toArray hk1
          have q1 : decide ((k : Int) + 1 < (s.length : Int)) = true := decide_eq_true (by omega)
          obtain ⟨y, hy⟩ : ∃ y, s[k + 1] = y := ⟨_, rfl⟩
          have hdr2 : s.drop (k + 1) = y :: s.drop (k + 2) := by rw [← hy]; exact List.drop_eq_getElem_cons hk1
          rw [hy] at hi1
          rw [hdr2] at hA
          have HS := Lib.hid (sign_any y wr)
          have hlt := box2_lt HX.out
          cases hsg : sgn y with
          | true =>
            rw [dst_esc x y _ o d h92 hsg] at hA
            have HR := Lib.hid (show ((k + 2) + (dstL (s.drop (k + 2)) o d).1, (dstL (s.drop (k + 2)) o d).2) = R by rw [← hA]; exact Prod.ext (by show _ = k + (_ + 2); omega) rfl)
            clear hA hdr hdr2 h92 hx hy
            go_wp2_with fail
            refine HS.out.mono ?_
            rintro e w2 ⟨rfl, hb2⟩
            rw [hsg]
            have HB2 := Lib.hid (HB.out.trans (hb2.mono (by omega)))
            have HX2 := Lib.hid (box2_below HX.out hb2)
            have HO2 := Lib.hid (show o ≤ k + 2 by omega)
            clear hb2 HS hsg HB hlt
            go_wp2
            go_roundw
            case rel => exact ⟨k + 2, o, d, by go_num, by omega, HO2, HR, HX2, HB2⟩
            case measure => simp [intOf]; omega
          | false =>
            rw [dst_one x _ o d (fun _ y' u e => by cases e; exact hsg), ← hdr2] at hA
            clear hdr hdr2 h92 hx hy
            go_wp2_with fail
            refine HS.out.mono ?_
            rintro e w2 ⟨rfl, hb2⟩
            rw [hsg]
            have HB2 := Lib.hid (HB.out.trans (hb2.mono (by omega)))
            have HX2 := Lib.hid (box2_below HX.out hb2)
            clear hb2 HS hsg HB hlt
            cases hp : dstp o x with
            | true =>
              rw [hp, if_pos rfl] at hA
              have HR := Lib.hid hA
              go_wp2_with fail
              refine (dst1_stop x o d b _ HX2.out hp (by omega)).mono ?_
              rintro e w3 ⟨rfl, rfl⟩
              clear hA hp
              go_wp2
              go_ret
              exact ⟨congrArg (fun z => Ending.returned (.int .i64 z)) (by have := HR.out; rw [← this]; simp), by have := HR.out; rw [← this]; exact HX2.out, HB2.out⟩
            | false =>
              rw [hp, if_neg (by decide)] at hA
              have HR := Lib.hid (show ((k + 1) + (dstL (s.drop (k + 1)) (dsto o x) (dstd o d x)).1, (dstL (s.drop (k + 1)) (dsto o x) (dstd o d x)).2) = R by rw [← hA]; exact Prod.ext (by show _ = k + (_ + 1); omega) rfl)
              go_wp2_with fail
              refine (dst1_go x o d b _ HX2.out hp (by omega)).mono ?_
              rintro e w3 ⟨rfl, hx3, hb3⟩
              have HX3 := Lib.hid hx3
              have HB3 := Lib.hid (HB2.out.trans hb3)
              have HO3 := Lib.hid (dsto_le o x k ho)
              clear hA hp hx3 hb3
              go_wp2
              go_roundw
              case rel => exact ⟨k + 1, dsto o x, dstd o d x, by go_num, by omega, HO3, HR, HX3, HB3⟩
              case measure => simp [intOf]; omega
        · have q1 : decide ((k : Int) + 1 < (s.length : Int)) = false := decide_eq_false (by omega)
          have hnil : s.drop (k + 1) = [] := List.drop_of_length_le (by omega)
          rw [dst_one x _ o d (fun _ y' u e => by rw [hnil] at e; cases e)] at hA
          clear hdr h92 hx hnil
          cases hp : dstp o x with
          | true =>
            rw [hp, if_pos rfl] at hA
            have HR := Lib.hid hA
            go_wp2_with fail
            refine (dst1_stop x o d b _ HX.out hp (by omega)).mono ?_
            rintro e w3 ⟨rfl, rfl⟩
            clear hA hp
            go_wp2
            go_ret
            exact ⟨congrArg (fun z => Ending.returned (.int .i64 z)) (by have := HR.out; rw [← this]; simp), by have := HR.out; rw [← this]; exact HX.out, HB.out⟩
          | false =>
            rw [hp, if_neg (by decide)] at hA
            have HR := Lib.hid (show ((k + 1) + (dstL (s.drop (k + 1)) (dsto o x) (dstd o d x)).1, (dstL (s.drop (k + 1)) (dsto o x) (dstd o d x)).2) = R by rw [← hA]; exact Prod.ext (by show _ = k + (_ + 1); omega) rfl)
            go_wp2_with fail
            refine (dst1_go x o d b _ HX.out hp (by omega)).mono ?_
            rintro e w3 ⟨rfl, hx3, hb3⟩
            have HX3 := Lib.hid hx3
            have HB3 := Lib.hid (HB.out.trans hb3)
            have HO3 := Lib.hid (dsto_le o x k ho)
            clear hA hp hx3 hb3
            go_wp2
            go_roundw
            case rel => exact ⟨k + 1, dsto o x, dstd o d x, by go_num, by omega, HO3, HR, HX3, HB3⟩
            case measure => simp [intOf]; omega
      · have q : (((x.toNat : Nat) : Int) == 92) = false := beq_eq_false_iff_ne.2 (fun e => h92 ((u8_eq x 92 (by omega)).1 e))
        rw [dst_one x _ o d (fun e => absurd e h92)] at hA
        clear hdr h92 hx
        cases hp : dstp o x with
        | true =>
          rw [hp, if_pos rfl] at hA
          have HR := Lib.hid hA
          go_wp2_with fail
          refine (dst1_stop x o d b _ HX.out hp (by omega)).mono ?_
          rintro e w3 ⟨rfl, rfl⟩
          clear hA hp
          go_wp2
          go_ret
          exact ⟨congrArg (fun z => Ending.returned (.int .i64 z)) (by have := HR.out; rw [← this]; simp), by have := HR.out; rw [← this]; exact HX.out, HB.out⟩
        | false =>
          rw [hp, if_neg (by decide)] at hA
          have HR := Lib.hid (show ((k + 1) + (dstL (s.drop (k + 1)) (dsto o x) (dstd o d x)).1, (dstL (s.drop (k + 1)) (dsto o x) (dstd o d x)).2) = R by rw [← hA]; exact Prod.ext (by show _ = k + (_ + 1); omega) rfl)
          go_wp2_with fail
          refine (dst1_go x o d b _ HX.out hp (by omega)).mono ?_
          rintro e w3 ⟨rfl, hx3, hb3⟩
          have HX3 := Lib.hid hx3
          have HB3 := Lib.hid (HB.out.trans hb3)
          have HO3 := Lib.hid (dsto_le o x k ho)
          clear hA hp hx3 hb3
          go_wp2
          go_roundw
          case rel => exact ⟨k + 1, dsto o x, dstd o d x, by go_num, by omega, HO3, HR, HX3, HB3⟩
          case measure => simp [intOf]; omega
    · have hnil : s.drop k = [] := List.drop_of_length_le (by omega)
      have HR := Lib.hid (show (s.length, o, d) = R by have := HA.out; rw [hnil] at this; rw [← this]; exact Prod.ext (by show _ = k + 0; omega) rfl)
      clear HA hnil
      go_wp2
      go_ret
      exact ⟨congrArg (fun z => Ending.returned (.int .i64 z)) (by have := HR.out; rw [← this]), by have := HR.out; rw [← this]; exact HX.out, HB.out⟩
end Go.Proofs.YtjobchgncdgfaaaGreatDoor.PA

namespace Go.Proofs.YtjobchgncdgfaaaGreatDoor.PA
open Go.RowKit Go.Proofs.YtjobchgncdgfaaaGreatDoorW.PrintWords

def strings_TrimLeft.f (a0 a1 : ByteArray) : Option ByteArray := if a0.size ≤ 9223372036854775807 ∧ a1.size ≤ 4294967280 ∧ (a1.data.toList.all fun b => decide (b.toNat < 128)) = true then some ⟨(Lib.trimLeftS a0.data.toList a1.data.toList).toArray⟩ else none
theorem strings_TrimLeft.calls (a0 a1 : ByteArray) (r : ByteArray) (w : World) (h : strings_TrimLeft.f a0 a1 = some r) :
    Calls Tryz.prog 33 #[.string a0, .string a1] w fun e w' => e = .returned (.string r) ∧ Below w.heap.size w w' := by
  unfold strings_TrimLeft.f at h
  split at h
  · rename_i hc
    obtain ⟨h1, h2, h3⟩ := hc
    obtain rfl := Option.some.inj h
    exact Any.strings_TrimLeft_laid Tryz.lays161 (by kernel_rfl) a0 a1 w (by omega) (ascii_of_all h3)
  · cases h
def strings_Trim.f (a0 a1 : ByteArray) : Option ByteArray := if a0.size ≤ 9223372036854775807 ∧ a1.size ≤ 4294967280 ∧ (a1.data.toList.all fun b => decide (b.toNat < 128)) = true then some ⟨(Lib.trimS a0.data.toList a1.data.toList).toArray⟩ else none
theorem strings_Trim.calls (a0 a1 : ByteArray) (r : ByteArray) (w : World) (h : strings_Trim.f a0 a1 = some r) :
    Calls Tryz.prog 44 #[.string a0, .string a1] w fun e w' => e = .returned (.string r) ∧ Below w.heap.size w w' := by
  unfold strings_Trim.f at h
  split at h
  · rename_i hc
    obtain ⟨h1, h2, h3⟩ := hc
    obtain rfl := Option.some.inj h
    exact Any.strings_Trim_laid Tryz.lays160 (by kernel_rfl) a0 a1 w h1 (by omega) (ascii_of_all h3)
  · cases h
end Go.Proofs.YtjobchgncdgfaaaGreatDoor.PA

namespace Go.Proofs.YtjobchgncdgfaaaGreatDoor.Pure
open Go.RowKit Go.Proofs.YtjobchgncdgfaaaGreatDoorW.PrintWords Go.Proofs.YtjobchgncdgfaaaGreatDoorW.PrintMore Go.Proofs.YtjobchgncdgfaaaGreatDoor.Pl Go.Proofs.YtjobchgncdgfaaaGreatDoor.PA

/-- How much white a text begins with. -/
def wht (s : List UInt8) : Nat := s.length - (Lib.trimLeftS s [32, 9, 10]).length
theorem trim_le (s c : List UInt8) : (Lib.trimLeftS s c).length ≤ s.length := by
  unfold Lib.trimLeftS
  exact (List.dropWhile_suffix _).length_le
theorem wht_le (s : List UInt8) : wht s ≤ s.length := Nat.sub_le _ _
theorem wht_int (s : List UInt8) : (s.length : Int) - ((Lib.trimLeftS s [32, 9, 10]).length : Int) = (wht s : Int) := by
  have := trim_le s [32, 9, 10]
  unfold wht
  omega
/-- The label a text begins with, and how long it is. -/
def lab : List UInt8 → List UInt8 × Nat
  | [] => ([], 0)
  | x :: t => if x = 91 then
      match t.drop (eachL pLab t) with
      | [] => ([], 0)
      | y :: _ => if y = 91 ∨ 999 < eachL pLab t ∨ wht (t.take (eachL pLab t)) = eachL pLab t then ([], 0) else (t.take (eachL pLab t), eachL pLab t + 2)
    else ([], 0)
/-- An address in brackets, behind the first one. -/
def ang (t : List UInt8) : List UInt8 × Nat × Bool :=
  match t.drop (eachL pAng t) with
  | [] => ([], 0, false)
  | y :: _ => if y = 62 then (une (t.take (eachL pAng t)), eachL pAng t + 2, true) else ([], 0, false)
/-- The address a text begins with, and how long it is. -/
def dst (s : List UInt8) : List UInt8 × Nat × Bool :=
  if s.head? = some 60 then ang (s.drop 1)
  else if (dstL s 0 false).1 = 0 ∨ 0 < (dstL s 0 false).2.1 ∨ (dstL s 0 false).2.2 = true then ([], 0, false)
  else (une (s.take (dstL s 0 false).1), (dstL s 0 false).1, true)
/-- What a title ends with. -/
def cls : List UInt8 → UInt8
  | [] => 0
  | x :: _ => if x = 34 then x else if x = 39 then x else if x = 40 then 41 else 0
/-- Is a text blank? -/
def blk (s : List UInt8) : Bool := s.all fun x => decide (x = 32) || decide (x = 9)
/-- A text cut at its LF: what has come of this line, what is left. -/
def lf : List UInt8 → List UInt8 → List (List UInt8)
  | cur, [] => [cur]
  | cur, x :: t => if x = 10 then cur :: lf [] t else lf (cur ++ [x]) t
theorem lf_none : ∀ (t cur : List UInt8), (10 : UInt8) ∉ t → lf cur t = [cur ++ t]
  | [], cur, _ => by simp [lf]
  | x :: t, cur, h => by
    rw [List.mem_cons, not_or] at h
    rw [lf, if_neg (fun e => h.1 e.symm), lf_none t _ h.2, List.append_assoc]
    rfl
theorem lf_cut : ∀ (p cur r : List UInt8), (10 : UInt8) ∉ p → lf cur (p ++ 10 :: r) = (cur ++ p) :: lf [] r
  | [], cur, r, _ => by simp [lf]
  | x :: p, cur, r, h => by
    rw [List.mem_cons, not_or] at h
    rw [List.cons_append, lf, if_neg (fun e => h.1 e.symm), lf_cut p _ r h.2, List.append_assoc]
    rfl
theorem lf_pos : ∀ (t cur : List UInt8), lf cur t ≠ []
  | [], _ => by simp [lf]
  | x :: t, cur => by
    rw [lf]
    split
    · simp
    · exact lf_pos t _
theorem ib_first : ∀ (p r : List UInt8) (c : UInt8), c ∉ p → Lib.indexByte (p ++ c :: r) c = p.length
  | [], r, c, _ => by simp [Lib.indexByte]
  | x :: p, r, c, h => by
    rw [List.mem_cons, not_or] at h
    have ih := ib_first p r c h.2
    simp only [List.cons_append, Lib.indexByte]
    rw [if_neg (by simpa using fun e => h.1 e.symm), ih, if_neg (by rw [beq_iff_eq]; omega)]
    simp
theorem mem_split (c : UInt8) : ∀ s : List UInt8, c ∈ s → ∃ p r, s = p ++ c :: r ∧ c ∉ p
  | [], h => by cases h
  | x :: t, h => by
    by_cases hx : x = c
    · exact ⟨[], t, by rw [hx]; rfl, by simp⟩
    · obtain ⟨p, r, e, hp⟩ := mem_split c t (by rcases List.mem_cons.1 h with e | e; exact absurd e.symm hx; exact e)
      exact ⟨x :: p, r, by rw [e]; rfl, by rw [List.mem_cons, not_or]; exact ⟨fun e => hx e.symm, hp⟩⟩
theorem split_lf : ∀ (n : Nat) (s : List UInt8), s.length ≤ n → Lib.splitB ⟨#[10]⟩ 0 (Lib.countB (B s) ⟨#[10]⟩) (B s) = (lf [] s).map B := by
  intro n
  induction n with
  | zero =>
    intro s h
    obtain rfl := List.length_eq_zero_iff.1 (Nat.le_zero.1 h)
    rfl
  | succ n ih =>
    intro s h
    by_cases hm : (10 : UInt8) ∈ s
    · obtain ⟨p, r, rfl, hp⟩ := mem_split 10 s hm
      rw [List.length_append, List.length_cons] at h
      have hc : Lib.countB (B (p ++ 10 :: r)) ⟨#[10]⟩ = Lib.countB (B r) ⟨#[10]⟩ + 1 := by
        show Lib.count (B (p ++ 10 :: r)).data.toList [10] = Lib.count (B r).data.toList [10] + 1
        rw [Lib.count_one, Lib.count_one, B_data, B_data, List.count_append, List.count_eq_zero.2 hp, List.count_cons_self]
        omega
      have hi : Lib.indexB (B (p ++ 10 :: r)) ⟨#[10]⟩ = (p.length : Int) := by
        show Lib.index (B (p ++ 10 :: r)).data.toList [10] = _
        rw [Lib.index_one, B_data, ib_first p r 10 hp]
      have e1 : (B (p ++ 10 :: r)).extract 0 (p.length + 0) = B p := by
        rw [Nat.add_zero, B_to, List.take_left']
        rfl
      have e2 : (B (p ++ 10 :: r)).extract (p.length + 1) (B (p ++ 10 :: r)).size = B r := by
        rw [B_from _ _ _ (B_size _), ← List.drop_drop, List.drop_left' rfl]
        rfl
      rw [lf_cut p [] r hp, List.map_cons, List.nil_append, hc, Lib.splitB, hi, if_neg (by rw [beq_iff_eq]; omega), Int.toNat_natCast, e1]
      congr 1
      rw [← ih r (by omega)]
      exact congrArg _ e2
    · have hc : Lib.countB (B s) ⟨#[10]⟩ = 0 := by
        show Lib.count (B s).data.toList [10] = 0
        rw [Lib.count_one, B_data]
        exact List.count_eq_zero.2 hm
      rw [hc, Lib.splitB_zero, lf_none s [] hm]
      rfl
/-- A text's lines. -/
def lns (s : List UInt8) : List (List UInt8) := lf [] s
theorem split_f (s : List UInt8) (h : s.length ≤ 1048576) : strings_Split.f (B s) ⟨#[10]⟩ = some ((lns s).map B) := by
  unfold strings_Split.f
  rw [if_pos ⟨by rw [B_size]; omega, by decide⟩, split_lf _ s (Nat.le_refl _)]
  rfl
theorem lf_len : ∀ (t cur : List UInt8), (lf cur t).length ≤ t.length + 1
  | [], _ => by simp [lf]
  | x :: t, cur => by
    rw [lf]
    split
    · have := lf_len t []
      simp only [List.length_cons]
      omega
    · have := lf_len t (cur ++ [x])
      simp only [List.length_cons]
      omega
theorem lf_size : ∀ (t cur : List UInt8), ∀ p ∈ lf cur t, p.length ≤ cur.length + t.length
  | [], cur, p, hp => by
    rw [lf, List.mem_singleton] at hp
    rw [hp]
    simp
  | x :: t, cur, p, hp => by
    rw [lf] at hp
    split at hp
    · rcases List.mem_cons.1 hp with rfl | hp
      · simp
      · have := lf_size t [] p hp
        simp at this ⊢
        omega
    · have := lf_size t (cur ++ [x]) p hp
      simp at this ⊢
      omega
theorem blk_snoc (c : List UInt8) (x : UInt8) : blk (c ++ [x]) = (blk c && (decide (x = 32) || decide (x = 9))) := by
  unfold blk
  rw [List.all_append]
  simp
/-- Is one of some lines, other than the last one (and the first one, unless it counts), of blanks alone? -/
def mid : Bool → List (List UInt8) → Bool
  | _, [] => false
  | _, [_] => false
  | b, x :: y :: r => (b && blk x) || mid true (y :: r)
/-- Has a text a line of blanks alone, other than its first and last? -/
def gp : Bool → List UInt8 → Bool
  | _, [] => false
  | b, x :: t => if x = 10 then b || gp true t else gp (b && (decide (x = 32) || decide (x = 9))) t
theorem mid_gp : ∀ (t cur : List UInt8) (b : Bool), mid b (lf cur t) = gp (b && blk cur) t
  | [], cur, b => rfl
  | x :: t, cur, b => by
    rw [lf, gp]
    by_cases h : x = 10
    · rw [if_pos h, if_pos h]
      have ih := mid_gp t [] true
      rw [show (true && blk []) = true from rfl] at ih
      rw [← ih]
      cases hl : lf [] t with
      | nil => exact absurd hl (lf_pos t [])
      | cons y r => rw [mid]
    · rw [if_neg h, if_neg h, mid_gp t _ b, blk_snoc, Bool.and_assoc]
theorem gp_lns (s : List UInt8) : mid true ((lns s).drop 1) = gp false s := by
  have h := mid_gp s [] false
  rw [Bool.false_and] at h
  rw [← h]
  unfold lns
  cases hl : lf [] s with
  | nil => exact absurd hl (lf_pos s [])
  | cons y r =>
    cases r with
    | nil => rfl
    | cons z r => rw [mid, Bool.false_and, Bool.false_or]; rfl
theorem dw_nil (p : UInt8 → Bool) : ∀ l : List UInt8, l.dropWhile p = [] ↔ ∀ x ∈ l, p x = true
  | [] => by simp
  | x :: t => by
    rw [List.dropWhile_cons]
    split
    · rename_i h
      rw [dw_nil p t, List.forall_mem_cons]
      exact ⟨fun e => ⟨h, e⟩, fun e => e.2⟩
    · rename_i h
      exact ⟨fun e => (by cases e), fun e => absurd (e x List.mem_cons_self) h⟩
theorem tw_mem (p : UInt8 → Bool) : ∀ (l : List UInt8) (x : UInt8), x ∈ l.takeWhile p → p x = true
  | [], x, h => by cases h
  | y :: t, x, h => by
    rw [List.takeWhile_cons] at h
    split at h
    · rename_i hy
      rcases List.mem_cons.1 h with rfl | h
      · exact hy
      · exact tw_mem p t x h
    · cases h
theorem trim_nil (p : List UInt8) : (Lib.trimS p [32, 9] = []) ↔ blk p = true := by
  have h : ∀ x : UInt8, ([32, 9] : List UInt8).contains x = (decide (x = 32) || decide (x = 9)) := by
    intro x
    have := (by decide +kernel : ∀ y : Fin 256, ([32, 9] : List UInt8).contains (UInt8.ofNat y.val) = (decide (UInt8.ofNat y.val = 32) || decide (UInt8.ofNat y.val = 9))) ⟨x.toNat, x.toNat_lt⟩
    rwa [show UInt8.ofNat x.toNat = x from UInt8.ofNat_toNat] at this
  have hd : ∀ l : List UInt8, Lib.trimLeftS l [32, 9] = [] ↔ blk l = true := by
    intro l
    unfold Lib.trimLeftS blk
    rw [List.all_eq_true]
    constructor
    · intro e x hx
      have := (dw_nil _ _).1 e x hx
      rw [← h x]
      exact this
    · intro e
      refine (dw_nil _ _).2 (fun x hx => ?_)
      rw [h x]
      exact e x hx
  have hr : blk (Lib.trimRightS p [32, 9]) = true ↔ blk p = true := by
    have e : Lib.trimRightS p [32, 9] = (Lib.trimLeftS p.reverse [32, 9]).reverse := rfl
    rw [e]
    have hrev : ∀ l : List UInt8, blk l.reverse = blk l := fun l => by unfold blk; rw [List.all_reverse]
    rw [hrev]
    constructor
    · intro h1
      rw [← hrev p]
      unfold blk at h1 ⊢
      rw [List.all_eq_true] at h1 ⊢
      intro x hx
      rw [← List.takeWhile_append_dropWhile (p := fun y => ([32, 9] : List UInt8).contains y) (l := p.reverse)] at hx
      rcases List.mem_append.1 hx with hx | hx
      · rw [← h x]
        exact tw_mem _ _ _ hx
      · exact h1 x hx
    · intro h1
      have : Lib.trimLeftS p.reverse [32, 9] = [] := (hd _).2 (by rw [hrev]; exact h1)
      rw [this]
      rfl
  unfold Lib.trimS
  rw [hd, hr]
/-- The title a text begins with, and how long it is. -/
def ttl : List UInt8 → List UInt8 × Nat
  | [] => ([], 0)
  | x :: t => if cls (x :: t) = 0 then ([], 0) else
      match t.drop (eachL (pTit (cls (x :: t))) t) with
      | [] => ([], 0)
      | y :: _ => if y = cls (x :: t) then (if gp false (t.take (eachL (pTit (cls (x :: t))) t)) = true then ([], 0) else (une (t.take (eachL (pTit (cls (x :: t))) t)), eachL (pTit (cls (x :: t))) t + 2)) else ([], 0)
end Go.Proofs.YtjobchgncdgfaaaGreatDoor.Pure

namespace Go.Proofs.YtjobchgncdgfaaaGreatDoor.Pure
open Go.RowKit Go.Proofs.YtjobchgncdgfaaaGreatDoorW.PrintWords Go.Proofs.YtjobchgncdgfaaaGreatDoorW.PrintMore Go.Proofs.YtjobchgncdgfaaaGreatDoor.Pl Go.Proofs.YtjobchgncdgfaaaGreatDoor.PA

theorem lab_cons (x : UInt8) (t : List UInt8) : lab (x :: t) = if x = 91 then
      match t.drop (eachL pLab t) with
      | [] => ([], 0)
      | y :: _ => if y = 91 ∨ 999 < eachL pLab t ∨ wht (t.take (eachL pLab t)) = eachL pLab t then ([], 0) else (t.take (eachL pLab t), eachL pLab t + 2)
    else ([], 0) := rfl
theorem ttl_cons (x : UInt8) (t : List UInt8) : ttl (x :: t) = if cls (x :: t) = 0 then ([], 0) else
      match t.drop (eachL (pTit (cls (x :: t))) t) with
      | [] => ([], 0)
      | y :: _ => if y = cls (x :: t) then (if gp false (t.take (eachL (pTit (cls (x :: t))) t)) = true then ([], 0) else (une (t.take (eachL (pTit (cls (x :: t))) t)), eachL (pTit (cls (x :: t))) t + 2)) else ([], 0) := rfl
theorem cls_cons (x : UInt8) (t : List UInt8) : cls (x :: t) = if x = 34 then x else if x = 39 then x else if x = 40 then 41 else 0 := rfl
theorem each_st (p : UInt8 → Bool) (hp : p 92 = false) : ∀ (l : List UInt8) (j : Nat) (m : List UInt8), eachL p l < j → j ≤ l.length → eachL p (l.take j ++ m) = eachL p l
  | [], j, m, h1, h2 => by simp at h2; omega
  | [x], j, m, h1, h2 => by
    obtain rfl : j = 1 := by simp at h2; omega
    have hx : p x = true := by
      cases h : p x with
      | true => rfl
      | false => unfold eachL at h1; rw [h, if_neg (by decide)] at h1; omega
    have h92 : x ≠ 92 := fun e => by rw [e, hp] at hx; cases hx
    show eachL p (x :: m) = eachL p [x]
    rw [each_one p x m (fun e => absurd e h92), if_pos hx]
    unfold eachL
    rw [if_pos hx]
  | x :: y :: t, j, m, h1, h2 => by
    simp only [List.length_cons] at h2
    by_cases he : x = 92 ∧ sgn y = true
    · rw [each_esc p x y t he.1 he.2] at h1 ⊢
      obtain ⟨j, rfl⟩ : ∃ i, j = i + 2 := ⟨j - 2, by omega⟩
      rw [List.take_succ_cons, List.take_succ_cons, List.cons_append, List.cons_append, each_esc p x y _ he.1 he.2, each_st p hp t j m (by omega) (by omega)]
    · have h3 : x = 92 → ∀ y' u, y :: t = y' :: u → sgn y' = false := by
        rintro e y' u e2
        cases e2
        cases h : sgn y with
        | false => rfl
        | true => exact absurd ⟨e, h⟩ he
      obtain ⟨j, rfl⟩ : ∃ i, j = i + 1 := ⟨j - 1, by omega⟩
      rw [each_one p x (y :: t) h3] at h1 ⊢
      rw [List.take_succ_cons, List.cons_append]
      by_cases hx : p x = true
      · have h92 : x ≠ 92 := fun e => by rw [e, hp] at hx; cases hx
        rw [each_one p x _ (fun e => absurd e h92), if_pos hx, if_pos hx]
      · rw [if_neg hx] at h1 ⊢
        have ih := each_st p hp (y :: t) j m (by omega) (by simp only [List.length_cons]; omega)
        obtain ⟨i, rfl⟩ : ∃ i, j = i + 1 := ⟨j - 1, by omega⟩
        rw [each_one p x _ (fun e y' u e2 => by rw [List.take_succ_cons, List.cons_append] at e2; cases e2; exact h3 e y t rfl), if_neg hx, ih]
theorem each_self (p : UInt8 → Bool) : ∀ (l : List UInt8), eachL p l ≤ l.length → eachL p (l.take (eachL p l)) = eachL p l
  | [], _ => rfl
  | [x], _ => by
    have e : eachL p [x] = if p x = true then 0 else 1 := rfl
    by_cases h : p x = true
    · rw [e, if_pos h]; rfl
    · rw [e, if_neg h]
      show eachL p [x] = 1
      rw [e, if_neg h]
  | x :: y :: t, hl => by
    by_cases he : x = 92 ∧ sgn y = true
    · rw [each_esc p x y t he.1 he.2] at hl ⊢
      simp only [List.length_cons] at hl
      rw [List.take_succ_cons, List.take_succ_cons, each_esc p x y _ he.1 he.2, each_self p t (by omega)]
    · have h3 : x = 92 → ∀ y' u, y :: t = y' :: u → sgn y' = false := by
        rintro e y' u e2
        cases e2
        cases h : sgn y with
        | false => rfl
        | true => exact absurd ⟨e, h⟩ he
      rw [each_one p x (y :: t) h3] at hl ⊢
      by_cases hx : p x = true
      · rw [if_pos hx]
        rfl
      · rw [if_neg hx] at hl ⊢
        simp only [List.length_cons] at hl
        have ih := each_self p (y :: t) (by simp only [List.length_cons]; omega)
        rw [List.take_succ_cons, each_one p x _ (fun e y' u e2 => ?_), if_neg hx, ih]
        cases hE : eachL p (y :: t) with
        | zero => rw [hE] at e2; cases e2
        | succ i => rw [hE, List.take_succ_cons] at e2; cases e2; exact h3 e y t rfl
theorem each_at (p : UInt8 → Bool) : ∀ (l : List UInt8) (y : UInt8) (u : List UInt8), l.drop (eachL p l) = y :: u → p y = true
  | [], y, u, h => by cases h
  | [x], y, u, h => by
    by_cases hx : p x = true
    · unfold eachL at h
      rw [if_pos hx] at h
      cases h
      exact hx
    · unfold eachL at h
      rw [if_neg hx] at h
      cases h
  | x :: z :: t, y, u, h => by
    by_cases he : x = 92 ∧ sgn z = true
    · rw [each_esc p x z t he.1 he.2, List.drop_succ_cons, List.drop_succ_cons] at h
      exact each_at p t y u h
    · rw [each_one p x (z :: t) (by
        rintro e y' u e2
        cases e2
        cases h : sgn z with
        | false => rfl
        | true => exact absurd ⟨e, h⟩ he)] at h
      by_cases hx : p x = true
      · rw [if_pos hx] at h
        cases h
        exact hx
      · rw [if_neg hx, List.drop_succ_cons] at h
        exact each_at p (z :: t) y u h
theorem dstp_92 (o : Nat) : dstp o 92 = false := by
  unfold dstp
  simp
theorem dstL_st : ∀ (l : List UInt8) (o : Nat) (d : Bool) (j : Nat) (m : List UInt8), (dstL l o d).1 < j → j ≤ l.length → dstL (l.take j ++ m) o d = dstL l o d
  | [], o, d, j, m, h1, h2 => by simp at h2; omega
  | [x], o, d, j, m, h1, h2 => by
    obtain rfl : j = 1 := by simp at h2; omega
    have hx : dstp o x = true := by
      cases h : dstp o x with
      | true => rfl
      | false => unfold dstL at h1; rw [h, if_neg (by decide)] at h1; exact absurd h1 (by show ¬ (1 < 1); omega)
    have h92 : x ≠ 92 := fun e => by rw [e, dstp_92] at hx; cases hx
    show dstL (x :: m) o d = dstL [x] o d
    rw [dst_one x m o d (fun e => absurd e h92), if_pos hx]
    unfold dstL
    rw [if_pos hx]
  | x :: y :: t, o, d, j, m, h1, h2 => by
    simp only [List.length_cons] at h2
    by_cases he : x = 92 ∧ sgn y = true
    · rw [dst_esc x y t o d he.1 he.2] at h1 ⊢
      simp only at h1
      obtain ⟨j, rfl⟩ : ∃ i, j = i + 2 := ⟨j - 2, by omega⟩
      rw [List.take_succ_cons, List.take_succ_cons, List.cons_append, List.cons_append, dst_esc x y _ o d he.1 he.2, dstL_st t o d j m (by omega) (by omega)]
    · have h3 : x = 92 → ∀ y' u, y :: t = y' :: u → sgn y' = false := by
        rintro e y' u e2
        cases e2
        cases h : sgn y with
        | false => rfl
        | true => exact absurd ⟨e, h⟩ he
      obtain ⟨j, rfl⟩ : ∃ i, j = i + 1 := ⟨j - 1, by omega⟩
      rw [dst_one x (y :: t) o d h3] at h1 ⊢
      rw [List.take_succ_cons, List.cons_append]
      by_cases hx : dstp o x = true
      · have h92 : x ≠ 92 := fun e => by rw [e, dstp_92] at hx; cases hx
        rw [dst_one x _ o d (fun e => absurd e h92), if_pos hx, if_pos hx]
      · rw [if_neg hx] at h1 ⊢
        simp only at h1
        have ih := dstL_st (y :: t) (dsto o x) (dstd o d x) j m (by omega) (by simp only [List.length_cons]; omega)
        obtain ⟨i, rfl⟩ : ∃ i, j = i + 1 := ⟨j - 1, by omega⟩
        rw [dst_one x _ o d (fun e y' u e2 => by rw [List.take_succ_cons, List.cons_append] at e2; cases e2; exact h3 e y t rfl), if_neg hx, ih]
theorem sgn_above (y : UInt8) (h : sgn y = true) : 32 < y.toNat ∧ y ≠ 127 := by
  have hh : ∀ z : Fin 256, sgn (UInt8.ofNat z.val) = true → 32 < (UInt8.ofNat z.val).toNat ∧ UInt8.ofNat z.val ≠ 127 := by decide +kernel
  have := hh ⟨y.toNat, y.toNat_lt⟩
  rw [show UInt8.ofNat y.toNat = y from UInt8.ofNat_toNat] at this
  exact this h
theorem dstp_above (o : Nat) (x : UInt8) (h : ¬ dstp o x = true) : 32 < x.toNat ∧ x ≠ 127 := by
  unfold dstp at h
  simp only [Bool.or_eq_true, decide_eq_true_eq, not_or] at h
  exact ⟨by omega, h.2.1⟩
theorem dstL_in : ∀ (l : List UInt8) (o : Nat) (d : Bool), ∀ x ∈ l.take (dstL l o d).1, 32 < x.toNat ∧ x ≠ 127
  | [], o, d, x, h => by simp at h
  | [z], o, d, x, h => by
    unfold dstL at h
    by_cases hz : dstp o z = true
    · rw [if_pos hz] at h
      simp at h
    · rw [if_neg hz] at h
      have : x = z := by simpa using h
      rw [this]
      exact dstp_above o z hz
  | z :: y :: t, o, d, x, h => by
    by_cases he : z = 92 ∧ sgn y = true
    · rw [dst_esc z y t o d he.1 he.2, List.take_succ_cons, List.take_succ_cons, List.mem_cons, List.mem_cons] at h
      rcases h with rfl | rfl | h
      · rw [he.1]; decide
      · exact sgn_above _ he.2
      · exact dstL_in t o d x h
    · rw [dst_one z (y :: t) o d (by
        rintro e y' u e2
        cases e2
        cases h : sgn y with
        | false => rfl
        | true => exact absurd ⟨e, h⟩ he)] at h
      by_cases hz : dstp o z = true
      · rw [if_pos hz] at h
        simp at h
      · rw [if_neg hz, List.take_succ_cons, List.mem_cons] at h
        rcases h with rfl | h
        · exact dstp_above o _ hz
        · exact dstL_in (y :: t) _ _ x h
theorem dstL_at : ∀ (l : List UInt8) (o : Nat) (d : Bool) (y : UInt8) (u : List UInt8), l.drop (dstL l o d).1 = y :: u → dstp (dstL l o d).2.1 y = true
  | [], o, d, y, u, h => by cases h
  | [z], o, d, y, u, h => by
    unfold dstL at h ⊢
    by_cases hz : dstp o z = true
    · rw [if_pos hz] at h ⊢
      cases h
      exact hz
    · rw [if_neg hz] at h
      cases h
  | z :: x :: t, o, d, y, u, h => by
    by_cases he : z = 92 ∧ sgn x = true
    · rw [dst_esc z x t o d he.1 he.2] at h ⊢
      rw [List.drop_succ_cons, List.drop_succ_cons] at h
      exact dstL_at t o d y u h
    · rw [dst_one z (x :: t) o d (by
        rintro e y' u e2
        cases e2
        cases h : sgn x with
        | false => rfl
        | true => exact absurd ⟨e, h⟩ he)] at h ⊢
      by_cases hz : dstp o z = true
      · rw [if_pos hz] at h ⊢
        cases h
        exact hz
      · rw [if_neg hz] at h ⊢
        rw [List.drop_succ_cons] at h
        exact dstL_at (x :: t) _ _ y u h
/-- Is a byte white? -/
def wsp (x : UInt8) : Bool := decide (x = 32) || (decide (x = 9) || decide (x = 10))
theorem wsp_eq (x : UInt8) : ([32, 9, 10] : List UInt8).contains x = wsp x := by
  have h : ∀ y : Fin 256, ([32, 9, 10] : List UInt8).contains (UInt8.ofNat y.val) = wsp (UInt8.ofNat y.val) := by decide +kernel
  have := h ⟨x.toNat, x.toNat_lt⟩
  rwa [show UInt8.ofNat x.toNat = x from UInt8.ofNat_toNat] at this
theorem wht_nil : wht [] = 0 := rfl
theorem wht_cons (x : UInt8) (t : List UInt8) : wht (x :: t) = if wsp x = true then wht t + 1 else 0 := by
  have h1 := trim_le t [32, 9, 10]
  unfold wht Lib.trimLeftS at *
  rw [List.dropWhile_cons, wsp_eq]
  split
  · simp only [List.length_cons]; omega
  · simp only [List.length_cons]; omega
theorem wht_st : ∀ (l : List UInt8) (j : Nat) (m : List UInt8), wht l < j → j ≤ l.length → wht (l.take j ++ m) = wht l
  | [], j, m, h1, h2 => by simp at h2; omega
  | x :: t, j, m, h1, h2 => by
    obtain ⟨j, rfl⟩ : ∃ i, j = i + 1 := ⟨j - 1, by omega⟩
    rw [wht_cons] at h1 ⊢
    rw [List.take_succ_cons, List.cons_append, wht_cons]
    by_cases hx : wsp x = true
    · rw [if_pos hx] at h1
      rw [if_pos hx, if_pos hx, wht_st t j m (by omega) (by simp only [List.length_cons] at h2; omega)]
    · rw [if_neg hx, if_neg hx]
theorem wht_at : ∀ (l : List UInt8) (y : UInt8) (u : List UInt8), l.drop (wht l) = y :: u → wsp y = false
  | [], y, u, h => by cases h
  | x :: t, y, u, h => by
    rw [wht_cons] at h
    by_cases hx : wsp x = true
    · rw [if_pos hx, List.drop_succ_cons] at h
      exact wht_at t y u h
    · rw [if_neg hx] at h
      cases h
      simpa using hx
end Go.Proofs.YtjobchgncdgfaaaGreatDoor.Pure

namespace Go.Proofs.YtjobchgncdgfaaaGreatDoor.PA
open Go.RowKit Go.Proofs.YtjobchgncdgfaaaGreatDoor.Pl Go.Proofs.YtjobchgncdgfaaaGreatDoorW.PrintWords Go.Proofs.YtjobchgncdgfaaaGreatDoorW.PrintLast Go.Proofs.YtjobchgncdgfaaaGreatDoorW.PrintMore
set_option linter.unusedVariables false

noncomputable def rtOps : Array Oper := match Tryz.f71.body with
  | some (.seq _ (.seq (.region _ o _) _)) => o
  | _ => #[]
noncomputable def rtO1 : Oper := (rtOps.toList.drop 183).headD { dst := none, op := .store 0 (.tmp 0) (.tmp 0), type := 0, pos := "", after := #[], guard := none }
noncomputable def rtO2 : Oper := (rtOps.toList.drop 184).headD { dst := none, op := .store 0 (.tmp 0) (.tmp 0), type := 0, pos := "", after := #[], guard := none }
noncomputable def rtParts : Array (Nat × Operand) := match rtO1.op with
  | .buildSlice _ _ p => p
  | _ => #[]
def rtAct : Act := { tmps := #[Value.slice none 0 0] ++ Array.replicate 184 undef, defers := [] }
def rtz : Value := .agg #[.string ByteArray.empty, .int .i32 0]
theorem rt_built : (bldAll Tryz.prog (rtOps.toList.take 183) rtAct).map (fun a => (Instr.fill (fun i => some (i * 2, 2)) ((Array.range (183 * 2)).map (rtz.cells[· % rtz.cells.size]!)) (rtParts.map fun (i, x) => (i, a.eval x)).toList, a.defers, a.tmps.size)) = some (some entCells, [], 185) := by kernel_rfl
theorem rt_ops : rtOps.toList.drop 183 = [rtO1, rtO2] := by kernel_rfl
theorem rt_o1 : rtO1.dst = some 184 ∧ rtO1.guard = none ∧ rtO1.op = .buildSlice 76 183 rtParts := ⟨by kernel_rfl, by kernel_rfl, by kernel_rfl⟩
theorem rt_o2 : rtO2.dst = some 0 ∧ rtO2.guard = none ∧ rtO2.op = .assign (.tmp 184) := ⟨by kernel_rfl, by kernel_rfl, by kernel_rfl⟩
theorem rt_body : Tryz.f71.body = some (.seq (.region 0 #[{ dst := some 0, op := .assign (.const (.slice none 0 0)), type := 76, pos := "ref.go:11", after := #[], guard := none }] false) (.seq (.region 1 rtOps false) .ret)) := by kernel_rfl
theorem rt_desc : Tryz.prog.underlying 76 = some (.slice 79) := by kernel_rfl
theorem rt_info : (Tryz.prog.info? 79).map (fun i => (i.zero, i.size)) = some (some rtz, 2) := by kernel_rfl
def rtS : List S79 := entL.map fun e => ⟨B e.1, (e.2 : Int)⟩
theorem rt_reps {R : S79 → List Value → Prop} (h : ∀ x, R x [.string x.f0, .int .i32 x.f1]) : ∀ l : List (List UInt8 × Nat), Reps R 2 (l.map fun e => (⟨B e.1, (e.2 : Int)⟩ : S79)) (l.flatMap fun e => [Value.string (B e.1), Value.int .i32 (e.2 : Int)])
  | [] => ⟨by simp, fun j p hj => by simp at hj⟩
  | e :: l => by
    have ih := rt_reps h l
    refine ⟨by have h1 := ih.1; rw [List.length_map] at h1; simp only [List.flatMap_cons, List.length_append, List.map_cons, List.length_cons, List.length_nil, List.length_map, h1]; omega, fun j p hj => ?_⟩
    cases j with
    | zero =>
      simp at hj
      subst hj
      simpa using h ⟨B e.1, (e.2 : Int)⟩
    | succ j =>
      have h2 := ih.2 j p (by simpa using hj)
      rw [show (j + 1) * 2 = j * 2 + 2 by omega]
      simpa using h2
set_option maxRecDepth 100000 in
set_option maxHeartbeats 4000000 in
theorem rt_walk (w : World) : Calls Tryz.prog 71 #[] w fun e w' => ∃ v0_, e = .returned v0_ ∧ Kd.R k79 79 w' w.heap.size (fun _ => True) v0_ rtS ∧ Below w.heap.size w w' := by
  refine calls_of_wp Tryz.func71 rt_body ?_
  have htm : (#[] : Array Value) ++ Array.replicate ((Tryz.f71).ntmps - (#[] : Array Value).size) undef = Array.replicate 185 undef := by kernel_rfl
  rw [htm]
  have e1 : ({ tmps := (Array.replicate 185 undef).setIfInBounds 0 (.slice none 0 0), defers := [] } : Act) = rtAct := by kernel_rfl
  refine wp_seq (wp_region_list (wpList_plain rfl fun K hK => ?_))
  generalize hA : (Array.replicate 185 undef : Array Value) = A at e1 ⊢
  go_simp
  refine hK _ _ (wpList_nil ?_)
  clear hK K
  refine wp_seq (wp_region_list ?_)
  have hsplit : rtOps.toList = rtOps.toList.take 183 ++ [rtO1, rtO2] := by rw [← rt_ops, List.take_append_drop]
  have hb := rt_built
  cases hq : bldAll Tryz.prog (rtOps.toList.take 183) rtAct with
  | none => rw [hq] at hb; cases hb
  | some a' =>
    rw [hq] at hb
    simp only [Option.map_some, Option.some.injEq, Prod.mk.injEq] at hb
    obtain ⟨h1, h2, h3⟩ := hb
    rw [hsplit]
    refine wpList_bldAll _ _ _ _ hq ?_
    cases hi : Tryz.prog.info? 79 with
    | none => have h := rt_info; rw [hi] at h; cases h
    | some ie =>
      have hri := rt_info
      rw [hi] at hri
      simp only [Option.map_some, Option.some.injEq, Prod.mk.injEq] at hri
      refine wpList_buildSlice rt_o1.2.1 _ _ 183 rtParts rt_o1.2.2 entCells ie rtz rt_desc hi hri.1 (by rw [hri.2]; decide) (by rw [hri.2]; decide) (by rw [hri.2]; exact h1) ?_
      rw [rt_o1.1]
      refine wpList_plain rt_o2.2.1 fun K hK => ?_
      unfold Oper.wp execOp
      simp only [rt_o2.2.2]
      have e2 : (a'.put (some 184) (.slice (some ⟨w.heap.size, 0, none⟩) 183 183)).eval (.tmp 184) = .slice (some ⟨w.heap.size, 0, none⟩) 183 183 := by
        simp [Act.eval, Act.put, h3]
      rw [e2]
      simp only [Oper.upon, Sem.run_pure, rt_o2.1]
      refine hK _ _ (wpList_nil (wp_ret ?_))
      have hln : rtS.length = 183 := by unfold rtS; rw [List.length_map, entL_len]
      have hR : Kd.R k79 79 (w.alloc (Obj.cells entCells 79)) w.heap.size (fun _ => True) (.slice (some ⟨w.heap.size, 0, none⟩) 183 183) rtS := by
        refine ⟨fun _ _ => trivial, entL.flatMap fun e => [Value.string (B e.1), Value.int .i32 (e.2 : Int)], ?_, rt_reps (fun x => k79_mkM _ _ _ x) entL⟩
        have h9 := World.ownsRow_lit (base := w.heap.size) (e := 79) (size := 2) w entCells 183 (Nat.le_refl _) (by unfold maxLen; omega) tab_len
        rw [hln]
        exact (by simpa [entCells] using h9 : World.ownsRow _ w.heap.size 79 2 _ 183 (entL.flatMap fun e => [Value.string (B e.1), Value.int .i32 (e.2 : Int)]))
      refine bodyPost_ret (v := .slice (some ⟨w.heap.size, 0, none⟩) 183 183) ?_ ?_ ⟨_, rfl, hR, (Below.refl _ w).alloc (Nat.le_refl _) _⟩
      · rw [results_tmp (t := 0) rfl]
        simp [Act.put, h3]
      · simpa [Act.put] using h2
def incipitref04_Table.f : Option (List S79) := some rtS
theorem incipitref04_Table.calls (r : List S79) (w : World) (h : incipitref04_Table.f = some r) :
    Calls Tryz.prog 71 #[] w fun e w' => ∃ v0_, e = .returned v0_ ∧ Kd.R k79 79 w' w.heap.size (fun _ => True) v0_ r ∧ Below w.heap.size w w' := by
  obtain rfl := Option.some.inj h
  exact rt_walk w
end Go.Proofs.YtjobchgncdgfaaaGreatDoor.PA

namespace Go.Proofs.YtjobchgncdgfaaaGreatDoor.PA
open Go.RowKit Go.Proofs.YtjobchgncdgfaaaGreatDoor.Pl Go.Proofs.YtjobchgncdgfaaaGreatDoorW.PrintWords Go.Proofs.YtjobchgncdgfaaaGreatDoorW.PrintLast Go.Proofs.YtjobchgncdgfaaaGreatDoorW.PrintMore Go.Proofs.YtjobchgncdgfaaaGreatDoor.Pure
set_option linter.unusedVariables false

theorem pre_one (c : UInt8) (s : List UInt8) (w : World) : Calls Tryz.prog 20 #[.string (B s), .string ⟨#[c]⟩] w fun e w' => e = .returned (.bool (decide (s.head? = some c))) ∧ Drawn0 w w' := by
  refine strings_HasPrefix.calls (B s) ⟨#[c]⟩ _ w ?_
  unfold strings_HasPrefix.f
  rw [B_data, show (⟨#[c]⟩ : ByteArray).data.toList = [c] from rfl]
  congr 1
  cases s with
  | nil => rfl
  | cons x t =>
    by_cases hx : x = c
    · subst hx
      simp [Lib.hasPrefix, List.isPrefixOf]
    · simp [Lib.hasPrefix, List.isPrefixOf, hx]
      exact fun e => hx e.symm
theorem white_walk (s : List UInt8) (hs : s.length ≤ 1048576) (w : World) : Calls Tryz.prog 18 #[.string (B s)] w fun e w' => e = .returned (.int .i64 (wht s : Int)) ∧ Below w.heap.size w w' := by
  have hsz : (B s).size = s.length := B_size s
  have ht : strings_TrimLeft.f (B s) ⟨#[32, 9, 10]⟩ = some (B (Lib.trimLeftS s [32, 9, 10])) := by
    unfold strings_TrimLeft.f
    rw [if_pos ⟨by omega, by decide, by decide⟩, B_data]
    rfl
  have HT := Lib.hid (fun W => strings_TrimLeft.calls (B s) ⟨#[32, 9, 10]⟩ _ W ht)
  have hz2 : (B (Lib.trimLeftS s [32, 9, 10])).size = (Lib.trimLeftS s [32, 9, 10]).length := B_size _
  have HW := Lib.hid (wht_int s)
  have hl := trim_le s [32, 9, 10]
  clear ht
  go_enter Tryz.func18, Tryz.ntmps18
  go_wp2_with (first | (go_at_call 33; refine (HT.out _).mono ?_; rintro e w' ⟨rfl, hb⟩; have HB := Lib.hid hb; clear hb))
  go_ret
  exact ⟨congrArg (fun z => Ending.returned (.int .i64 z)) HW.out, HB.out⟩
set_option maxHeartbeats 4000000 in
set_option maxRecDepth 100000 in
theorem lab_walk (s : List UInt8) (hs : s.length ≤ 1048576) (w : World) :
    Calls Tryz.prog 10 #[.string (B s)] w fun e w' => e = .returned (.tuple #[.string (B (lab s).1), .int .i64 ((lab s).2 : Int)]) ∧ Below w.heap.size w w' := by
  have HP := Lib.hid (fun W => pre_one 91 s W)
  by_cases h91 : s.head? = some 91
  · rw [decide_eq_true h91] at HP
    obtain ⟨t, rfl⟩ : ∃ t, s = 91 :: t := by
      cases s with
      | nil => cases h91
      | cons x t => exact ⟨t, by rw [Option.some.inj h91]⟩
    rw [List.length_cons] at hs
    have HE := Lib.hid (fun W => each_lab (91 :: t) (by rw [List.length_cons]; omega) 1 (by simp) W)
    rw [show List.drop 1 ((91 : UInt8) :: t) = t from rfl, show ((1 : Nat) : Int) = 1 from rfl] at HE
    have hEl := eachL_le pLab t
    obtain ⟨E, hE⟩ : ∃ E, eachL pLab t = E := ⟨_, rfl⟩
    have hlab : lab (91 :: t) = match t.drop E with
      | [] => ([], 0)
      | y :: _ => if y = 91 ∨ 999 < E ∨ wht (t.take E) = E then ([], 0) else (t.take E, E + 2) := by subst hE; rfl
    rw [hE] at HE hEl
    have HW := Lib.hid (fun W => white_walk (t.take E) (by rw [List.length_take]; omega) W)
    obtain ⟨k, hk⟩ : ∃ k, 1 + E = k := ⟨_, rfl⟩
    rw [hk] at HE
    have hk1 : 1 ≤ k := by omega
    have hk2 : k ≤ 1048577 := by omega
    have hex : (B (91 :: t)).extract 1 k = B (t.take E) := by rw [B_extract, show k - 1 = E by omega]; rfl
    have hn : (B (91 :: t)).size = t.length + 1 := B_size _
    have hget : ∀ y u, t.drop E = y :: u → ∃ h : k < (B (91 :: t)).size, (B (91 :: t))[k]'h = y := by
      intro y u e
      have hlt : E < t.length := by
        rcases Nat.lt_or_ge E t.length with h | h
        · exact h
        · rw [List.drop_eq_nil_of_le h] at e; cases e
      refine ⟨by omega, ?_⟩
      have e2 : (91 :: t).drop k = y :: u := by rw [← hk, Nat.add_comm, List.drop_succ_cons]; exact e
      have hk3 : k < (91 :: t).length := by rw [List.length_cons]; omega
      rw [List.drop_eq_getElem_cons hk3] at e2
      exact (List.getElem_toArray hk3).trans (List.cons.inj e2).1
    generalize B (91 :: t) = S at *
    cases ht : t.drop E with
    | nil =>
      rw [ht] at hlab
      have HL := Lib.hid hlab
      have hEt : t.length ≤ E := List.drop_eq_nil_iff.1 ht
      obtain rfl : k = t.length + 1 := by omega
      generalize t.length + 1 = n at *
      clear hlab hget ht hex hE h91 HW
      go_enter Tryz.func10, Tryz.ntmps10
      go_wp2_with fail
      refine (HP.out _).mono ?_
      rintro e w1 ⟨rfl, hd⟩
      have HB1 := Lib.hid hd.below
      clear hd
      go_wp2_with fail
      with_reducible refine (HE.out _).mono ?_
      rintro e w2 ⟨rfl, hb2⟩
      have HB2 := Lib.hid (HB1.out.trans (hb2.mono HB1.out.size))
      clear hb2
      go_wp2
      go_ret2
      rw [HL.out]
      exact ⟨rfl, HB2.out⟩
    | cons y u =>
      obtain ⟨hks, hi⟩ := hget y u ht
      rw [ht] at hlab
      simp only at hlab
      have hkn : k < t.length + 1 := by omega
      have hkn2 : (1 : Int) ≤ (k : Int) := by omega
      have hkn3 : (k : Int) ≤ (t.length : Int) + 1 := by omega
      have hkn4 : k ≤ t.length + 1 := by omega
      have q1 : ((k : Int) == ((t.length + 1 : Nat) : Int)) = false := beq_eq_false_iff_ne.2 (by omega)
      have q1b : ((k : Int) == ((t.length : Int) + 1)) = false := beq_eq_false_iff_ne.2 (by omega)
      have e91 : ((y.toNat : Int) = 91) ↔ y = 91 := u8_eq y 91 (by omega)
      by_cases h1 : y = 91
      · rw [if_pos (.inl h1)] at hlab
        have HL := Lib.hid hlab
        have q2 : ((y.toNat : Int) == 91) = true := beq_iff_eq.2 (e91.2 h1)
        clear hlab hget ht hex hE h91 HW e91 h1
        go_enter Tryz.func10, Tryz.ntmps10
        go_wp2_with fail
        refine (HP.out _).mono ?_
        rintro e w1 ⟨rfl, hd⟩
        have HB1 := Lib.hid hd.below
        clear hd
        go_wp2_with fail
        with_reducible refine (HE.out _).mono ?_
        rintro e w2 ⟨rfl, hb2⟩
        have HB2 := Lib.hid (HB1.out.trans (hb2.mono HB1.out.size))
        clear hb2
        go_wp2
        go_ret2
        rw [HL.out]
        exact ⟨rfl, HB2.out⟩
      · have q2 : ((y.toNat : Int) == 91) = false := beq_eq_false_iff_ne.2 (fun e => h1 (e91.1 e))
        by_cases h2 : 999 < E
        · rw [if_pos (.inr (.inl h2))] at hlab
          have HL := Lib.hid hlab
          have q3 : decide ((999 : Int) < (k : Int) - 1) = true := decide_eq_true (by omega)
          clear hlab hget ht hex hE h91 HW e91 h1
          go_enter Tryz.func10, Tryz.ntmps10
          go_wp2_with fail
          refine (HP.out _).mono ?_
          rintro e w1 ⟨rfl, hd⟩
          have HB1 := Lib.hid hd.below
          clear hd
          go_wp2_with fail
          with_reducible refine (HE.out _).mono ?_
          rintro e w2 ⟨rfl, hb2⟩
          have HB2 := Lib.hid (HB1.out.trans (hb2.mono HB1.out.size))
          clear hb2
          go_wp2
          go_ret2
          rw [HL.out]
          exact ⟨rfl, HB2.out⟩
        · have q3 : decide ((999 : Int) < (k : Int) - 1) = false := decide_eq_false (by omega)
          by_cases h3 : wht (t.take E) = E
          · rw [if_pos (.inr (.inr h3))] at hlab
            have HL := Lib.hid hlab
            have q4 : ((wht (t.take E) : Int) == (k : Int) - 1) = true := beq_iff_eq.2 (by omega)
            clear hlab hget ht hE h91 e91 h1 h3
            go_enter Tryz.func10, Tryz.ntmps10
            go_wp2_with fail
            refine (HP.out _).mono ?_
            rintro e w1 ⟨rfl, hd⟩
            have HB1 := Lib.hid hd.below
            clear hd
            go_wp2_with fail
            with_reducible refine (HE.out _).mono ?_
            rintro e w2 ⟨rfl, hb2⟩
            have HB2 := Lib.hid (HB1.out.trans (hb2.mono HB1.out.size))
            clear hb2
            go_wp2_with fail
            with_reducible refine (HW.out _).mono ?_
            rintro e w3 ⟨rfl, hb3⟩
            have HB3 := Lib.hid (HB2.out.trans (hb3.mono HB2.out.size))
            clear hb3
            go_wp2
            go_ret2
            rw [HL.out]
            exact ⟨rfl, HB3.out⟩
          · rw [if_neg (by rintro (h | h | h); exact h1 h; exact h2 h; exact h3 h)] at hlab
            have HL := Lib.hid hlab
            have q4 : ((wht (t.take E) : Int) == (k : Int) - 1) = false := beq_eq_false_iff_ne.2 (by omega)
            have HK := Lib.hid (show ((k : Int) + 1) = ((E + 2 : Nat) : Int) by omega)
            clear hlab hget ht hE h91 e91 h1 h3
            go_enter Tryz.func10, Tryz.ntmps10
            go_wp2_with fail
            refine (HP.out _).mono ?_
            rintro e w1 ⟨rfl, hd⟩
            have HB1 := Lib.hid hd.below
            clear hd
            go_wp2_with fail
            with_reducible refine (HE.out _).mono ?_
            rintro e w2 ⟨rfl, hb2⟩
            have HB2 := Lib.hid (HB1.out.trans (hb2.mono HB1.out.size))
            clear hb2
            go_wp2_with fail
            with_reducible refine (HW.out _).mono ?_
            rintro e w3 ⟨rfl, hb3⟩
            have HB3 := Lib.hid (HB2.out.trans (hb3.mono HB2.out.size))
            clear hb3
            go_wp2
            go_ret2
            rw [HL.out]
            exact ⟨by first | rfl | (rw [HK.out]; rfl) | (rw [← HK.out]; rfl), HB3.out⟩
  · rw [decide_eq_false h91] at HP
    have hrd : lab s = ([], 0) := by
      cases s with
      | nil => rfl
      | cons x t => rw [lab, if_neg (fun e => h91 (by rw [e]; rfl))]
    rw [hrd]
    clear hrd h91
    go_enter Tryz.func10, Tryz.ntmps10
    go_wp2_with fail
    refine (HP.out _).mono ?_
    rintro e w1 ⟨rfl, hd⟩
    have HB1 := Lib.hid hd.below
    clear hd
    go_wp2
    go_ret2
    exact ⟨rfl, HB1.out⟩
set_option maxHeartbeats 4000000 in
set_option maxRecDepth 100000 in
theorem ang_walk (x : UInt8) (t : List UInt8) (hs : t.length ≤ 1048575) (w : World) (hLd : Laid w) :
    Calls Tryz.prog 24 #[.string (B (x :: t))] w fun e w' => e = .returned (.tuple #[.string (B (ang t).1), .int .i64 ((ang t).2.1 : Int), .bool (ang t).2.2]) ∧ Below w.heap.size w w' := by
  have HLd := Lib.hid hLd
  clear hLd
  have HE := Lib.hid (fun W => each_ang (x :: t) (by rw [List.length_cons]; omega) 1 (by simp) W)
  rw [show List.drop 1 (x :: t) = t from rfl, show ((1 : Nat) : Int) = 1 from rfl] at HE
  have hEl := eachL_le pAng t
  obtain ⟨E, hE⟩ : ∃ E, eachL pAng t = E := ⟨_, rfl⟩
  have hlab : ang t = match t.drop E with
    | [] => ([], 0, false)
    | y :: _ => if y = 62 then (une (t.take E), E + 2, true) else ([], 0, false) := by unfold ang; subst hE; rfl
  rw [hE] at HE hEl
  have HW := Lib.hid (fun W => unesc_walk (t.take E) (by rw [List.length_take]; omega) W)
  obtain ⟨k, hk⟩ : ∃ k, 1 + E = k := ⟨_, rfl⟩
  rw [hk] at HE
  have hk1 : 1 ≤ k := by omega
  have hk2 : k ≤ 1048577 := by omega
  have hex : (B (x :: t)).extract 1 k = B (t.take E) := by rw [B_extract, show k - 1 = E by omega]; rfl
  have hn : (B (x :: t)).size = t.length + 1 := B_size _
  have hget : ∀ y u, t.drop E = y :: u → ∃ h : k < (B (x :: t)).size, (B (x :: t))[k]'h = y := by
    intro y u e
    have hlt : E < t.length := by
      rcases Nat.lt_or_ge E t.length with h | h
      · exact h
      · rw [List.drop_eq_nil_of_le h] at e; cases e
    refine ⟨by omega, ?_⟩
    have e2 : (x :: t).drop k = y :: u := by rw [← hk, Nat.add_comm, List.drop_succ_cons]; exact e
    have hk3 : k < (x :: t).length := by rw [List.length_cons]; omega
    rw [List.drop_eq_getElem_cons hk3] at e2
    exact (List.getElem_toArray hk3).trans (List.cons.inj e2).1
  generalize B (x :: t) = S at *
  cases ht : t.drop E with
  | nil =>
    rw [ht] at hlab
    have HL := Lib.hid hlab
    have hEt : t.length ≤ E := List.drop_eq_nil_iff.1 ht
    obtain rfl : k = t.length + 1 := by omega
    generalize t.length + 1 = n at *
    clear hlab hget ht hex hE HW
    go_enter Tryz.func24, Tryz.ntmps24
    go_wp2_with fail
    with_reducible refine (HE.out _).mono ?_
    rintro e w2 ⟨rfl, hb2⟩
    have HB2 := Lib.hid hb2
    clear hb2
    go_wp2
    go_ret3
    rw [HL.out]
    exact ⟨rfl, HB2.out⟩
  | cons y u =>
    obtain ⟨hks, hi⟩ := hget y u ht
    rw [ht] at hlab
    simp only at hlab
    have hkn : k < t.length + 1 := by omega
    have hkn2 : (1 : Int) ≤ (k : Int) := by omega
    have hkn3 : (k : Int) ≤ (t.length : Int) + 1 := by omega
    have hkn4 : k ≤ t.length + 1 := by omega
    have q1 : ((k : Int) == ((t.length + 1 : Nat) : Int)) = false := beq_eq_false_iff_ne.2 (by omega)
    have q1b : ((k : Int) == ((t.length : Int) + 1)) = false := beq_eq_false_iff_ne.2 (by omega)
    have e62 : ((y.toNat : Int) = 62) ↔ y = 62 := u8_eq y 62 (by omega)
    by_cases h1 : y = 62
    · rw [if_pos h1] at hlab
      have HL := Lib.hid hlab
      have q2 : ((y.toNat : Int) == 62) = true := beq_iff_eq.2 (e62.2 h1)
      have q2b : ((y.toNat : Int) != 62) = false := by rw [bne, q2]; rfl
      have HK := Lib.hid (show ((k : Int) + 1) = ((E + 2 : Nat) : Int) by omega)
      clear hlab hget ht hE e62 h1
      go_enter Tryz.func24, Tryz.ntmps24
      go_wp2_with fail
      with_reducible refine (HE.out _).mono ?_
      rintro e w2 ⟨rfl, hb2⟩
      have HB2 := Lib.hid hb2
      clear hb2
      go_wp2_with fail
      with_reducible refine (HW.out _ (HLd.out.go HB2.out)).mono ?_
      rintro e w3 ⟨rfl, hb3⟩
      have HB3 := Lib.hid (HB2.out.trans (hb3.mono HB2.out.size))
      clear hb3
      go_wp2
      go_ret3
      rw [HL.out]
      exact ⟨by first | rfl | (rw [HK.out]; rfl), HB3.out⟩
    · rw [if_neg h1] at hlab
      have HL := Lib.hid hlab
      have q2 : ((y.toNat : Int) == 62) = false := beq_eq_false_iff_ne.2 (fun e => h1 (e62.1 e))
      have q2b : ((y.toNat : Int) != 62) = true := by rw [bne, q2]; rfl
      clear hlab hget ht hE e62 h1
      go_enter Tryz.func24, Tryz.ntmps24
      go_wp2_with fail
      with_reducible refine (HE.out _).mono ?_
      rintro e w2 ⟨rfl, hb2⟩
      have HB2 := Lib.hid hb2
      clear hb2
      go_wp2
      go_ret3
      rw [HL.out]
      exact ⟨rfl, HB2.out⟩
theorem dstL_le : ∀ (l : List UInt8) (o : Nat) (d : Bool), (dstL l o d).1 ≤ l.length ∧ (dstL l o d).2.1 ≤ o + l.length
  | [], o, d => ⟨Nat.le_refl _, Nat.le_refl _⟩
  | [x], o, d => by
    have := dsto_le o x o (Nat.le_refl _)
    unfold dstL
    split
    · exact ⟨Nat.zero_le _, Nat.le_add_right _ _⟩
    · exact ⟨Nat.le_refl _, this⟩
  | x :: y :: t, o, d => by
    have h1 := dstL_le t o d
    have h2 := dstL_le (y :: t) (dsto o x) (dstd o d x)
    have h3 := dsto_le o x o (Nat.le_refl _)
    unfold dstL
    simp only [List.length_cons] at h2 ⊢
    split
    · exact ⟨by show _ + 2 ≤ _; omega, by show (dstL t o d).2.1 ≤ _; omega⟩
    · split
      · exact ⟨Nat.zero_le _, Nat.le_add_right _ _⟩
      · exact ⟨by show _ + 1 ≤ _; omega, by show (dstL (y :: t) _ _).2.1 ≤ _; omega⟩
end Go.Proofs.YtjobchgncdgfaaaGreatDoor.PA

namespace Go.Proofs.YtjobchgncdgfaaaGreatDoor.PA
open Go.RowKit Go.Proofs.YtjobchgncdgfaaaGreatDoor.Pl Go.Proofs.YtjobchgncdgfaaaGreatDoorW.PrintWords Go.Proofs.YtjobchgncdgfaaaGreatDoorW.PrintLast Go.Proofs.YtjobchgncdgfaaaGreatDoorW.PrintMore Go.Proofs.YtjobchgncdgfaaaGreatDoor.Pure
set_option linter.unusedVariables false

theorem al2_old (w : World) (o : Obj) (k : Nat) (h : k < w.heap.size) : (w.alloc o).heap[k]? = w.heap[k]? := ((Below.refl w.heap.size w).alloc (Nat.le_refl _) o).block k h
theorem al2_size (w : World) (o : Obj) : (w.alloc o).heap.size = w.heap.size + 1 := Array.size_push _
theorem al_two (w : World) (a b : Obj) : ((w.alloc a).alloc b).heap[w.heap.size]? = some a ∧ ((w.alloc a).alloc b).heap[w.heap.size + 1]? = some b ∧ Below w.heap.size w ((w.alloc a).alloc b) := by
  refine ⟨?_, ?_, ?_⟩
  · rw [al2_old _ _ _ (by rw [al2_size]; omega)]; exact heap_alloc_new w a
  · rw [← al2_size w a]; exact heap_alloc_new _ b
  · exact ((Below.refl _ w).alloc (Nat.le_refl _) a).alloc (by rw [al2_size]; omega) b
set_option maxHeartbeats 4000000 in
set_option maxRecDepth 100000 in
theorem dst_walk (s : List UInt8) (hs : s.length ≤ 1048576) (w : World) (hLd : Laid w) :
    Calls Tryz.prog 12 #[.string (B s)] w fun e w' => e = .returned (.tuple #[.string (B (dst s).1), .int .i64 ((dst s).2.1 : Int), .bool (dst s).2.2]) ∧ Below w.heap.size w w' := by
  have HP := Lib.hid (fun W => pre_one 60 s W)
  by_cases h60 : s.head? = some 60
  · rw [decide_eq_true h60] at HP
    obtain ⟨t, rfl⟩ : ∃ t, s = 60 :: t := by
      cases s with
      | nil => cases h60
      | cons x t => exact ⟨t, by rw [Option.some.inj h60]⟩
    rw [List.length_cons] at hs
    have HA := Lib.hid (ang_walk 60 t (by omega))
    have HD := Lib.hid (show dst (60 :: t) = ang t by unfold dst; exact if_pos rfl)
    have HLd := Lib.hid hLd
    generalize B (60 :: t) = S at *
    clear h60 hLd
    go_enter Tryz.func12, Tryz.ntmps12
    go_wp2_with fail
    refine (HP.out _).mono ?_
    rintro e w1 ⟨rfl, hd⟩
    have HB1 := Lib.hid hd.below
    clear hd
    go_wp2_with fail
    with_reducible refine (HA.out _ (HLd.out.go HB1.out)).mono ?_
    rintro e w2 ⟨rfl, hb2⟩
    have HB2 := Lib.hid (HB1.out.trans (hb2.mono HB1.out.size))
    clear hb2
    go_wp2
    go_ret3
    rw [HD.out]
    exact ⟨rfl, HB2.out⟩
  · rw [decide_eq_false h60] at HP
    have hD : dst s = if (dstL s 0 false).1 = 0 ∨ 0 < (dstL s 0 false).2.1 ∨ (dstL s 0 false).2.2 = true then ([], 0, false) else (une (s.take (dstL s 0 false).1), (dstL s 0 false).1, true) := by unfold dst; rw [if_neg h60]
    have HLd := Lib.hid hLd
    have hle := dstL_le s 0 false
    have HE := Lib.hid (each_dst s (by omega))
    have HW := Lib.hid (fun W => unesc_walk (s.take (dstL s 0 false).1) (by rw [List.length_take]; omega) W)
    have hex : (B s).extract 0 (dstL s 0 false).1 = B (s.take (dstL s 0 false).1) := B_to s _
    have hn : (B s).size = s.length := B_size _
    obtain ⟨k, hk⟩ : ∃ x, (dstL s 0 false).1 = x := ⟨_, rfl⟩
    obtain ⟨o, ho⟩ : ∃ x, (dstL s 0 false).2.1 = x := ⟨_, rfl⟩
    obtain ⟨d, hd⟩ : ∃ x, (dstL s 0 false).2.2 = x := ⟨_, rfl⟩
    rw [hk, ho, hd] at HE hD
    rw [hk] at HW hex
    rw [hk, ho] at hle
    obtain ⟨hle1, hle2⟩ := hle
    clear hk ho hd h60 hLd
    generalize B (s.take k) = T at *
    generalize B s = S at *
    go_enter Tryz.func12, Tryz.ntmps12
    go_wp2_with fail
    refine (HP.out _).mono ?_
    rintro e w1 ⟨rfl, hd⟩
    have HB1 := Lib.hid hd.below
    clear hd
    go_wp2_with fail
    obtain ⟨h1, h2, h3⟩ := al_two w1 (.cells #[.int .i64 0] 3 (0, 0)) (.cells #[.bool false] 4 (0, 0))
    obtain ⟨w2, hw2⟩ : ∃ w2, w2 = (w1.alloc (.cells #[.int .i64 0] 3 (0, 0))).alloc (.cells #[.bool false] 4 (0, 0)) := ⟨_, rfl⟩
    rw [← hw2] at h1 h2 h3
    rw [show ((w1.alloc (Obj.cells #[Value.int IntKind.i64 0] 3)).alloc (Obj.cells #[Value.bool false] 4)) = w2 from hw2.symm]
    clear hw2
    have HB2 := Lib.hid (HB1.out.trans (h3.mono HB1.out.size))
    have hsz := HB1.out.size
    clear h3
    obtain ⟨b, hb⟩ : ∃ b, w1.heap.size = b := ⟨_, rfl⟩
    rw [hb] at h1 h2 hsz ⊢
    clear hb
    have hbx : Box2 b 0 false w2 := ⟨h1, h2⟩
    with_reducible refine (HE.out b w2 hbx).mono ?_
    rintro e w3 ⟨rfl, hx3, hb3⟩
    have HB3 := Lib.hid (HB2.out.trans (hb3.mono hsz))
    have c1 := cell_of_one hx3.1
    have c2 := cell_of_one hx3.2
    clear h1 h2 hx3 hb3 HB2 HB1 hsz HE HP
    by_cases hk0 : k = 0
    · subst hk0
      rw [if_pos (.inl rfl)] at hD
      have HD := Lib.hid hD
      clear hD
      go_wp2_with fail
      go_wp2
      go_ret3
      rw [HD.out]
      exact ⟨rfl, HB3.out⟩
    · have q1 : ((k : Int) == 0) = false := beq_eq_false_iff_ne.2 (by omega)
      by_cases ho0 : 0 < o
      · have q2 : decide ((0 : Int) < (o : Int)) = true := decide_eq_true (by omega)
        rw [if_pos (.inr (.inl ho0))] at hD
        have HD := Lib.hid hD
        clear hD
        go_wp2
        go_ret3
        rw [HD.out]
        exact ⟨rfl, HB3.out⟩
      · have q2 : decide ((0 : Int) < (o : Int)) = false := decide_eq_false (by omega)
        cases d with
        | true =>
          rw [if_pos (.inr (.inr rfl))] at hD
          have HD := Lib.hid hD
          clear hD
          go_wp2
          go_ret3
          rw [HD.out]
          exact ⟨rfl, HB3.out⟩
        | false =>
          rw [if_neg (by rintro (h | h | h); exact hk0 h; exact ho0 h; cases h)] at hD
          have HD := Lib.hid hD
          have hks : k ≤ s.length := hle1
          clear hD
          go_wp2_with fail
          with_reducible refine (HW.out _ (HLd.out.go HB3.out)).mono ?_
          rintro e w4 ⟨rfl, hb4⟩
          have HB4 := Lib.hid (HB3.out.trans (hb4.mono HB3.out.size))
          clear hb4
          go_wp2
          go_ret3
          rw [HD.out]
          exact ⟨rfl, HB4.out⟩
end Go.Proofs.YtjobchgncdgfaaaGreatDoor.PA

namespace Go.Proofs.YtjobchgncdgfaaaGreatDoor.PA
open Go.RowKit Go.Proofs.YtjobchgncdgfaaaGreatDoorW.PrintWords Go.Proofs.YtjobchgncdgfaaaGreatDoorW.PrintLast Go.Proofs.YtjobchgncdgfaaaGreatDoorW.PrintMore
attribute [local go_sem] max2_int min2_int max_two min_two max_three min_three max_four min_four   -- for this text's walks alone
set_option linter.unusedVariables false
set_option linter.unusedSimpArgs false

-- NOT PRINTED: function 100 (strconv_ParseUint)

-- NOT PRINTED: function 96 (strconv_ParseInt_96)

-- NOT PRINTED: function 107 (stringslite_Clone)

-- NOT PRINTED: function 101 (strconv_syntaxError)

-- NOT PRINTED: function 102 (strconv_rangeError)

-- NOT PRINTED: function 108 (errors_New)

/-! ### link_gap: function 31 -/
def link_gap.l0 : Nat → List ByteArray → Int → Option (Bool)
  | 0, _, _ => none
  | k + 1, x3, x4 => if x4 < (wrap64 ((x3.length : Int) - 1)) then (if 0 ≤ x4 then (if x4 < (x3.length : Int) then ((strings_Trim.f (rdOf ByteArray.empty x3 x4) (⟨#[32, 9]⟩ : ByteArray)).bind fun t153 => (if t153.toList = ([] : List UInt8) then (some true) else (link_gap.l0 k x3 (wrap64 (x4 + 1))))) else (none)) else (none)) else (some false)
def link_gap.f (k : Nat) (a0 : ByteArray) : Option (Bool) := (strings_Split.f a0 (⟨#[10]⟩ : ByteArray)).bind fun t149 => (link_gap.l0 k t149 1)
theorem link_gap.mono_l : ∀ k, (∀ y0 y1, LeO (link_gap.l0 k y0 y1) (link_gap.l0 (k + 1) y0 y1))
  | 0 => fun _ _ r h => by simp [link_gap.l0] at h
  | k + 1 => by
    have ih0 := link_gap.mono_l k
    · intro y0 y1
      unfold link_gap.l0
      repeat' first
      | (with_reducible exact ih0 _ _)
      | (with_reducible exact LeO.refl _)
      | (with_reducible exact LeO.none _)
      | (with_reducible refine LeO.ite ?_ ?_)
      | (with_reducible refine LeO.bind ?_ (fun _ => ?_))
      | exact ih0 _ _
      | exact LeO.none _
      | refine LeO.ite ?_ ?_
      | refine LeO.bind ?_ (fun _ => ?_)
theorem link_gap.mono : ∀ a0 k, LeO (link_gap.f k a0) (link_gap.f (k + 1) a0) := by
  intro a0 k
  have ih0 := link_gap.mono_l k
  unfold link_gap.f
  repeat' first
      | (with_reducible exact ih0 _ _)
      | (with_reducible exact LeO.refl _)
      | (with_reducible exact LeO.none _)
      | (with_reducible refine LeO.ite ?_ ?_)
      | (with_reducible refine LeO.bind ?_ (fun _ => ?_))
      | exact ih0 _ _
      | exact LeO.none _
      | refine LeO.ite ?_ ?_
      | refine LeO.bind ?_ (fun _ => ?_)
set_option maxHeartbeats 8000000 in
set_option maxRecDepth 100000 in
theorem link_gap.calls (k : Nat) (a0 : ByteArray) (r : Bool) (w : World) (hLd : Laid w) (h : link_gap.f k a0 = some r) :
    Calls Tryz.prog 31 #[.string a0] w fun e w' => e = .returned (.bool r) ∧ Below w.heap.size w w' := by
  have HB := Aside0.mk (Below.refl w.heap.size w)
  have H : ((strings_Split.f a0 (⟨#[10]⟩ : ByteArray)).bind fun t149 => (link_gap.l0 k t149 1)) = some r := h
  clear h
  replace H := Option.bind_eq_some_iff.mp H
  obtain ⟨t149, A20, H⟩ := H
  replace H : (link_gap.l0 k t149 1) = some r := H
  have A2 := Aside0.mk A20
  clear A20
  have H' := Aside0.mk H
  clear H
  go_enter Tryz.func31, Tryz.ntmps31
  go_wp2_with (first | ((with_reducible refine gate_callee (f := 43) rfl ?_); refine goesL_ (some 6) rfl rfl Tryz.func43 (by kernel_rfl) rfl #[.string a0, .string (⟨#[10]⟩ : ByteArray)] rfl (by (try simp only [List.map_toArray, List.map_cons, List.map_nil]); first | done | rfl | (simp only [List.length_drop, List.length_take]; rfl)) ?_; (with_reducible refine (strings_Split.calls a0 (⟨#[10]⟩ : ByteArray) t149 _ ?side1 A2.out).mono ?_); (case side1 => exact Laid.go hLd (by repeat (first | (with_reducible first | exact HB.out | apply below_alloc | apply pw_below_drewN | apply below_drew1) | exact HB.out))); rintro e w3 ⟨v150, rfl, ho0, hb⟩; refine ⟨_, rfl, ?_⟩; have n0_ := Aside0.mk (Kd.R_lower ho0 (below_size (by repeat (first | (with_reducible first | exact HB.out | apply below_alloc | apply pw_below_drewN | apply below_drew1) | exact HB.out)))); have n1_ := Aside0.mk (below_step (by repeat (first | (with_reducible first | exact HB.out | apply below_alloc | apply pw_below_drewN | apply below_drew1) | exact HB.out)) hb); clear HB; have HO151 := n0_; have HB := n1_; clear n0_ n1_; (try clear hb); (try clear hb2); (try clear hk); (try clear hi); (try clear ho0)))
  go_loopg [4] k (fun kq v4 w' => ∃ (x4_1 : Int), v4 = .int .i64 x4_1 ∧ Aside0 (link_gap.l0 kq t149 x4_1 = some r) ∧ Aside0 (kq ≤ k) ∧ Aside0 (Kd.R Kd.string 9 w' w.heap.size (fun _ => True) v150 t149) ∧ Aside0 (Below w.heap.size w w'))
  case atStart => exact ⟨(1), (by first | rfl | (simp; done) | (simp [*]; done)), H', ⟨Nat.le_refl _⟩, ⟨by (with_reducible repeat (first | apply Kd.R_alloc | apply Kd.R_drewN | apply Kd.R_drew)); exact HO151.out⟩, ⟨by repeat (first | (with_reducible first | exact HB.out | apply below_alloc | apply pw_below_drewN | apply below_drew1) | exact HB.out)⟩⟩
  case round =>
    clear H'
    try clear p2
    try clear c3
    obtain ⟨x4_1, rfl, HA, HK1, HO_3, HB⟩ := hrel
    cases gk with
    | zero => exact absurd HA.out (by simp [link_gap.l0])
    | succ k1 =>
      have H := HA.out
      clear HA
      simp only [link_gap.l0] at H
      by_cases c4 : x4_1 < (wrap64 ((t149.length : Int) - 1))
      · rw [if_pos c4] at H
        have c4b0 : decide (x4_1 < (wrap64 ((t149.length : Int) - 1))) = true := decide_eq_true c4
        clear c4
        by_cases c5 : 0 ≤ x4_1
        · rw [if_pos c5] at H
          have c5b0 : decide (0 ≤ x4_1) = true := decide_eq_true c5
          clear c5
          by_cases c6 : x4_1 < (t149.length : Int)
          · rw [if_pos c6] at H
            have c6b0 : decide (x4_1 < (t149.length : Int)) = true := decide_eq_true c6
            clear c6
            replace H := Option.bind_eq_some_iff.mp H
            obtain ⟨t153, A70, H⟩ := H
            replace H : (if t153.toList = ([] : List UInt8) then (some true) else (link_gap.l0 k1 t149 (wrap64 (x4_1 + 1)))) = some r := H
            have A7 := Aside0.mk A70
            clear A70
            by_cases c8 : t153.toList = ([] : List UInt8)
            · rw [if_pos c8] at H
              have c8b0 : (t153.toList == ([] : List UInt8)) = true := beq_iff_eq.mpr c8
              have c8b1 : (t153.toList != ([] : List UInt8)) = false := bne_eq_false_iff_eq.mpr c8
              clear c8
              obtain rfl := Option.some.inj H
              obtain ⟨Ao9, co9, eo9⟩ := Kd.R_slice HO_3.out
              subst eo9
              have p152 : 0 ≤ (x4_1 : Int) := of_decide_eq_true (by first | (with_reducible assumption) | assumption)
              have q152 : x4_1 < (t149.length : Int) := of_decide_eq_true (by first | (with_reducible assumption) | assumption)
              obtain ⟨ad152, e152, hx152_0⟩ := Kd.at_string (Kd.R_reads' HO_3.out).2.2 x4_1 p152 q152
              cases e152
              replace p152 := eq_true p152
              replace q152 := eq_true q152
              go_wp2_with (first | ((with_reducible refine gate_callee (f := 44) rfl ?_); refine goesL_ (some 18) rfl rfl Tryz.func44 (by kernel_rfl) rfl #[.string (rdOf ByteArray.empty t149 x4_1), .string (⟨#[32, 9]⟩ : ByteArray)] rfl (by (try simp only [List.map_toArray, List.map_cons, List.map_nil]); first | done | rfl | (simp only [List.length_drop, List.length_take]; rfl)) ?_; (with_reducible refine (strings_Trim.calls (rdOf ByteArray.empty t149 x4_1) (⟨#[32, 9]⟩ : ByteArray) t153 _ A7.out).mono ?_); rintro e w10 ⟨rfl, hb⟩; refine ⟨_, rfl, ?_⟩; have n0_ := Aside0.mk (Kd.R_below (by (with_reducible repeat (first | apply Kd.R_alloc | apply Kd.R_drewN | apply Kd.R_drew)); exact HO_3.out) hb); have n1_ := Aside0.mk (below_step (by repeat (first | (with_reducible first | exact HB.out | apply below_alloc | apply pw_below_drewN | apply below_drew1) | exact HB.out)) hb); clear HO_3; clear HB; have HO_3 := n0_; have HB := n1_; clear n0_ n1_; (try clear hb); (try clear hb2); (try clear hk); (try clear hi)))
              go_ret
              exact ⟨by first | rfl | exact retNe _ | (simp [errW_none, errW_some] <;> rfl) | (simp [*, errW_none, errW_some] <;> rfl), by repeat (first | (with_reducible first | exact HB.out | apply below_alloc | apply pw_below_drewN | apply below_drew1) | exact HB.out)⟩
            · rw [if_neg c8] at H
              have c8b0 : (t153.toList == ([] : List UInt8)) = false := beq_eq_false_iff_ne.mpr c8
              have c8b1 : (t153.toList != ([] : List UInt8)) = true := bne_iff_ne.mpr c8
              have H' := Aside0.mk H
              clear H
              obtain ⟨Ao11, co11, eo11⟩ := Kd.R_slice HO_3.out
              subst eo11
              have p152 : 0 ≤ (x4_1 : Int) := of_decide_eq_true (by first | (with_reducible assumption) | assumption)
              have q152 : x4_1 < (t149.length : Int) := of_decide_eq_true (by first | (with_reducible assumption) | assumption)
              obtain ⟨ad152, e152, hx152_0⟩ := Kd.at_string (Kd.R_reads' HO_3.out).2.2 x4_1 p152 q152
              cases e152
              replace p152 := eq_true p152
              replace q152 := eq_true q152
              go_wp2_with (first | ((with_reducible refine gate_callee (f := 44) rfl ?_); refine goesL_ (some 18) rfl rfl Tryz.func44 (by kernel_rfl) rfl #[.string (rdOf ByteArray.empty t149 x4_1), .string (⟨#[32, 9]⟩ : ByteArray)] rfl (by (try simp only [List.map_toArray, List.map_cons, List.map_nil]); first | done | rfl | (simp only [List.length_drop, List.length_take]; rfl)) ?_; (with_reducible refine (strings_Trim.calls (rdOf ByteArray.empty t149 x4_1) (⟨#[32, 9]⟩ : ByteArray) t153 _ A7.out).mono ?_); rintro e w12 ⟨rfl, hb⟩; refine ⟨_, rfl, ?_⟩; have n0_ := Aside0.mk (Kd.R_below (by (with_reducible repeat (first | apply Kd.R_alloc | apply Kd.R_drewN | apply Kd.R_drew)); exact HO_3.out) hb); have n1_ := Aside0.mk (below_step (by repeat (first | (with_reducible first | exact HB.out | apply below_alloc | apply pw_below_drewN | apply below_drew1) | exact HB.out)) hb); clear HO_3; clear HB; have HO_3 := n0_; have HB := n1_; clear n0_ n1_; (try clear hb); (try clear hb2); (try clear hk); (try clear hi)))
              go_roundg k1
              case measure => have := HK1.out; omega
              case rel => exact ⟨(wrap64 (x4_1 + 1)), (by first | rfl | (simp; done) | (simp [*]; done)), H', ⟨by have := HK1.out; omega⟩, ⟨by (with_reducible repeat (first | apply Kd.R_alloc | apply Kd.R_drewN | apply Kd.R_drew)); exact HO_3.out⟩, ⟨by repeat (first | (with_reducible first | exact HB.out | apply below_alloc | apply pw_below_drewN | apply below_drew1) | exact HB.out)⟩⟩
          · rw [if_neg c6] at H
            exact absurd H (by simp)
        · rw [if_neg c5] at H
          exact absurd H (by simp)
      · rw [if_neg c4] at H
        have c4b0 : decide (x4_1 < (wrap64 ((t149.length : Int) - 1))) = false := decide_eq_false c4
        clear c4
        obtain rfl := Option.some.inj H
        obtain ⟨Ao13, co13, eo13⟩ := Kd.R_slice HO_3.out
        subst eo13
        go_wp2
        go_ret
        exact ⟨by first | rfl | exact retNe _ | (simp [errW_none, errW_some] <;> rfl) | (simp [*, errW_none, errW_some] <;> rfl), by repeat (first | (with_reducible first | exact HB.out | apply below_alloc | apply pw_below_drewN | apply below_drew1) | exact HB.out)⟩

-- NOT PRINTED: function 14 (link_Title)

-- NOT PRINTED: function 16 (link_Tail)

-- NOT PRINTED: function 9 (incipitlaw09_awake)

end Go.Proofs.YtjobchgncdgfaaaGreatDoor.PA

namespace Go.Proofs.YtjobchgncdgfaaaGreatDoor.PA
open Go.RowKit Go.Proofs.YtjobchgncdgfaaaGreatDoor.Pl Go.Proofs.YtjobchgncdgfaaaGreatDoorW.PrintWords Go.Proofs.YtjobchgncdgfaaaGreatDoorW.PrintLast Go.Proofs.YtjobchgncdgfaaaGreatDoorW.PrintMore Go.Proofs.YtjobchgncdgfaaaGreatDoor.Pure
set_option linter.unusedVariables false

theorem gap_l (s : List UInt8) (hs : s.length ≤ 1048576) : ∀ (d i : Nat), 1 ≤ i → i + d = (lns s).length → Ev (fun k => link_gap.l0 k ((lns s).map B) (i : Int)) (mid true ((lns s).drop i)) := by
  have hln : (lns s).length ≤ s.length + 1 := lf_len s []
  intro d
  induction d with
  | zero =>
    intro i h1 hi
    rw [List.drop_eq_nil_of_le (by omega)]
    refine Ev.step (f := fun _ => some false) (fun k => ?_) (Ev.now _)
    simp only [link_gap.l0]
    rw [w64 (by rw [List.length_map]; omega) (by rw [List.length_map]; omega), if_neg (by rw [List.length_map]; omega)]
  | succ d ih =>
    intro i h1 hi
    have hil : i < (lns s).length := by omega
    have hd : (lns s).drop i = (lns s)[i] :: (lns s).drop (i + 1) := List.drop_eq_getElem_cons hil
    by_cases he : i + 1 = (lns s).length
    · rw [hd, List.drop_eq_nil_of_le (by omega)]
      refine Ev.step (f := fun _ => some false) (fun k => ?_) (Ev.now _)
      simp only [link_gap.l0]
      rw [w64 (by rw [List.length_map]; omega) (by rw [List.length_map]; omega), if_neg (by rw [List.length_map]; omega)]
    · have hil2 : i + 1 < (lns s).length := by omega
      have hd2 : (lns s).drop (i + 1) = (lns s)[i + 1] :: (lns s).drop (i + 2) := List.drop_eq_getElem_cons hil2
      have hm : mid true ((lns s).drop i) = (blk (lns s)[i] || mid true ((lns s).drop (i + 1))) := by rw [hd, hd2, mid, Bool.true_and]
      have hsz : ((lns s)[i]).length ≤ s.length := by
        have := lf_size s [] _ (List.getElem_mem hil)
        simpa using this
      have htr : strings_Trim.f (B (lns s)[i]) ⟨#[32, 9]⟩ = some (B (Lib.trimS (lns s)[i] [32, 9])) := by
        unfold strings_Trim.f
        rw [if_pos ⟨by rw [B_size]; omega, by decide, by decide⟩, B_data]
        rfl
      have hw : wrap64 ((i : Int) + 1) = ((i + 1 : Nat) : Int) := w64 (by omega) (by omega)
      have hstep : ∀ k, link_gap.l0 (k + 1) ((lns s).map B) (i : Int) = if blk (lns s)[i] = true then some true else link_gap.l0 k ((lns s).map B) ((i + 1 : Nat) : Int) := by
        intro k
        simp only [link_gap.l0]
        rw [w64 (by rw [List.length_map]; omega) (by rw [List.length_map]; omega), if_pos (by rw [List.length_map]; omega), if_pos (by omega), if_pos (by rw [List.length_map]; omega), getD_B i hil, htr, Option.bind_some, B_toList, hw]
        by_cases hb : blk (lns s)[i] = true
        · rw [if_pos hb, if_pos ((trim_nil _).2 hb)]
        · rw [if_neg hb, if_neg (fun e => hb ((trim_nil _).1 e))]
      rw [hm]
      by_cases hb : blk (lns s)[i] = true
      · rw [hb, Bool.true_or]
        refine Ev.step (f := fun _ => some true) (fun k => ?_) (Ev.now _)
        rw [hstep, if_pos hb]
      · rw [show blk (lns s)[i] = false by simpa using hb, Bool.false_or]
        refine Ev.step (fun k => ?_) (ih (i + 1) (by omega) (by omega))
        rw [hstep, if_neg hb]
theorem gap_ev (s : List UInt8) (hs : s.length ≤ 1048576) : Ev (fun k => link_gap.f k (B s)) (gp false s) := by
  have hp : (lns s).length ≠ 0 := fun e => lf_pos s [] (List.length_eq_zero_iff.1 e)
  have h := gap_l s hs ((lns s).length - 1) 1 (Nat.le_refl _) (by omega)
  rw [gp_lns] at h
  unfold link_gap.f
  rw [split_f s hs]
  exact h
theorem gap_walk (s : List UInt8) (hs : s.length ≤ 1048576) (w : World) (hLd : Laid w) : Calls Tryz.prog 31 #[.string (B s)] w fun e w' => e = .returned (.bool (gp false s)) ∧ Below w.heap.size w w' := by
  obtain ⟨k, hk⟩ := Ev.rounds (gap_ev s hs)
  exact link_gap.calls k (B s) _ w hLd hk
theorem cls_walk (s : List UInt8) (w : World) : Calls Tryz.prog 29 #[.string (B s)] w fun e w' => e = .returned (.int .u8 ((cls s).toNat : Int)) ∧ Drawn0 w w' := by
  cases s with
  | nil =>
    have hne : (B []).toList.isEmpty = true := by rw [B_toList]; rfl
    generalize B [] = S at *
    go_enter Tryz.func29, Tryz.ntmps29
    go_wp2
    go_ret
    exact ⟨rfl, Drawn0.refl _⟩
  | cons x t =>
    have hsz : (B (x :: t)).size = t.length + 1 := B_size _
    have hks : 0 < (B (x :: t)).size := by omega
    have hi : (B (x :: t))[0]'hks = x := rfl
    have e1 : ((x.toNat : Int) = 34) ↔ x = 34 := u8_eq x 34 (by omega)
    have e2 : ((x.toNat : Int) = 39) ↔ x = 39 := u8_eq x 39 (by omega)
    have e3 : ((x.toNat : Int) = 40) ↔ x = 40 := u8_eq x 40 (by omega)
    have hne : (B (x :: t)).toList.isEmpty = false := by rw [B_toList]; rfl
    have hc : cls (x :: t) = if x = 34 then x else if x = 39 then x else if x = 40 then 41 else 0 := rfl
    generalize B (x :: t) = S at *
    by_cases h1 : x = 34
    · rw [if_pos h1] at hc
      have HC := Lib.hid hc
      have q1 : ((x.toNat : Int) == 34) = true := beq_iff_eq.2 (e1.2 h1)
      clear hc e1 e2 e3 h1
      go_enter Tryz.func29, Tryz.ntmps29
      go_wp2
      go_ret
      rw [HC.out]
      exact ⟨rfl, Drawn0.refl _⟩
    · rw [if_neg h1] at hc
      have q1 : ((x.toNat : Int) == 34) = false := beq_eq_false_iff_ne.2 (fun e => h1 (e1.1 e))
      by_cases h2 : x = 39
      · rw [if_pos h2] at hc
        have HC := Lib.hid hc
        have q2 : ((x.toNat : Int) == 39) = true := beq_iff_eq.2 (e2.2 h2)
        clear hc e1 e2 e3 h1 h2
        go_enter Tryz.func29, Tryz.ntmps29
        go_wp2
        go_ret
        rw [HC.out]
        exact ⟨rfl, Drawn0.refl _⟩
      · rw [if_neg h2] at hc
        have q2 : ((x.toNat : Int) == 39) = false := beq_eq_false_iff_ne.2 (fun e => h2 (e2.1 e))
        by_cases h3 : x = 40
        · rw [if_pos h3] at hc
          have HC := Lib.hid hc
          have q3 : ((x.toNat : Int) == 40) = true := beq_iff_eq.2 (e3.2 h3)
          clear hc e1 e2 e3 h1 h2 h3
          go_enter Tryz.func29, Tryz.ntmps29
          go_wp2
          go_ret
          rw [HC.out]
          exact ⟨rfl, Drawn0.refl _⟩
        · rw [if_neg h3] at hc
          have HC := Lib.hid hc
          have q3 : ((x.toNat : Int) == 40) = false := beq_eq_false_iff_ne.2 (fun e => h3 (e3.1 e))
          clear hc e1 e2 e3 h1 h2 h3
          go_enter Tryz.func29, Tryz.ntmps29
          go_wp2
          go_ret
          rw [HC.out]
          exact ⟨rfl, Drawn0.refl _⟩
theorem ti_keep {w w5 w0 : World} {b : Nat} {x : Value} (hb5 : Below w.heap.size w w5)
    (h : w.cell? ⟨b, 0, none⟩ = some x ∧ Below w0.heap.size w0 w ∧ b + 1 ≤ w.heap.size) :
    w5.cell? ⟨b, 0, none⟩ = some x ∧ Below w0.heap.size w0 w5 ∧ b + 1 ≤ w5.heap.size := by
  obtain ⟨h1, h2, h3⟩ := h
  exact ⟨(hb5.cell (p := ⟨b, 0, none⟩) (by show b < _; omega)).trans h1, h2.trans (hb5.mono h2.size), Nat.le_trans h3 hb5.size⟩
set_option maxHeartbeats 4000000 in
set_option maxRecDepth 100000 in
theorem ttl_walk (s : List UInt8) (hs : s.length ≤ 1048576) (w : World) (hLd : Laid w) :
    Calls Tryz.prog 14 #[.string (B s)] w fun e w' => e = .returned (.tuple #[.string (B (ttl s).1), .int .i64 ((ttl s).2 : Int)]) ∧ Below w.heap.size w w' := by
  have HC := Lib.hid (fun W => cls_walk s W)
  have HLd := Lib.hid hLd
  clear hLd
  by_cases h0 : cls s = 0
  · have hT : ttl s = ([], 0) := by
      cases s with
      | nil => rfl
      | cons x t => unfold ttl; exact if_pos h0
    have HT := Lib.hid hT
    rw [h0] at HC
    clear hT h0
    go_enter Tryz.func14, Tryz.ntmps14
    go_wp2_with fail
    refine (HC.out _).mono ?_
    rintro e w1 ⟨rfl, hd⟩
    have HB1 := Lib.hid (hd.below.alloc hd.below.size (.cells #[.int .u8 (((0 : UInt8).toNat : Nat) : Int)] 5 (0, 0)))
    have hcell : (w1.alloc (.cells #[.int .u8 (((0 : UInt8).toNat : Nat) : Int)] 5 (0, 0))).cell? ⟨w1.heap.size, 0, none⟩ = some (.int .u8 (((0 : UInt8).toNat : Nat) : Int)) := cell_of_one (heap_alloc_new w1 _)
    have hz : (((0 : UInt8).toNat : Nat) : Int) = 0 := rfl
    rw [hz] at hcell HB1
    clear hd
    go_wp2
    go_ret2
    rw [HT.out]
    exact ⟨rfl, HB1.out⟩
  · obtain ⟨x, t, rfl⟩ : ∃ x t, s = x :: t := by
      cases s with
      | nil => exact absurd rfl h0
      | cons x t => exact ⟨x, t, rfl⟩
    rw [List.length_cons] at hs
    obtain ⟨en, hen⟩ : ∃ y, cls (x :: t) = y := ⟨_, rfl⟩
    have HE := Lib.hid (fun b W => each_tit (x :: t) (by rw [List.length_cons]; omega) 1 (by simp) b en W)
    rw [show List.drop 1 (x :: t) = t from rfl, show ((1 : Nat) : Int) = 1 from rfl] at HE
    have hEl := eachL_le (pTit en) t
    obtain ⟨E, hE⟩ : ∃ E, eachL (pTit en) t = E := ⟨_, rfl⟩
    have hlab : ttl (x :: t) = match t.drop E with
      | [] => ([], 0)
      | y :: _ => if y = en then (if gp false (t.take E) = true then ([], 0) else (une (t.take E), E + 2)) else ([], 0) := by subst hE; subst hen; exact if_neg h0
    rw [hE] at HE hEl
    rw [hen] at HC h0
    have HG := Lib.hid (fun W hW => gap_walk (t.take E) (by rw [List.length_take]; omega) W hW)
    have HW := Lib.hid (fun W => unesc_walk (t.take E) (by rw [List.length_take]; omega) W)
    obtain ⟨k, hk⟩ : ∃ k, 1 + E = k := ⟨_, rfl⟩
    rw [hk] at HE
    have hk1 : 1 ≤ k := by omega
    have hk2 : k ≤ 1048577 := by omega
    have hex : (B (x :: t)).extract 1 k = B (t.take E) := by rw [B_extract, show k - 1 = E by omega]; rfl
    have hn : (B (x :: t)).size = t.length + 1 := B_size _
    have hen0 : (((en.toNat : Nat) : Int) == 0) = false := beq_eq_false_iff_ne.2 (fun e => h0 ((u8_eq en 0 (by omega)).1 e))
    have hget : ∀ y u, t.drop E = y :: u → ∃ h : k < (B (x :: t)).size, (B (x :: t))[k]'h = y := by
      intro y u e
      have hlt : E < t.length := by
        rcases Nat.lt_or_ge E t.length with h | h
        · exact h
        · rw [List.drop_eq_nil_of_le h] at e; cases e
      refine ⟨by omega, ?_⟩
      have e2 : (x :: t).drop k = y :: u := by rw [← hk, Nat.add_comm, List.drop_succ_cons]; exact e
      have hk3 : k < (x :: t).length := by rw [List.length_cons]; omega
      rw [List.drop_eq_getElem_cons hk3] at e2
      exact (List.getElem_toArray hk3).trans (List.cons.inj e2).1
    generalize B (x :: t) = S at *
    cases ht : t.drop E with
    | nil =>
      rw [ht] at hlab
      have HL := Lib.hid hlab
      have hEt : t.length ≤ E := List.drop_eq_nil_iff.1 ht
      obtain rfl : k = t.length + 1 := by omega
      generalize t.length + 1 = n at *
      clear hlab hget ht hex hE HW HG hen h0
      go_enter Tryz.func14, Tryz.ntmps14
      go_wp2_with fail
      refine (HC.out _).mono ?_
      rintro e w1 ⟨rfl, hd⟩
      have hcell : (w1.alloc (.cells #[.int .u8 ((en.toNat : Nat) : Int)] 5 (0, 0))).cell? ⟨w1.heap.size, 0, none⟩ = some (.int .u8 ((en.toNat : Nat) : Int)) := cell_of_one (heap_alloc_new w1 _)
      have hlt : w1.heap.size < (w1.alloc (.cells #[.int .u8 ((en.toNat : Nat) : Int)] 5 (0, 0))).heap.size := by rw [al2_size]; omega
      have HB1 := Lib.hid (hd.below.alloc hd.below.size (.cells #[.int .u8 ((en.toNat : Nat) : Int)] 5 (0, 0)))
      clear hd
      go_wp2_with fail
      obtain ⟨w2, hw2⟩ : ∃ w2, w2 = w1.alloc (.cells #[.int .u8 ((en.toNat : Nat) : Int)] 5 (0, 0)) := ⟨_, rfl⟩
      rw [← hw2] at hcell hlt HB1
      rw [show (w1.alloc (Obj.cells #[Value.int IntKind.u8 ((en.toNat : Nat) : Int)] 5)) = w2 from hw2.symm]
      clear hw2
      obtain ⟨b, hb⟩ : ∃ b, w1.heap.size = b := ⟨_, rfl⟩
      rw [hb] at hcell hlt ⊢
      clear hb
      with_reducible refine (HE.out b w2 hlt hcell).mono ?_
      rintro e w3 ⟨rfl, hb3⟩
      have HB3 := Lib.hid (HB1.out.trans (hb3.mono HB1.out.size))
      have hc3 : w3.cell? ⟨b, 0, none⟩ = some (.int .u8 ((en.toNat : Nat) : Int)) := (hb3.cell (p := ⟨b, 0, none⟩) hlt).trans hcell
      clear hb3 hcell hlt HB1 HE HC
      go_wp2_with fail
      go_quiet (fail)
      go_wp2
      go_ret2
      rw [HL.out]
      exact ⟨rfl, pw_below_drewN HB3.out _⟩
    | cons y u =>
      obtain ⟨hks, hi⟩ := hget y u ht
      rw [ht] at hlab
      simp only at hlab
      have hkn : k < t.length + 1 := by omega
      have hkn2 : (1 : Int) ≤ (k : Int) := by omega
      have hkn3 : (k : Int) ≤ (t.length : Int) + 1 := by omega
      have hkn4 : k ≤ t.length + 1 := by omega
      have q1 : ((k : Int) == ((t.length + 1 : Nat) : Int)) = false := beq_eq_false_iff_ne.2 (by omega)
      have q1b : ((k : Int) == ((t.length : Int) + 1)) = false := beq_eq_false_iff_ne.2 (by omega)
      have eye : ((y.toNat : Int) = (en.toNat : Int)) ↔ y = en := ⟨fun h => UInt8.toNat_inj.1 (by omega), fun h => by rw [h]⟩
      by_cases h1 : y = en
      · rw [if_pos h1] at hlab
        have q2 : ((y.toNat : Int) == (en.toNat : Int)) = true := beq_iff_eq.2 (eye.2 h1)
        have q2b : ((y.toNat : Int) != (en.toNat : Int)) = false := by rw [bne, q2]; rfl
        cases hg : gp false (t.take E) with
        | true =>
          rw [if_pos hg] at hlab
          rw [hg] at HG
          have HL := Lib.hid hlab
          clear hlab hget ht hE eye h1 hg hen h0 HW
          go_enter Tryz.func14, Tryz.ntmps14
          go_wp2_with fail
          refine (HC.out _).mono ?_
          rintro e w1 ⟨rfl, hd⟩
          have hcell : (w1.alloc (.cells #[.int .u8 ((en.toNat : Nat) : Int)] 5 (0, 0))).cell? ⟨w1.heap.size, 0, none⟩ = some (.int .u8 ((en.toNat : Nat) : Int)) := cell_of_one (heap_alloc_new w1 _)
          have hlt : w1.heap.size < (w1.alloc (.cells #[.int .u8 ((en.toNat : Nat) : Int)] 5 (0, 0))).heap.size := by rw [al2_size]; omega
          have HB1 := Lib.hid (hd.below.alloc hd.below.size (.cells #[.int .u8 ((en.toNat : Nat) : Int)] 5 (0, 0)))
          clear hd
          go_wp2_with fail
          obtain ⟨w2, hw2⟩ : ∃ w2, w2 = w1.alloc (.cells #[.int .u8 ((en.toNat : Nat) : Int)] 5 (0, 0)) := ⟨_, rfl⟩
          rw [← hw2] at hcell hlt HB1
          rw [show (w1.alloc (Obj.cells #[Value.int IntKind.u8 ((en.toNat : Nat) : Int)] 5)) = w2 from hw2.symm]
          clear hw2
          obtain ⟨b, hb⟩ : ∃ b, w1.heap.size = b := ⟨_, rfl⟩
          rw [hb] at hcell hlt ⊢
          clear hb
          with_reducible refine (HE.out b w2 hlt hcell).mono ?_
          rintro e w3 ⟨rfl, hb3⟩
          have HB3 := Lib.hid (HB1.out.trans (hb3.mono HB1.out.size))
          have hc3 : w3.cell? ⟨b, 0, none⟩ = some (.int .u8 ((en.toNat : Nat) : Int)) := (hb3.cell (p := ⟨b, 0, none⟩) hlt).trans hcell
          have hlt3 : b + 1 ≤ w3.heap.size := Nat.le_trans hlt hb3.size
          have HS3 : w3.cell? ⟨b, 0, none⟩ = some (.int .u8 ((en.toNat : Nat) : Int)) ∧ Below w.heap.size w w3 ∧ b + 1 ≤ w3.heap.size := ⟨hc3, HB3.out, hlt3⟩
          have HG2 := Lib.hid (fun W (hS : W.cell? ⟨b, 0, none⟩ = some (.int .u8 ((en.toNat : Nat) : Int)) ∧ Below w.heap.size w W ∧ b + 1 ≤ W.heap.size) => HG.out W (HLd.out.go hS.2.1))
          clear hb3 hcell hlt hlt3 HB1 HB3 hc3 HE HC HG
          go_wp2_with fail
          go_region_held3 (fun W => W.cell? ⟨b, 0, none⟩ = some (.int .u8 ((en.toNat : Nat) : Int)) ∧ Below w.heap.size w W ∧ b + 1 ≤ W.heap.size)
            (first | (refine ti_keep hb5 ?_; assumption) | (refine ti_keep (pw_below_drewN (Below.refl _ _) _) ?_; assumption) | (refine ti_keep (Below.drew (Below.refl _ _)) ?_; assumption))
            (first | (go_at_call 31; refine (HG2.out _ (by assumption)).mono ?_; rintro e w5 ⟨rfl, hb5⟩))
          rename_i hh
          have HB4 := Lib.hid hh.2.1
          clear hh
          go_wp2
          go_ret2
          rw [HL.out]
          exact ⟨rfl, HB4.out⟩
        | false =>
          rw [if_neg (by rw [hg]; decide)] at hlab
          rw [hg] at HG
          have HL := Lib.hid hlab
          have HK := Lib.hid (show ((k : Int) + 1) = ((E + 2 : Nat) : Int) by omega)
          clear hlab hget ht hE eye h1 hg hen h0
          go_enter Tryz.func14, Tryz.ntmps14
          go_wp2_with fail
          refine (HC.out _).mono ?_
          rintro e w1 ⟨rfl, hd⟩
          have hcell : (w1.alloc (.cells #[.int .u8 ((en.toNat : Nat) : Int)] 5 (0, 0))).cell? ⟨w1.heap.size, 0, none⟩ = some (.int .u8 ((en.toNat : Nat) : Int)) := cell_of_one (heap_alloc_new w1 _)
          have hlt : w1.heap.size < (w1.alloc (.cells #[.int .u8 ((en.toNat : Nat) : Int)] 5 (0, 0))).heap.size := by rw [al2_size]; omega
          have HB1 := Lib.hid (hd.below.alloc hd.below.size (.cells #[.int .u8 ((en.toNat : Nat) : Int)] 5 (0, 0)))
          clear hd
          go_wp2_with fail
          obtain ⟨w2, hw2⟩ : ∃ w2, w2 = w1.alloc (.cells #[.int .u8 ((en.toNat : Nat) : Int)] 5 (0, 0)) := ⟨_, rfl⟩
          rw [← hw2] at hcell hlt HB1
          rw [show (w1.alloc (Obj.cells #[Value.int IntKind.u8 ((en.toNat : Nat) : Int)] 5)) = w2 from hw2.symm]
          clear hw2
          obtain ⟨b, hb⟩ : ∃ b, w1.heap.size = b := ⟨_, rfl⟩
          rw [hb] at hcell hlt ⊢
          clear hb
          with_reducible refine (HE.out b w2 hlt hcell).mono ?_
          rintro e w3 ⟨rfl, hb3⟩
          have HB3 := Lib.hid (HB1.out.trans (hb3.mono HB1.out.size))
          have hc3 : w3.cell? ⟨b, 0, none⟩ = some (.int .u8 ((en.toNat : Nat) : Int)) := (hb3.cell (p := ⟨b, 0, none⟩) hlt).trans hcell
          have hlt3 : b + 1 ≤ w3.heap.size := Nat.le_trans hlt hb3.size
          have HS3 : w3.cell? ⟨b, 0, none⟩ = some (.int .u8 ((en.toNat : Nat) : Int)) ∧ Below w.heap.size w w3 ∧ b + 1 ≤ w3.heap.size := ⟨hc3, HB3.out, hlt3⟩
          have HG2 := Lib.hid (fun W (hS : W.cell? ⟨b, 0, none⟩ = some (.int .u8 ((en.toNat : Nat) : Int)) ∧ Below w.heap.size w W ∧ b + 1 ≤ W.heap.size) => HG.out W (HLd.out.go hS.2.1))
          clear hb3 hcell hlt hlt3 HB1 HB3 hc3 HE HC HG
          go_wp2_with fail
          go_region_held3 (fun W => W.cell? ⟨b, 0, none⟩ = some (.int .u8 ((en.toNat : Nat) : Int)) ∧ Below w.heap.size w W ∧ b + 1 ≤ W.heap.size)
            (first | (refine ti_keep hb5 ?_; assumption) | (refine ti_keep (pw_below_drewN (Below.refl _ _) _) ?_; assumption) | (refine ti_keep (Below.drew (Below.refl _ _)) ?_; assumption))
            (first | (go_at_call 31; refine (HG2.out _ (by assumption)).mono ?_; rintro e w5 ⟨rfl, hb5⟩))
          rename_i hh
          have HB4 := Lib.hid hh.2.1
          clear hh
          go_wp2_with fail
          with_reducible refine (HW.out _ (HLd.out.go HB4.out)).mono ?_
          rintro e w5 ⟨rfl, hb5⟩
          have HB5 := Lib.hid (HB4.out.trans (hb5.mono HB4.out.size))
          clear hb5
          go_wp2
          go_ret2
          rw [HL.out]
          exact ⟨by first | rfl | (rw [HK.out]; rfl), HB5.out⟩
      · rw [if_neg h1] at hlab
        have HL := Lib.hid hlab
        have q2 : ((y.toNat : Int) == (en.toNat : Int)) = false := beq_eq_false_iff_ne.2 (fun e => h1 (eye.1 e))
        have q2b : ((y.toNat : Int) != (en.toNat : Int)) = true := by rw [bne, q2]; rfl
        clear hlab hget ht hE eye h1 hen h0 HW HG
        go_enter Tryz.func14, Tryz.ntmps14
        go_wp2_with fail
        refine (HC.out _).mono ?_
        rintro e w1 ⟨rfl, hd⟩
        have hcell : (w1.alloc (.cells #[.int .u8 ((en.toNat : Nat) : Int)] 5 (0, 0))).cell? ⟨w1.heap.size, 0, none⟩ = some (.int .u8 ((en.toNat : Nat) : Int)) := cell_of_one (heap_alloc_new w1 _)
        have hlt : w1.heap.size < (w1.alloc (.cells #[.int .u8 ((en.toNat : Nat) : Int)] 5 (0, 0))).heap.size := by rw [al2_size]; omega
        have HB1 := Lib.hid (hd.below.alloc hd.below.size (.cells #[.int .u8 ((en.toNat : Nat) : Int)] 5 (0, 0)))
        clear hd
        go_wp2_with fail
        obtain ⟨w2, hw2⟩ : ∃ w2, w2 = w1.alloc (.cells #[.int .u8 ((en.toNat : Nat) : Int)] 5 (0, 0)) := ⟨_, rfl⟩
        rw [← hw2] at hcell hlt HB1
        rw [show (w1.alloc (Obj.cells #[Value.int IntKind.u8 ((en.toNat : Nat) : Int)] 5)) = w2 from hw2.symm]
        clear hw2
        obtain ⟨b, hb⟩ : ∃ b, w1.heap.size = b := ⟨_, rfl⟩
        rw [hb] at hcell hlt ⊢
        clear hb
        with_reducible refine (HE.out b w2 hlt hcell).mono ?_
        rintro e w3 ⟨rfl, hb3⟩
        have HB3 := Lib.hid (HB1.out.trans (hb3.mono HB1.out.size))
        have hc3 : w3.cell? ⟨b, 0, none⟩ = some (.int .u8 ((en.toNat : Nat) : Int)) := (hb3.cell (p := ⟨b, 0, none⟩) hlt).trans hcell
        clear hb3 hcell hlt HB1 HE HC
        go_wp2_with fail
        go_quiet (fail)
        go_wp2
        go_ret2
        rw [HL.out]
        exact ⟨rfl, pw_below_drewN HB3.out _⟩
end Go.Proofs.YtjobchgncdgfaaaGreatDoor.PA

namespace Go.Proofs.YtjobchgncdgfaaaGreatDoor.PA
open Go.RowKit Go.Proofs.YtjobchgncdgfaaaGreatDoor.Pl Go.Proofs.YtjobchgncdgfaaaGreatDoorW.PrintWords Go.Proofs.YtjobchgncdgfaaaGreatDoorW.PrintLast Go.Proofs.YtjobchgncdgfaaaGreatDoorW.PrintMore Go.Proofs.YtjobchgncdgfaaaGreatDoor.Pure
set_option linter.unusedVariables false

def link_Label.f (a0 : ByteArray) : Option (ByteArray × Int) := if a0.size ≤ 1048576 then some (B (lab a0.data.toList).1, ((lab a0.data.toList).2 : Int)) else none
theorem link_Label.calls (a0 : ByteArray) (r1 : ByteArray) (r2 : Int) (w : World) (h : link_Label.f a0 = some (r1, r2)) :
    Calls Tryz.prog 10 #[.string a0] w fun e w' => e = .returned (.tuple #[.string r1, .int .i64 r2]) ∧ Below w.heap.size w w' := by
  unfold link_Label.f at h
  split at h
  · rename_i hc
    have h2 := Option.some.inj h
    obtain ⟨rfl, rfl⟩ := Prod.mk.inj h2
    exact lab_walk a0.data.toList (by rw [Array.length_toList]; exact hc) w
  · cases h
def link_Dest.f (a0 : ByteArray) : Option (ByteArray × Int × Bool) := if a0.size ≤ 1048576 then some (B (dst a0.data.toList).1, ((dst a0.data.toList).2.1 : Int), (dst a0.data.toList).2.2) else none
theorem link_Dest.calls (a0 : ByteArray) (r1 : ByteArray) (r2 : Int) (r3 : Bool) (w : World) (hLd : Laid w) (h : link_Dest.f a0 = some (r1, r2, r3)) :
    Calls Tryz.prog 12 #[.string a0] w fun e w' => e = .returned (.tuple #[.string r1, .int .i64 r2, .bool r3]) ∧ Below w.heap.size w w' := by
  unfold link_Dest.f at h
  split at h
  · rename_i hc
    have h2 := Option.some.inj h
    obtain ⟨rfl, h3⟩ := Prod.mk.inj h2
    obtain ⟨rfl, rfl⟩ := Prod.mk.inj h3
    exact dst_walk a0.data.toList (by rw [Array.length_toList]; exact hc) w hLd
  · cases h
def link_Title.f (a0 : ByteArray) : Option (ByteArray × Int) := if a0.size ≤ 1048576 then some (B (ttl a0.data.toList).1, ((ttl a0.data.toList).2 : Int)) else none
theorem link_Title.calls (a0 : ByteArray) (r1 : ByteArray) (r2 : Int) (w : World) (hLd : Laid w) (h : link_Title.f a0 = some (r1, r2)) :
    Calls Tryz.prog 14 #[.string a0] w fun e w' => e = .returned (.tuple #[.string r1, .int .i64 r2]) ∧ Below w.heap.size w w' := by
  unfold link_Title.f at h
  split at h
  · rename_i hc
    have h2 := Option.some.inj h
    obtain ⟨rfl, rfl⟩ := Prod.mk.inj h2
    exact ttl_walk a0.data.toList (by rw [Array.length_toList]; exact hc) w hLd
  · cases h
end Go.Proofs.YtjobchgncdgfaaaGreatDoor.PA

namespace Go.Proofs.YtjobchgncdgfaaaGreatDoor.PA
open Go.RowKit Go.Proofs.YtjobchgncdgfaaaGreatDoorW.PrintWords Go.Proofs.YtjobchgncdgfaaaGreatDoorW.PrintLast Go.Proofs.YtjobchgncdgfaaaGreatDoorW.PrintMore
attribute [local go_sem] max2_int min2_int max_two min_two max_three min_three max_four min_four   -- for this text's walks alone
set_option linter.unusedVariables false
set_option linter.unusedSimpArgs false

-- GIVEN: function 10 (link_Label)

-- GIVEN: function 12 (link_Dest)

-- GIVEN: function 14 (link_Title)

-- GIVEN: function 33 (strings_TrimLeft)

/-! ### link_White: function 18 -/
def link_White.f (a0 : ByteArray) : Option (Int) := (strings_TrimLeft.f a0 (⟨#[32, 9, 10]⟩ : ByteArray)).bind fun t101 => (some (wrap64 ((a0.size : Int) - (t101.size : Int))))
set_option maxHeartbeats 8000000 in
set_option maxRecDepth 100000 in
theorem link_White.calls (a0 : ByteArray) (r : Int) (w : World) (h : link_White.f a0 = some r) :
    Calls Tryz.prog 18 #[.string a0] w fun e w' => e = .returned (.int .i64 r) ∧ Below w.heap.size w w' := by
  have HB := Aside0.mk (Below.refl w.heap.size w)
  have H : ((strings_TrimLeft.f a0 (⟨#[32, 9, 10]⟩ : ByteArray)).bind fun t101 => (some (wrap64 ((a0.size : Int) - (t101.size : Int))))) = some r := h
  clear h
  replace H := Option.bind_eq_some_iff.mp H
  obtain ⟨t101, A20, H⟩ := H
  replace H : (some (wrap64 ((a0.size : Int) - (t101.size : Int)))) = some r := H
  have A2 := Aside0.mk A20
  clear A20
  obtain rfl := Option.some.inj H
  go_enter Tryz.func18, Tryz.ntmps18
  go_wp2_with (first | ((with_reducible refine gate_callee (f := 33) rfl ?_); refine goesL_ (some 6) rfl rfl Tryz.func33 (by kernel_rfl) rfl #[.string a0, .string (⟨#[32, 9, 10]⟩ : ByteArray)] rfl (by (try simp only [List.map_toArray, List.map_cons, List.map_nil]); first | done | rfl | (simp only [List.length_drop, List.length_take]; rfl)) ?_; (with_reducible refine (strings_TrimLeft.calls a0 (⟨#[32, 9, 10]⟩ : ByteArray) t101 _ A2.out).mono ?_); rintro e w3 ⟨rfl, hb⟩; refine ⟨_, rfl, ?_⟩; have n0_ := Aside0.mk (below_step (by repeat (first | (with_reducible first | exact HB.out | apply below_alloc | apply pw_below_drewN | apply below_drew1) | exact HB.out)) hb); clear HB; have HB := n0_; clear n0_; (try clear hb); (try clear hb2); (try clear hk); (try clear hi)))
  go_ret
  exact ⟨by first | rfl | (simp [errW_none, errW_some] <;> rfl) | (simp [*, errW_none, errW_some] <;> rfl), by repeat (first | (with_reducible first | exact HB.out | apply below_alloc | apply pw_below_drewN | apply below_drew1) | exact HB.out)⟩

-- GIVEN: function 20 (strings_HasPrefix)

/-! ### link_Tail: function 16 -/
mutual
def link_Tail.j0 : Nat → ByteArray → Int → ByteArray → ByteArray → Int → Bool → Option (ByteArray × ByteArray × Int)
  | 0, _, _, _, _, _, _ => none
  | k + 1, x0, x5, x6, x9, x10, x40 => if x40 = true then (if 0 ≤ (wrap64 (x5 + x10)) then (if (wrap64 (x5 + x10)) ≤ (x0.size : Int) then ((link_Title.f (x0.extract ((wrap64 (x5 + x10)) : Int).toNat x0.size)).bind fun bt108 => (if bt108.2 > 0 then (link_Tail.j1 k x0 (wrap64 ((wrap64 (x5 + x10)) + bt108.2)) x6 bt108.1) else (link_Tail.j1 k x0 x5 x6 x9))) else (none)) else (none)) else (link_Tail.j1 k x0 x5 x6 x9)
def link_Tail.j1 : Nat → ByteArray → Int → ByteArray → ByteArray → Option (ByteArray × ByteArray × Int)
  | 0, _, _, _, _ => none
  | k + 1, x0, x5, x6, x9 => if 0 ≤ x5 then (if x5 ≤ (x0.size : Int) then ((link_White.f (x0.extract (x5 : Int).toNat x0.size)).bind fun t110 => (if 0 ≤ (wrap64 (x5 + t110)) then (if (wrap64 (x5 + t110)) ≤ (x0.size : Int) then ((strings_HasPrefix.f (x0.extract ((wrap64 (x5 + t110)) : Int).toNat x0.size) (⟨#[41]⟩ : ByteArray)).bind fun t111 => (if t111 = true then (some (x6, x9, wrap64 ((wrap64 (x5 + t110)) + 1))) else (some ((⟨#[]⟩ : ByteArray), (⟨#[]⟩ : ByteArray), 0)))) else (none)) else (none))) else (none)) else (none)
end
def link_Tail.f (k : Nat) (a0 : ByteArray) : Option (ByteArray × ByteArray × Int) := (strings_HasPrefix.f a0 (⟨#[40]⟩ : ByteArray)).bind fun t102 => (if t102 = true then (if 1 ≤ (a0.size : Int) then ((link_White.f (a0.extract 1 a0.size)).bind fun t103 => (if 0 ≤ (wrap64 (1 + t103)) then (if (wrap64 (1 + t103)) ≤ (a0.size : Int) then ((link_Dest.f (a0.extract ((wrap64 (1 + t103)) : Int).toNat a0.size)).bind fun bt104 => (if 0 ≤ (wrap64 ((wrap64 (1 + t103)) + bt104.2.1)) then (if (wrap64 ((wrap64 (1 + t103)) + bt104.2.1)) ≤ (a0.size : Int) then ((link_White.f (a0.extract ((wrap64 ((wrap64 (1 + t103)) + bt104.2.1)) : Int).toNat a0.size)).bind fun t107 => (if bt104.2.1 > 0 then (link_Tail.j0 k a0 (wrap64 ((wrap64 (1 + t103)) + bt104.2.1)) bt104.1 (⟨#[]⟩ : ByteArray) t107 (decide (t107 > 0))) else (link_Tail.j0 k a0 (wrap64 ((wrap64 (1 + t103)) + bt104.2.1)) bt104.1 (⟨#[]⟩ : ByteArray) t107 false))) else (none)) else (none))) else (none)) else (none))) else (none)) else (some ((⟨#[]⟩ : ByteArray), (⟨#[]⟩ : ByteArray), 0)))
theorem link_Tail.mono_l : ∀ k, (∀ y0 y1 y2 y3 y4 y5, LeO (link_Tail.j0 k y0 y1 y2 y3 y4 y5) (link_Tail.j0 (k + 1) y0 y1 y2 y3 y4 y5)) ∧ (∀ y0 y1 y2 y3, LeO (link_Tail.j1 k y0 y1 y2 y3) (link_Tail.j1 (k + 1) y0 y1 y2 y3))
  | 0 => ⟨fun _ _ _ _ _ _ r h => by simp [link_Tail.j0] at h, fun _ _ _ _ r h => by simp [link_Tail.j1] at h⟩
  | k + 1 => by
    obtain ⟨ih0, ih1⟩ := link_Tail.mono_l k
    refine ⟨?_, ?_⟩
    · intro y0 y1 y2 y3 y4 y5
      unfold link_Tail.j0
      repeat' first
      | (with_reducible exact ih0 _ _ _ _ _ _)
      | (with_reducible exact ih1 _ _ _ _)
      | (with_reducible exact LeO.refl _)
      | (with_reducible exact LeO.none _)
      | (with_reducible refine LeO.ite ?_ ?_)
      | (with_reducible refine LeO.bind ?_ (fun _ => ?_))
      | exact ih0 _ _ _ _ _ _
      | exact ih1 _ _ _ _
      | exact LeO.none _
      | refine LeO.ite ?_ ?_
      | refine LeO.bind ?_ (fun _ => ?_)
    · intro y0 y1 y2 y3
      unfold link_Tail.j1
      repeat' first
      | (with_reducible exact ih0 _ _ _ _ _ _)
      | (with_reducible exact ih1 _ _ _ _)
      | (with_reducible exact LeO.refl _)
      | (with_reducible exact LeO.none _)
      | (with_reducible refine LeO.ite ?_ ?_)
      | (with_reducible refine LeO.bind ?_ (fun _ => ?_))
      | exact ih0 _ _ _ _ _ _
      | exact ih1 _ _ _ _
      | exact LeO.none _
      | refine LeO.ite ?_ ?_
      | refine LeO.bind ?_ (fun _ => ?_)
theorem link_Tail.mono : ∀ a0 k, LeO (link_Tail.f k a0) (link_Tail.f (k + 1) a0) := by
  intro a0 k
  obtain ⟨ih0, ih1⟩ := link_Tail.mono_l k
  unfold link_Tail.f
  repeat' first
      | (with_reducible exact ih0 _ _ _ _ _ _)
      | (with_reducible exact ih1 _ _ _ _)
      | (with_reducible exact LeO.refl _)
      | (with_reducible exact LeO.none _)
      | (with_reducible refine LeO.ite ?_ ?_)
      | (with_reducible refine LeO.bind ?_ (fun _ => ?_))
      | exact ih0 _ _ _ _ _ _
      | exact ih1 _ _ _ _
      | exact LeO.none _
      | refine LeO.ite ?_ ?_
      | refine LeO.bind ?_ (fun _ => ?_)
set_option maxHeartbeats 8000000 in
set_option maxRecDepth 100000 in
theorem link_Tail.calls (k : Nat) (a0 : ByteArray) (r1 : ByteArray) (r2 : ByteArray) (r3 : Int) (w : World) (hLd : Laid w) (h : link_Tail.f k a0 = some (r1, r2, r3)) :
    Calls Tryz.prog 16 #[.string a0] w fun e w' => e = .returned (.tuple #[.string r1, .string r2, .int .i64 r3]) ∧ Below w.heap.size w w' := by
  have HB := Aside0.mk (Below.refl w.heap.size w)
  have H : ((strings_HasPrefix.f a0 (⟨#[40]⟩ : ByteArray)).bind fun t102 => (if t102 = true then (if 1 ≤ (a0.size : Int) then ((link_White.f (a0.extract 1 a0.size)).bind fun t103 => (if 0 ≤ (wrap64 (1 + t103)) then (if (wrap64 (1 + t103)) ≤ (a0.size : Int) then ((link_Dest.f (a0.extract ((wrap64 (1 + t103)) : Int).toNat a0.size)).bind fun bt104 => (if 0 ≤ (wrap64 ((wrap64 (1 + t103)) + bt104.2.1)) then (if (wrap64 ((wrap64 (1 + t103)) + bt104.2.1)) ≤ (a0.size : Int) then ((link_White.f (a0.extract ((wrap64 ((wrap64 (1 + t103)) + bt104.2.1)) : Int).toNat a0.size)).bind fun t107 => (if bt104.2.1 > 0 then (link_Tail.j0 k a0 (wrap64 ((wrap64 (1 + t103)) + bt104.2.1)) bt104.1 (⟨#[]⟩ : ByteArray) t107 (decide (t107 > 0))) else (link_Tail.j0 k a0 (wrap64 ((wrap64 (1 + t103)) + bt104.2.1)) bt104.1 (⟨#[]⟩ : ByteArray) t107 false))) else (none)) else (none))) else (none)) else (none))) else (none)) else (some ((⟨#[]⟩ : ByteArray), (⟨#[]⟩ : ByteArray), 0)))) = some (r1, r2, r3) := h
  clear h
  replace H := Option.bind_eq_some_iff.mp H
  obtain ⟨t102, A20, H⟩ := H
  replace H : (if t102 = true then (if 1 ≤ (a0.size : Int) then ((link_White.f (a0.extract 1 a0.size)).bind fun t103 => (if 0 ≤ (wrap64 (1 + t103)) then (if (wrap64 (1 + t103)) ≤ (a0.size : Int) then ((link_Dest.f (a0.extract ((wrap64 (1 + t103)) : Int).toNat a0.size)).bind fun bt104 => (if 0 ≤ (wrap64 ((wrap64 (1 + t103)) + bt104.2.1)) then (if (wrap64 ((wrap64 (1 + t103)) + bt104.2.1)) ≤ (a0.size : Int) then ((link_White.f (a0.extract ((wrap64 ((wrap64 (1 + t103)) + bt104.2.1)) : Int).toNat a0.size)).bind fun t107 => (if bt104.2.1 > 0 then (link_Tail.j0 k a0 (wrap64 ((wrap64 (1 + t103)) + bt104.2.1)) bt104.1 (⟨#[]⟩ : ByteArray) t107 (decide (t107 > 0))) else (link_Tail.j0 k a0 (wrap64 ((wrap64 (1 + t103)) + bt104.2.1)) bt104.1 (⟨#[]⟩ : ByteArray) t107 false))) else (none)) else (none))) else (none)) else (none))) else (none)) else (some ((⟨#[]⟩ : ByteArray), (⟨#[]⟩ : ByteArray), 0))) = some (r1, r2, r3) := H
  have A2 := Aside0.mk A20
  clear A20
  by_cases c3 : t102 = true
  · subst c3
    have H1 : (if 1 ≤ (a0.size : Int) then ((link_White.f (a0.extract 1 a0.size)).bind fun t103 => (if 0 ≤ (wrap64 (1 + t103)) then (if (wrap64 (1 + t103)) ≤ (a0.size : Int) then ((link_Dest.f (a0.extract ((wrap64 (1 + t103)) : Int).toNat a0.size)).bind fun bt104 => (if 0 ≤ (wrap64 ((wrap64 (1 + t103)) + bt104.2.1)) then (if (wrap64 ((wrap64 (1 + t103)) + bt104.2.1)) ≤ (a0.size : Int) then ((link_White.f (a0.extract ((wrap64 ((wrap64 (1 + t103)) + bt104.2.1)) : Int).toNat a0.size)).bind fun t107 => (if bt104.2.1 > 0 then (link_Tail.j0 k a0 (wrap64 ((wrap64 (1 + t103)) + bt104.2.1)) bt104.1 (⟨#[]⟩ : ByteArray) t107 (decide (t107 > 0))) else (link_Tail.j0 k a0 (wrap64 ((wrap64 (1 + t103)) + bt104.2.1)) bt104.1 (⟨#[]⟩ : ByteArray) t107 false))) else (none)) else (none))) else (none)) else (none))) else (none)) = some (r1, r2, r3) := by rw [if_pos rfl] at H; exact H
    clear H
    have H := H1
    clear H1
    by_cases c4 : 1 ≤ (a0.size : Int)
    · rw [if_pos c4] at H
      have c4b0 := eq_true c4
      have c4b1 : decide (1 ≤ (a0.size : Int)) = true := decide_eq_true c4
      clear c4
      replace H := Option.bind_eq_some_iff.mp H
      obtain ⟨t103, A50, H⟩ := H
      replace H : (if 0 ≤ (wrap64 (1 + t103)) then (if (wrap64 (1 + t103)) ≤ (a0.size : Int) then ((link_Dest.f (a0.extract ((wrap64 (1 + t103)) : Int).toNat a0.size)).bind fun bt104 => (if 0 ≤ (wrap64 ((wrap64 (1 + t103)) + bt104.2.1)) then (if (wrap64 ((wrap64 (1 + t103)) + bt104.2.1)) ≤ (a0.size : Int) then ((link_White.f (a0.extract ((wrap64 ((wrap64 (1 + t103)) + bt104.2.1)) : Int).toNat a0.size)).bind fun t107 => (if bt104.2.1 > 0 then (link_Tail.j0 k a0 (wrap64 ((wrap64 (1 + t103)) + bt104.2.1)) bt104.1 (⟨#[]⟩ : ByteArray) t107 (decide (t107 > 0))) else (link_Tail.j0 k a0 (wrap64 ((wrap64 (1 + t103)) + bt104.2.1)) bt104.1 (⟨#[]⟩ : ByteArray) t107 false))) else (none)) else (none))) else (none)) else (none)) = some (r1, r2, r3) := H
      have A5 := Aside0.mk A50
      clear A50
      obtain ⟨ji6, hji6⟩ : ∃ j_ : Int, (wrap64 (1 + t103)) = j_ := ⟨_, rfl⟩
      replace H : (if 0 ≤ (ji6) then (if (ji6) ≤ (a0.size : Int) then ((link_Dest.f (a0.extract ((ji6) : Int).toNat a0.size)).bind fun bt104 => (if 0 ≤ (wrap64 ((ji6) + bt104.2.1)) then (if (wrap64 ((ji6) + bt104.2.1)) ≤ (a0.size : Int) then ((link_White.f (a0.extract ((wrap64 ((ji6) + bt104.2.1)) : Int).toNat a0.size)).bind fun t107 => (if bt104.2.1 > 0 then (link_Tail.j0 k a0 (wrap64 ((ji6) + bt104.2.1)) bt104.1 (⟨#[]⟩ : ByteArray) t107 (decide (t107 > 0))) else (link_Tail.j0 k a0 (wrap64 ((ji6) + bt104.2.1)) bt104.1 (⟨#[]⟩ : ByteArray) t107 false))) else (none)) else (none))) else (none)) else (none)) = some (r1, r2, r3) := by first | (rw [hji6] at H; exact H) | (simp only [hji6] at H ⊢; exact H)
      (try rw [hji6] at A2)
      (try rw [hji6] at A5)
      have hji6w : (IntKind.i64.wrap (1 + t103)) = ji6 := (i64_w _).trans hji6
      by_cases c7 : 0 ≤ (ji6)
      · rw [if_pos c7] at H
        have c7b0 := eq_true c7
        have c7b1 : decide (0 ≤ (ji6)) = true := decide_eq_true c7
        clear c7
        by_cases c8 : (ji6) ≤ (a0.size : Int)
        · rw [if_pos c8] at H
          have c8b0 := eq_true c8
          have c8b1 : decide ((ji6) ≤ (a0.size : Int)) = true := decide_eq_true c8
          clear c8
          replace H := Option.bind_eq_some_iff.mp H
          obtain ⟨⟨t104, t105, t106⟩, A90, H⟩ := H
          replace H : (if 0 ≤ (wrap64 ((ji6) + t105)) then (if (wrap64 ((ji6) + t105)) ≤ (a0.size : Int) then ((link_White.f (a0.extract ((wrap64 ((ji6) + t105)) : Int).toNat a0.size)).bind fun t107 => (if t105 > 0 then (link_Tail.j0 k a0 (wrap64 ((ji6) + t105)) t104 (⟨#[]⟩ : ByteArray) t107 (decide (t107 > 0))) else (link_Tail.j0 k a0 (wrap64 ((ji6) + t105)) t104 (⟨#[]⟩ : ByteArray) t107 false))) else (none)) else (none)) = some (r1, r2, r3) := H
          have A9 := Aside0.mk A90
          clear A90
          obtain ⟨ji10, hji10⟩ : ∃ j_ : Int, (wrap64 ((ji6) + t105)) = j_ := ⟨_, rfl⟩
          replace H : (if 0 ≤ (ji10) then (if (ji10) ≤ (a0.size : Int) then ((link_White.f (a0.extract ((ji10) : Int).toNat a0.size)).bind fun t107 => (if t105 > 0 then (link_Tail.j0 k a0 ji10 t104 (⟨#[]⟩ : ByteArray) t107 (decide (t107 > 0))) else (link_Tail.j0 k a0 ji10 t104 (⟨#[]⟩ : ByteArray) t107 false))) else (none)) else (none)) = some (r1, r2, r3) := by first | (rw [hji10] at H; exact H) | (simp only [hji10] at H ⊢; exact H)
          (try rw [hji10] at A2)
          (try rw [hji10] at A5)
          (try rw [hji10] at A9)
          have hji10w : (IntKind.i64.wrap ((ji6) + t105)) = ji10 := (i64_w _).trans hji10
          by_cases c11 : 0 ≤ (ji10)
          · rw [if_pos c11] at H
            have c11b0 := eq_true c11
            have c11b1 : decide (0 ≤ (ji10)) = true := decide_eq_true c11
            clear c11
            by_cases c12 : (ji10) ≤ (a0.size : Int)
            · rw [if_pos c12] at H
              have c12b0 := eq_true c12
              have c12b1 : decide ((ji10) ≤ (a0.size : Int)) = true := decide_eq_true c12
              clear c12
              replace H := Option.bind_eq_some_iff.mp H
              obtain ⟨t107, A130, H⟩ := H
              replace H : (if t105 > 0 then (link_Tail.j0 k a0 ji10 t104 (⟨#[]⟩ : ByteArray) t107 (decide (t107 > 0))) else (link_Tail.j0 k a0 ji10 t104 (⟨#[]⟩ : ByteArray) t107 false)) = some (r1, r2, r3) := H
              have A13 := Aside0.mk A130
              clear A130
              have HC14 := Aside0.mk H
              clear H
              go_enter Tryz.func16, Tryz.ntmps16
              go_upto_region 8 with (first | ((with_reducible refine gate_callee (f := 20) rfl ?_); refine goesL_ (some 14) rfl rfl Tryz.func20 (by kernel_rfl) rfl #[.string a0, .string (⟨#[40]⟩ : ByteArray)] rfl (by (try simp only [List.map_toArray, List.map_cons, List.map_nil]); first | done | rfl | (simp only [List.length_drop, List.length_take]; rfl)) ?_; (with_reducible refine (strings_HasPrefix.calls a0 (⟨#[40]⟩ : ByteArray) true _ A2.out).mono ?_); rintro e w' ⟨rfl, ⟨nd, rfl⟩⟩; refine ⟨_, rfl, ?_⟩) | ((with_reducible refine gate_callee (f := 18) rfl ?_); refine goesL_ (some 18) rfl rfl Tryz.func18 (by kernel_rfl) rfl #[.string (a0.extract 1 a0.size)] rfl (by (try simp only [List.map_toArray, List.map_cons, List.map_nil]); first | done | rfl | (simp only [List.length_drop, List.length_take]; rfl)) ?_; (with_reducible refine (link_White.calls (a0.extract 1 a0.size) t103 _ A5.out).mono ?_); rintro e w15 ⟨rfl, hb⟩; refine ⟨_, rfl, ?_⟩; have n0_ := Aside0.mk (below_step (by repeat (first | (with_reducible first | exact HB.out | apply below_alloc | apply pw_below_drewN | apply below_drew1) | exact HB.out)) hb); clear HB; have HB := n0_; clear n0_; (try clear hb); (try clear hb2); (try clear hk); (try clear hi)) | ((with_reducible refine gate_callee (f := 12) rfl ?_); refine goesL_ (some 24) rfl rfl Tryz.func12 (by kernel_rfl) rfl #[.string (a0.extract ((ji6) : Int).toNat a0.size)] rfl (by (try simp only [List.map_toArray, List.map_cons, List.map_nil]); first | done | (simp only [hji6]; rfl) | rfl | (simp only [List.length_drop, List.length_take]; rfl)) ?_; (with_reducible refine (link_Dest.calls (a0.extract ((ji6) : Int).toNat a0.size) t104 t105 t106 _ ?side1 A9.out).mono ?_); (case side1 => exact Laid.go hLd (by repeat (first | (with_reducible first | exact HB.out | apply below_alloc | apply pw_below_drewN | apply below_drew1) | exact HB.out))); rintro e w16 ⟨rfl, hb⟩; refine ⟨_, rfl, ?_⟩; have n0_ := Aside0.mk (below_step (by repeat (first | (with_reducible first | exact HB.out | apply below_alloc | apply pw_below_drewN | apply below_drew1) | exact HB.out)) hb); clear HB; have HB := n0_; clear n0_; (try clear hb); (try clear hb2); (try clear hk); (try clear hi)) | ((with_reducible refine gate_callee (f := 18) rfl ?_); refine goesL_ (some 34) rfl rfl Tryz.func18 (by kernel_rfl) rfl #[.string (a0.extract ((ji10) : Int).toNat a0.size)] rfl (by (try simp only [List.map_toArray, List.map_cons, List.map_nil]); first | done | (simp only [hji10]; rfl) | rfl | (simp only [List.length_drop, List.length_take]; rfl)) ?_; (with_reducible refine (link_White.calls (a0.extract ((ji10) : Int).toNat a0.size) t107 _ A13.out).mono ?_); rintro e w17 ⟨rfl, hb⟩; refine ⟨_, rfl, ?_⟩; have n0_ := Aside0.mk (below_step (by repeat (first | (with_reducible first | exact HB.out | apply below_alloc | apply pw_below_drewN | apply below_drew1) | exact HB.out)) hb); clear HB; have HB := n0_; clear n0_; (try clear hb); (try clear hb2); (try clear hk); (try clear hi)))
              (try simp only [Act.put, List.setIfInBounds_toArray, List.set_cons_zero, List.set_cons_succ])
              go_cut [40] (fun v40 wc => ∃ (kq : Nat) (x40_13 : Bool), v40 = .bool x40_13 ∧ Aside0 (link_Tail.j0 kq a0 ji10 t104 (⟨#[]⟩ : ByteArray) t107 x40_13 = some (r1, r2, r3)) ∧ Aside0 (kq ≤ k) ∧ Aside0 (Below w.heap.size w wc))
              case first =>
                have H := HC14.out
                clear HC14
                by_cases c18 : t105 > 0
                · rw [if_pos c18] at H
                  have c18b0 : decide (0 < t105) = true := decide_eq_true c18
                  clear c18
                  (first | rw [c18b0] | (simp only [i64_w, i32_w]; rw [c18b0]) | skip)
                  have H' := Aside0.mk H
                  clear H
                  go_wp2
                  go_meet
                  case rel => exact ⟨_, (decide (t107 > 0)), (by first | rfl | (simp; done) | (simp [*]; done)), H', ⟨by first | omega | exact Nat.le_refl _⟩, ⟨by repeat (first | (with_reducible first | exact HB.out | apply below_alloc | apply pw_below_drewN | apply below_drew1) | exact HB.out)⟩⟩
                · rw [if_neg c18] at H
                  have c18b0 : decide (0 < t105) = false := decide_eq_false c18
                  clear c18
                  (first | rw [c18b0] | (simp only [i64_w, i32_w]; rw [c18b0]) | skip)
                  have H' := Aside0.mk H
                  clear H
                  go_wp2
                  go_meet
                  case rel => exact ⟨_, (false), (by first | rfl | (simp; done) | (simp [*]; done)), H', ⟨by first | omega | exact Nat.le_refl _⟩, ⟨by repeat (first | (with_reducible first | exact HB.out | apply below_alloc | apply pw_below_drewN | apply below_drew1) | exact HB.out)⟩⟩
              case rest =>
                clear HC14
                try clear c1
                try clear c2
                try clear p2
                try clear c3
                try clear c4
                try clear c4b0
                try clear c4b1
                try clear p6
                try clear c7
                try clear c7b0
                try clear c7b1
                try clear c8
                try clear c8b0
                try clear c8b1
                try clear c11
                try clear c11b0
                try clear c11b1
                try clear c12
                try clear c12b0
                try clear c12b1
                try clear c16
                try clear c18
                try clear c18b0
                obtain ⟨kq, x40_13, rfl, HA, HJ13, HB⟩ := hcut
                cases kq with
                | zero => exact absurd HA.out (by simp [link_Tail.j0])
                | succ kj13 =>
                  have H := HA.out
                  clear HA
                  simp only [link_Tail.j0] at H
                  have HC19 := Aside0.mk H
                  clear H
                  go_upto_if 40 with (fail)
                  go_cut [5, 9] (fun v5 v9 wc => ∃ (kq : Nat) (x5_18 : Int) (x9_18 : ByteArray), v5 = .int .i64 x5_18 ∧ v9 = .string x9_18 ∧ Aside0 (link_Tail.j1 kq a0 x5_18 t104 x9_18 = some (r1, r2, r3)) ∧ Aside0 (kq ≤ kj13) ∧ Aside0 (Below w.heap.size w wc))
                  case first =>
                    have H := HC19.out
                    clear HC19
                    by_cases c20 : x40_13 = true
                    · subst c20
                      have H1 : (if 0 ≤ (wrap64 (ji10 + t107)) then (if (wrap64 (ji10 + t107)) ≤ (a0.size : Int) then ((link_Title.f (a0.extract ((wrap64 (ji10 + t107)) : Int).toNat a0.size)).bind fun bt108 => (if bt108.2 > 0 then (link_Tail.j1 kj13 a0 (wrap64 ((wrap64 (ji10 + t107)) + bt108.2)) t104 bt108.1) else (link_Tail.j1 kj13 a0 ji10 t104 (⟨#[]⟩ : ByteArray)))) else (none)) else (none)) = some (r1, r2, r3) := by rw [if_pos rfl] at H; exact H
                      clear H
                      have H := H1
                      clear H1
                      obtain ⟨ji21, hji21⟩ : ∃ j_ : Int, (wrap64 (ji10 + t107)) = j_ := ⟨_, rfl⟩
                      replace H : (if 0 ≤ (ji21) then (if (ji21) ≤ (a0.size : Int) then ((link_Title.f (a0.extract ((ji21) : Int).toNat a0.size)).bind fun bt108 => (if bt108.2 > 0 then (link_Tail.j1 kj13 a0 (wrap64 ((ji21) + bt108.2)) t104 bt108.1) else (link_Tail.j1 kj13 a0 ji10 t104 (⟨#[]⟩ : ByteArray)))) else (none)) else (none)) = some (r1, r2, r3) := by first | (rw [hji21] at H; exact H) | (simp only [hji21] at H ⊢; exact H)
                      have hji21w : (IntKind.i64.wrap (ji10 + t107)) = ji21 := (i64_w _).trans hji21
                      by_cases c22 : 0 ≤ (ji21)
                      · rw [if_pos c22] at H
                        have c22b0 := eq_true c22
                        have c22b1 : decide (0 ≤ (ji21)) = true := decide_eq_true c22
                        clear c22
                        by_cases c23 : (ji21) ≤ (a0.size : Int)
                        · rw [if_pos c23] at H
                          have c23b0 := eq_true c23
                          have c23b1 : decide ((ji21) ≤ (a0.size : Int)) = true := decide_eq_true c23
                          clear c23
                          replace H := Option.bind_eq_some_iff.mp H
                          obtain ⟨⟨t108, t109⟩, A240, H⟩ := H
                          replace H : (if t109 > 0 then (link_Tail.j1 kj13 a0 (wrap64 ((ji21) + t109)) t104 t108) else (link_Tail.j1 kj13 a0 ji10 t104 (⟨#[]⟩ : ByteArray))) = some (r1, r2, r3) := H
                          have A24 := Aside0.mk A240
                          clear A240
                          by_cases c25 : t109 > 0
                          · rw [if_pos c25] at H
                            have c25b0 : decide (0 < t109) = true := decide_eq_true c25
                            clear c25
                            (first | rw [c25b0] | (simp only [i64_w, i32_w]; rw [c25b0]) | skip)
                            have H' := Aside0.mk H
                            clear H
                            go_wp2_with (first | ((with_reducible refine gate_callee (f := 14) rfl ?_); refine goesL_ (some 47) rfl rfl Tryz.func14 (by kernel_rfl) rfl #[.string (a0.extract ((ji21) : Int).toNat a0.size)] rfl (by (try simp only [List.map_toArray, List.map_cons, List.map_nil]); first | done | (simp only [hji21]; rfl) | rfl | (simp only [List.length_drop, List.length_take]; rfl)) ?_; (with_reducible refine (link_Title.calls (a0.extract ((ji21) : Int).toNat a0.size) t108 t109 _ ?side1 A24.out).mono ?_); (case side1 => exact Laid.go hLd (by repeat (first | (with_reducible first | exact HB.out | apply below_alloc | apply pw_below_drewN | apply below_drew1) | exact HB.out))); rintro e w26 ⟨rfl, hb⟩; refine ⟨_, rfl, ?_⟩; have n0_ := Aside0.mk (below_step (by repeat (first | (with_reducible first | exact HB.out | apply below_alloc | apply pw_below_drewN | apply below_drew1) | exact HB.out)) hb); clear HB; have HB := n0_; clear n0_; (try clear hb); (try clear hb2); (try clear hk); (try clear hi)))
                            go_meet
                            case rel => exact ⟨_, (wrap64 ((ji21) + t109)), (t108), (by first | rfl | (simp; done) | (simp only [← hji21] <;> (first | rfl | simp)) | (simp [*]; done)), (by first | rfl | (simp; done) | (simp [*]; done)), H', ⟨by have := HJ13.out; first | omega | exact Nat.le_refl _⟩, ⟨by repeat (first | (with_reducible first | exact HB.out | apply below_alloc | apply pw_below_drewN | apply below_drew1) | exact HB.out)⟩⟩
                          · rw [if_neg c25] at H
                            have c25b0 : decide (0 < t109) = false := decide_eq_false c25
                            clear c25
                            (first | rw [c25b0] | (simp only [i64_w, i32_w]; rw [c25b0]) | skip)
                            have H' := Aside0.mk H
                            clear H
                            go_wp2_with (first | ((with_reducible refine gate_callee (f := 14) rfl ?_); refine goesL_ (some 47) rfl rfl Tryz.func14 (by kernel_rfl) rfl #[.string (a0.extract ((ji21) : Int).toNat a0.size)] rfl (by (try simp only [List.map_toArray, List.map_cons, List.map_nil]); first | done | (simp only [hji21]; rfl) | rfl | (simp only [List.length_drop, List.length_take]; rfl)) ?_; (with_reducible refine (link_Title.calls (a0.extract ((ji21) : Int).toNat a0.size) t108 t109 _ ?side1 A24.out).mono ?_); (case side1 => exact Laid.go hLd (by repeat (first | (with_reducible first | exact HB.out | apply below_alloc | apply pw_below_drewN | apply below_drew1) | exact HB.out))); rintro e w27 ⟨rfl, hb⟩; refine ⟨_, rfl, ?_⟩; have n0_ := Aside0.mk (below_step (by repeat (first | (with_reducible first | exact HB.out | apply below_alloc | apply pw_below_drewN | apply below_drew1) | exact HB.out)) hb); clear HB; have HB := n0_; clear n0_; (try clear hb); (try clear hb2); (try clear hk); (try clear hi)))
                            go_meet
                            case rel => exact ⟨_, (ji10), ((⟨#[]⟩ : ByteArray)), (by first | rfl | (simp; done) | (simp only [← hji10] <;> (first | rfl | simp)) | (simp [*]; done)), (by first | rfl | (simp; done) | (simp [*]; done)), H', ⟨by have := HJ13.out; first | omega | exact Nat.le_refl _⟩, ⟨by repeat (first | (with_reducible first | exact HB.out | apply below_alloc | apply pw_below_drewN | apply below_drew1) | exact HB.out)⟩⟩
                        · rw [if_neg c23] at H
                          exact absurd H (by simp)
                      · rw [if_neg c22] at H
                        exact absurd H (by simp)
                    · replace c20 := Bool.eq_false_iff.mpr c20
                      subst c20
                      have H1 : (link_Tail.j1 kj13 a0 ji10 t104 (⟨#[]⟩ : ByteArray)) = some (r1, r2, r3) := by rw [if_neg (show ¬ (false = true) by decide)] at H; exact H
                      clear H
                      have H := H1
                      clear H1
                      have H' := Aside0.mk H
                      clear H
                      go_wp2
                      go_meet
                      case rel => exact ⟨_, (ji10), ((⟨#[]⟩ : ByteArray)), (by first | rfl | (simp; done) | (simp only [← hji10] <;> (first | rfl | simp)) | (simp [*]; done)), (by first | rfl | (simp; done) | (simp [*]; done)), H', ⟨by have := HJ13.out; first | omega | exact Nat.le_refl _⟩, ⟨by repeat (first | (with_reducible first | exact HB.out | apply below_alloc | apply pw_below_drewN | apply below_drew1) | exact HB.out)⟩⟩
                  case rest =>
                    clear HC19
                    try clear c1
                    try clear c2
                    try clear p2
                    try clear c3
                    try clear c4
                    try clear c4b0
                    try clear c4b1
                    try clear p6
                    try clear c7
                    try clear c7b0
                    try clear c7b1
                    try clear c8
                    try clear c8b0
                    try clear c8b1
                    try clear c11
                    try clear c11b0
                    try clear c11b1
                    try clear c12
                    try clear c12b0
                    try clear c12b1
                    try clear c14
                    try clear c16
                    try clear c18
                    try clear c18b0
                    try clear c20
                    try clear c22
                    try clear c22b0
                    try clear c22b1
                    try clear c23
                    try clear c23b0
                    try clear c23b1
                    try clear c25
                    try clear c25b0
                    try clear p2
                    try clear p6
                    obtain ⟨kq, x5_18, x9_18, rfl, rfl, HA, HJ18, HB⟩ := hcut
                    cases kq with
                    | zero => exact absurd HA.out (by simp [link_Tail.j1])
                    | succ kj18 =>
                      have H := HA.out
                      clear HA
                      simp only [link_Tail.j1] at H
                      by_cases c28 : 0 ≤ x5_18
                      · rw [if_pos c28] at H
                        have c28b0 := eq_true c28
                        have c28b1 : decide (0 ≤ x5_18) = true := decide_eq_true c28
                        clear c28
                        by_cases c29 : x5_18 ≤ (a0.size : Int)
                        · rw [if_pos c29] at H
                          have c29b0 := eq_true c29
                          have c29b1 : decide (x5_18 ≤ (a0.size : Int)) = true := decide_eq_true c29
                          clear c29
                          replace H := Option.bind_eq_some_iff.mp H
                          obtain ⟨t110, A300, H⟩ := H
                          replace H : (if 0 ≤ (wrap64 (x5_18 + t110)) then (if (wrap64 (x5_18 + t110)) ≤ (a0.size : Int) then ((strings_HasPrefix.f (a0.extract ((wrap64 (x5_18 + t110)) : Int).toNat a0.size) (⟨#[41]⟩ : ByteArray)).bind fun t111 => (if t111 = true then (some (t104, x9_18, wrap64 ((wrap64 (x5_18 + t110)) + 1))) else (some ((⟨#[]⟩ : ByteArray), (⟨#[]⟩ : ByteArray), 0)))) else (none)) else (none)) = some (r1, r2, r3) := H
                          have A30 := Aside0.mk A300
                          clear A300
                          obtain ⟨ji31, hji31⟩ : ∃ j_ : Int, (wrap64 (x5_18 + t110)) = j_ := ⟨_, rfl⟩
                          replace H : (if 0 ≤ (ji31) then (if (ji31) ≤ (a0.size : Int) then ((strings_HasPrefix.f (a0.extract ((ji31) : Int).toNat a0.size) (⟨#[41]⟩ : ByteArray)).bind fun t111 => (if t111 = true then (some (t104, x9_18, wrap64 ((ji31) + 1))) else (some ((⟨#[]⟩ : ByteArray), (⟨#[]⟩ : ByteArray), 0)))) else (none)) else (none)) = some (r1, r2, r3) := by first | (rw [hji31] at H; exact H) | (simp only [hji31] at H ⊢; exact H)
                          (try rw [hji31] at A30)
                          have hji31w : (IntKind.i64.wrap (x5_18 + t110)) = ji31 := (i64_w _).trans hji31
                          by_cases c32 : 0 ≤ (ji31)
                          · rw [if_pos c32] at H
                            have c32b0 := eq_true c32
                            have c32b1 : decide (0 ≤ (ji31)) = true := decide_eq_true c32
                            clear c32
                            by_cases c33 : (ji31) ≤ (a0.size : Int)
                            · rw [if_pos c33] at H
                              have c33b0 := eq_true c33
                              have c33b1 : decide ((ji31) ≤ (a0.size : Int)) = true := decide_eq_true c33
                              clear c33
                              replace H := Option.bind_eq_some_iff.mp H
                              obtain ⟨t111, A340, H⟩ := H
                              replace H : (if t111 = true then (some (t104, x9_18, wrap64 ((ji31) + 1))) else (some ((⟨#[]⟩ : ByteArray), (⟨#[]⟩ : ByteArray), 0))) = some (r1, r2, r3) := H
                              have A34 := Aside0.mk A340
                              clear A340
                              by_cases c35 : t111 = true
                              · subst c35
                                have H1 : (some (t104, x9_18, wrap64 ((ji31) + 1))) = some (r1, r2, r3) := by rw [if_pos rfl] at H; exact H
                                clear H
                                have H := H1
                                clear H1
                                simp only [Option.some.injEq, Prod.mk.injEq] at H
                                obtain ⟨rfl, rfl, rfl⟩ := H
                                go_wp2_with (first | ((with_reducible refine gate_callee (f := 18) rfl ?_); refine goesL_ (some 62) rfl rfl Tryz.func18 (by kernel_rfl) rfl #[.string (a0.extract (x5_18 : Int).toNat a0.size)] rfl (by (try simp only [List.map_toArray, List.map_cons, List.map_nil]); first | done | rfl | (simp only [List.length_drop, List.length_take]; rfl)) ?_; (with_reducible refine (link_White.calls (a0.extract (x5_18 : Int).toNat a0.size) t110 _ A30.out).mono ?_); rintro e w36 ⟨rfl, hb⟩; refine ⟨_, rfl, ?_⟩; have n0_ := Aside0.mk (below_step (by repeat (first | (with_reducible first | exact HB.out | apply below_alloc | apply pw_below_drewN | apply below_drew1) | exact HB.out)) hb); clear HB; have HB := n0_; clear n0_; (try clear hb); (try clear hb2); (try clear hk); (try clear hi)) | ((with_reducible refine gate_callee (f := 20) rfl ?_); refine goesL_ (some 67) rfl rfl Tryz.func20 (by kernel_rfl) rfl #[.string (a0.extract ((ji31) : Int).toNat a0.size), .string (⟨#[41]⟩ : ByteArray)] rfl (by (try simp only [List.map_toArray, List.map_cons, List.map_nil]); first | done | (simp only [hji31]; rfl) | rfl | (simp only [List.length_drop, List.length_take]; rfl)) ?_; (with_reducible refine (strings_HasPrefix.calls (a0.extract ((ji31) : Int).toNat a0.size) (⟨#[41]⟩ : ByteArray) true _ A34.out).mono ?_); rintro e w' ⟨rfl, ⟨nd, rfl⟩⟩; refine ⟨_, rfl, ?_⟩))
                                go_ret3
                                exact ⟨by first | rfl | (simp [errW_none, errW_some] <;> rfl) | (simp only [← hji6, ← hji10, ← hji31]; first | rfl | (simp [errW_none, errW_some] <;> rfl)) | (simp [*, errW_none, errW_some] <;> rfl), by repeat (first | (with_reducible first | exact HB.out | apply below_alloc | apply pw_below_drewN | apply below_drew1) | exact HB.out)⟩
                              · replace c35 := Bool.eq_false_iff.mpr c35
                                subst c35
                                have H1 : (some ((⟨#[]⟩ : ByteArray), (⟨#[]⟩ : ByteArray), 0)) = some (r1, r2, r3) := by rw [if_neg (show ¬ (false = true) by decide)] at H; exact H
                                clear H
                                have H := H1
                                clear H1
                                simp only [Option.some.injEq, Prod.mk.injEq] at H
                                obtain ⟨rfl, rfl, rfl⟩ := H
                                go_wp2_with (first | ((with_reducible refine gate_callee (f := 18) rfl ?_); refine goesL_ (some 62) rfl rfl Tryz.func18 (by kernel_rfl) rfl #[.string (a0.extract (x5_18 : Int).toNat a0.size)] rfl (by (try simp only [List.map_toArray, List.map_cons, List.map_nil]); first | done | rfl | (simp only [List.length_drop, List.length_take]; rfl)) ?_; (with_reducible refine (link_White.calls (a0.extract (x5_18 : Int).toNat a0.size) t110 _ A30.out).mono ?_); rintro e w37 ⟨rfl, hb⟩; refine ⟨_, rfl, ?_⟩; have n0_ := Aside0.mk (below_step (by repeat (first | (with_reducible first | exact HB.out | apply below_alloc | apply pw_below_drewN | apply below_drew1) | exact HB.out)) hb); clear HB; have HB := n0_; clear n0_; (try clear hb); (try clear hb2); (try clear hk); (try clear hi)) | ((with_reducible refine gate_callee (f := 20) rfl ?_); refine goesL_ (some 67) rfl rfl Tryz.func20 (by kernel_rfl) rfl #[.string (a0.extract ((ji31) : Int).toNat a0.size), .string (⟨#[41]⟩ : ByteArray)] rfl (by (try simp only [List.map_toArray, List.map_cons, List.map_nil]); first | done | (simp only [hji31]; rfl) | rfl | (simp only [List.length_drop, List.length_take]; rfl)) ?_; (with_reducible refine (strings_HasPrefix.calls (a0.extract ((ji31) : Int).toNat a0.size) (⟨#[41]⟩ : ByteArray) false _ A34.out).mono ?_); rintro e w' ⟨rfl, ⟨nd, rfl⟩⟩; refine ⟨_, rfl, ?_⟩))
                                go_ret3
                                exact ⟨by first | rfl | (simp [errW_none, errW_some] <;> rfl) | (simp only [← hji6, ← hji10, ← hji31]; first | rfl | (simp [errW_none, errW_some] <;> rfl)) | (simp [*, errW_none, errW_some] <;> rfl), by repeat (first | (with_reducible first | exact HB.out | apply below_alloc | apply pw_below_drewN | apply below_drew1) | exact HB.out)⟩
                            · rw [if_neg c33] at H
                              exact absurd H (by simp)
                          · rw [if_neg c32] at H
                            exact absurd H (by simp)
                        · rw [if_neg c29] at H
                          exact absurd H (by simp)
                      · rw [if_neg c28] at H
                        exact absurd H (by simp)
            · rw [if_neg c12] at H
              exact absurd H (by simp)
          · rw [if_neg c11] at H
            exact absurd H (by simp)
        · rw [if_neg c8] at H
          exact absurd H (by simp)
      · rw [if_neg c7] at H
        exact absurd H (by simp)
    · rw [if_neg c4] at H
      exact absurd H (by simp)
  · replace c3 := Bool.eq_false_iff.mpr c3
    subst c3
    have H1 : (some ((⟨#[]⟩ : ByteArray), (⟨#[]⟩ : ByteArray), 0)) = some (r1, r2, r3) := by rw [if_neg (show ¬ (false = true) by decide)] at H; exact H
    clear H
    have H := H1
    clear H1
    simp only [Option.some.injEq, Prod.mk.injEq] at H
    obtain ⟨rfl, rfl, rfl⟩ := H
    go_enter Tryz.func16, Tryz.ntmps16
    go_wp2_with (first | ((with_reducible refine gate_callee (f := 20) rfl ?_); refine goesL_ (some 14) rfl rfl Tryz.func20 (by kernel_rfl) rfl #[.string a0, .string (⟨#[40]⟩ : ByteArray)] rfl (by (try simp only [List.map_toArray, List.map_cons, List.map_nil]); first | done | rfl | (simp only [List.length_drop, List.length_take]; rfl)) ?_; (with_reducible refine (strings_HasPrefix.calls a0 (⟨#[40]⟩ : ByteArray) false _ A2.out).mono ?_); rintro e w' ⟨rfl, ⟨nd, rfl⟩⟩; refine ⟨_, rfl, ?_⟩))
    go_ret3
    exact ⟨by first | rfl | (simp [errW_none, errW_some] <;> rfl) | (simp [*, errW_none, errW_some] <;> rfl), by repeat (first | (with_reducible first | exact HB.out | apply below_alloc | apply pw_below_drewN | apply below_drew1) | exact HB.out)⟩

/-! ### incipitlaw09_awake: function 9 -/
def incipitlaw09_awake.f (k : Nat)  : Option (Bool) := (link_Label.f (⟨#[91, 97, 93, 98]⟩ : ByteArray)).bind fun bt112 => ((link_Dest.f (⟨#[60, 97, 32, 98, 62]⟩ : ByteArray)).bind fun bt114 => ((link_Title.f (⟨#[39, 120, 39, 32, 121]⟩ : ByteArray)).bind fun bt117 => ((link_Tail.f k (⟨#[40, 47, 117, 32, 34, 116, 34, 41]⟩ : ByteArray)).bind fun bt119 => (if bt112.1.toList = ([97] : List UInt8) then (if bt112.2 = 3 then (if bt114.1.toList = ([97, 32, 98] : List UInt8) then (if bt114.2.1 = 5 then (if bt114.2.2 = true then (if bt117.1.toList = ([120] : List UInt8) then (if bt117.2 = 3 then (if bt119.1.toList = ([47, 117] : List UInt8) then (if bt119.2.1.toList = ([116] : List UInt8) then (if bt119.2.2 = 8 then ((link_White.f (⟨#[32, 10, 120]⟩ : ByteArray)).bind fun t122 => (some (t122 == 2))) else (some false)) else (some false)) else (some false)) else (some false)) else (some false)) else (some false)) else (some false)) else (some false)) else (some false)) else (some false)))))
theorem incipitlaw09_awake.mono : ∀ k, LeO (incipitlaw09_awake.f k ) (incipitlaw09_awake.f (k + 1) ) := by
  intro  k
  unfold incipitlaw09_awake.f
  repeat' first
      | (with_reducible exact link_Tail.mono _ _)
      | (with_reducible exact LeO.refl _)
      | (with_reducible exact LeO.none _)
      | (with_reducible refine LeO.ite ?_ ?_)
      | (with_reducible refine LeO.bind ?_ (fun _ => ?_))
      | exact link_Tail.mono _ _
      | exact LeO.none _
      | refine LeO.ite ?_ ?_
      | refine LeO.bind ?_ (fun _ => ?_)
set_option maxHeartbeats 8000000 in
set_option maxRecDepth 100000 in
theorem incipitlaw09_awake.calls (k : Nat)  (r : Bool) (w : World) (hLd : Laid w) (h : incipitlaw09_awake.f k  = some r) :
    Calls Tryz.prog 9 #[] w fun e w' => e = .returned (.bool r) ∧ Below w.heap.size w w' := by
  have HB := Aside0.mk (Below.refl w.heap.size w)
  have H : ((link_Label.f (⟨#[91, 97, 93, 98]⟩ : ByteArray)).bind fun bt112 => ((link_Dest.f (⟨#[60, 97, 32, 98, 62]⟩ : ByteArray)).bind fun bt114 => ((link_Title.f (⟨#[39, 120, 39, 32, 121]⟩ : ByteArray)).bind fun bt117 => ((link_Tail.f k (⟨#[40, 47, 117, 32, 34, 116, 34, 41]⟩ : ByteArray)).bind fun bt119 => (if bt112.1.toList = ([97] : List UInt8) then (if bt112.2 = 3 then (if bt114.1.toList = ([97, 32, 98] : List UInt8) then (if bt114.2.1 = 5 then (if bt114.2.2 = true then (if bt117.1.toList = ([120] : List UInt8) then (if bt117.2 = 3 then (if bt119.1.toList = ([47, 117] : List UInt8) then (if bt119.2.1.toList = ([116] : List UInt8) then (if bt119.2.2 = 8 then ((link_White.f (⟨#[32, 10, 120]⟩ : ByteArray)).bind fun t122 => (some (t122 == 2))) else (some false)) else (some false)) else (some false)) else (some false)) else (some false)) else (some false)) else (some false)) else (some false)) else (some false)) else (some false)))))) = some r := h
  clear h
  replace H := Option.bind_eq_some_iff.mp H
  obtain ⟨⟨t112, t113⟩, A10, H⟩ := H
  replace H : ((link_Dest.f (⟨#[60, 97, 32, 98, 62]⟩ : ByteArray)).bind fun bt114 => ((link_Title.f (⟨#[39, 120, 39, 32, 121]⟩ : ByteArray)).bind fun bt117 => ((link_Tail.f k (⟨#[40, 47, 117, 32, 34, 116, 34, 41]⟩ : ByteArray)).bind fun bt119 => (if t112.toList = ([97] : List UInt8) then (if t113 = 3 then (if bt114.1.toList = ([97, 32, 98] : List UInt8) then (if bt114.2.1 = 5 then (if bt114.2.2 = true then (if bt117.1.toList = ([120] : List UInt8) then (if bt117.2 = 3 then (if bt119.1.toList = ([47, 117] : List UInt8) then (if bt119.2.1.toList = ([116] : List UInt8) then (if bt119.2.2 = 8 then ((link_White.f (⟨#[32, 10, 120]⟩ : ByteArray)).bind fun t122 => (some (t122 == 2))) else (some false)) else (some false)) else (some false)) else (some false)) else (some false)) else (some false)) else (some false)) else (some false)) else (some false)) else (some false))))) = some r := H
  have A1 := Aside0.mk A10
  clear A10
  replace H := Option.bind_eq_some_iff.mp H
  obtain ⟨⟨t114, t115, t116⟩, A20, H⟩ := H
  replace H : ((link_Title.f (⟨#[39, 120, 39, 32, 121]⟩ : ByteArray)).bind fun bt117 => ((link_Tail.f k (⟨#[40, 47, 117, 32, 34, 116, 34, 41]⟩ : ByteArray)).bind fun bt119 => (if t112.toList = ([97] : List UInt8) then (if t113 = 3 then (if t114.toList = ([97, 32, 98] : List UInt8) then (if t115 = 5 then (if t116 = true then (if bt117.1.toList = ([120] : List UInt8) then (if bt117.2 = 3 then (if bt119.1.toList = ([47, 117] : List UInt8) then (if bt119.2.1.toList = ([116] : List UInt8) then (if bt119.2.2 = 8 then ((link_White.f (⟨#[32, 10, 120]⟩ : ByteArray)).bind fun t122 => (some (t122 == 2))) else (some false)) else (some false)) else (some false)) else (some false)) else (some false)) else (some false)) else (some false)) else (some false)) else (some false)) else (some false)))) = some r := H
  have A2 := Aside0.mk A20
  clear A20
  replace H := Option.bind_eq_some_iff.mp H
  obtain ⟨⟨t117, t118⟩, A30, H⟩ := H
  replace H : ((link_Tail.f k (⟨#[40, 47, 117, 32, 34, 116, 34, 41]⟩ : ByteArray)).bind fun bt119 => (if t112.toList = ([97] : List UInt8) then (if t113 = 3 then (if t114.toList = ([97, 32, 98] : List UInt8) then (if t115 = 5 then (if t116 = true then (if t117.toList = ([120] : List UInt8) then (if t118 = 3 then (if bt119.1.toList = ([47, 117] : List UInt8) then (if bt119.2.1.toList = ([116] : List UInt8) then (if bt119.2.2 = 8 then ((link_White.f (⟨#[32, 10, 120]⟩ : ByteArray)).bind fun t122 => (some (t122 == 2))) else (some false)) else (some false)) else (some false)) else (some false)) else (some false)) else (some false)) else (some false)) else (some false)) else (some false)) else (some false))) = some r := H
  have A3 := Aside0.mk A30
  clear A30
  replace H := Option.bind_eq_some_iff.mp H
  obtain ⟨⟨t119, t120, t121⟩, A40, H⟩ := H
  replace H : (if t112.toList = ([97] : List UInt8) then (if t113 = 3 then (if t114.toList = ([97, 32, 98] : List UInt8) then (if t115 = 5 then (if t116 = true then (if t117.toList = ([120] : List UInt8) then (if t118 = 3 then (if t119.toList = ([47, 117] : List UInt8) then (if t120.toList = ([116] : List UInt8) then (if t121 = 8 then ((link_White.f (⟨#[32, 10, 120]⟩ : ByteArray)).bind fun t122 => (some (t122 == 2))) else (some false)) else (some false)) else (some false)) else (some false)) else (some false)) else (some false)) else (some false)) else (some false)) else (some false)) else (some false)) = some r := H
  have A4 := Aside0.mk A40
  clear A40
  by_cases c5 : t112.toList = ([97] : List UInt8)
  · rw [if_pos c5] at H
    have c5b0 : (t112.toList == ([97] : List UInt8)) = true := beq_iff_eq.mpr c5
    have c5b1 : (t112.toList != ([97] : List UInt8)) = false := bne_eq_false_iff_eq.mpr c5
    clear c5
    by_cases c6 : t113 = 3
    · rw [if_pos c6] at H
      have c6b0 : (t113 == 3) = true := beq_iff_eq.mpr c6
      have c6b1 : (t113 != 3) = false := bne_eq_false_iff_eq.mpr c6
      clear c6
      by_cases c7 : t114.toList = ([97, 32, 98] : List UInt8)
      · rw [if_pos c7] at H
        have c7b0 : (t114.toList == ([97, 32, 98] : List UInt8)) = true := beq_iff_eq.mpr c7
        have c7b1 : (t114.toList != ([97, 32, 98] : List UInt8)) = false := bne_eq_false_iff_eq.mpr c7
        clear c7
        by_cases c8 : t115 = 5
        · rw [if_pos c8] at H
          have c8b0 : (t115 == 5) = true := beq_iff_eq.mpr c8
          have c8b1 : (t115 != 5) = false := bne_eq_false_iff_eq.mpr c8
          clear c8
          by_cases c9 : t116 = true
          · subst c9
            have H1 : (if t117.toList = ([120] : List UInt8) then (if t118 = 3 then (if t119.toList = ([47, 117] : List UInt8) then (if t120.toList = ([116] : List UInt8) then (if t121 = 8 then ((link_White.f (⟨#[32, 10, 120]⟩ : ByteArray)).bind fun t122 => (some (t122 == 2))) else (some false)) else (some false)) else (some false)) else (some false)) else (some false)) = some r := by rw [if_pos rfl] at H; exact H
            clear H
            have H := H1
            clear H1
            by_cases c10 : t117.toList = ([120] : List UInt8)
            · rw [if_pos c10] at H
              have c10b0 : (t117.toList == ([120] : List UInt8)) = true := beq_iff_eq.mpr c10
              have c10b1 : (t117.toList != ([120] : List UInt8)) = false := bne_eq_false_iff_eq.mpr c10
              clear c10
              by_cases c11 : t118 = 3
              · rw [if_pos c11] at H
                have c11b0 : (t118 == 3) = true := beq_iff_eq.mpr c11
                have c11b1 : (t118 != 3) = false := bne_eq_false_iff_eq.mpr c11
                clear c11
                by_cases c12 : t119.toList = ([47, 117] : List UInt8)
                · rw [if_pos c12] at H
                  have c12b0 : (t119.toList == ([47, 117] : List UInt8)) = true := beq_iff_eq.mpr c12
                  have c12b1 : (t119.toList != ([47, 117] : List UInt8)) = false := bne_eq_false_iff_eq.mpr c12
                  clear c12
                  by_cases c13 : t120.toList = ([116] : List UInt8)
                  · rw [if_pos c13] at H
                    have c13b0 : (t120.toList == ([116] : List UInt8)) = true := beq_iff_eq.mpr c13
                    have c13b1 : (t120.toList != ([116] : List UInt8)) = false := bne_eq_false_iff_eq.mpr c13
                    clear c13
                    by_cases c14 : t121 = 8
                    · rw [if_pos c14] at H
                      have c14b0 : (t121 == 8) = true := beq_iff_eq.mpr c14
                      have c14b1 : (t121 != 8) = false := bne_eq_false_iff_eq.mpr c14
                      clear c14
                      replace H := Option.bind_eq_some_iff.mp H
                      obtain ⟨t122, A150, H⟩ := H
                      replace H : (some (t122 == 2)) = some r := H
                      have A15 := Aside0.mk A150
                      clear A150
                      obtain rfl := Option.some.inj H
                      go_enter Tryz.func9, Tryz.ntmps9
                      go_wp2_with (first | ((with_reducible refine gate_callee (f := 10) rfl ?_); refine goesL_ (some 12) rfl rfl Tryz.func10 (by kernel_rfl) rfl #[.string (⟨#[91, 97, 93, 98]⟩ : ByteArray)] rfl (by (try simp only [List.map_toArray, List.map_cons, List.map_nil]); first | done | rfl | (simp only [List.length_drop, List.length_take]; rfl)) ?_; (with_reducible refine (link_Label.calls (⟨#[91, 97, 93, 98]⟩ : ByteArray) t112 t113 _ A1.out).mono ?_); rintro e w16 ⟨rfl, hb⟩; refine ⟨_, rfl, ?_⟩; have n0_ := Aside0.mk (below_step (by repeat (first | (with_reducible first | exact HB.out | apply below_alloc | apply pw_below_drewN | apply below_drew1) | exact HB.out)) hb); clear HB; have HB := n0_; clear n0_; (try clear hb); (try clear hb2); (try clear hk); (try clear hi)) | ((with_reducible refine gate_callee (f := 12) rfl ?_); refine goesL_ (some 16) rfl rfl Tryz.func12 (by kernel_rfl) rfl #[.string (⟨#[60, 97, 32, 98, 62]⟩ : ByteArray)] rfl (by (try simp only [List.map_toArray, List.map_cons, List.map_nil]); first | done | rfl | (simp only [List.length_drop, List.length_take]; rfl)) ?_; (with_reducible refine (link_Dest.calls (⟨#[60, 97, 32, 98, 62]⟩ : ByteArray) t114 t115 true _ ?side1 A2.out).mono ?_); (case side1 => exact Laid.go hLd (by repeat (first | (with_reducible first | exact HB.out | apply below_alloc | apply pw_below_drewN | apply below_drew1) | exact HB.out))); rintro e w17 ⟨rfl, hb⟩; refine ⟨_, rfl, ?_⟩; have n0_ := Aside0.mk (below_step (by repeat (first | (with_reducible first | exact HB.out | apply below_alloc | apply pw_below_drewN | apply below_drew1) | exact HB.out)) hb); clear HB; have HB := n0_; clear n0_; (try clear hb); (try clear hb2); (try clear hk); (try clear hi)) | ((with_reducible refine gate_callee (f := 14) rfl ?_); refine goesL_ (some 21) rfl rfl Tryz.func14 (by kernel_rfl) rfl #[.string (⟨#[39, 120, 39, 32, 121]⟩ : ByteArray)] rfl (by (try simp only [List.map_toArray, List.map_cons, List.map_nil]); first | done | rfl | (simp only [List.length_drop, List.length_take]; rfl)) ?_; (with_reducible refine (link_Title.calls (⟨#[39, 120, 39, 32, 121]⟩ : ByteArray) t117 t118 _ ?side1 A3.out).mono ?_); (case side1 => exact Laid.go hLd (by repeat (first | (with_reducible first | exact HB.out | apply below_alloc | apply pw_below_drewN | apply below_drew1) | exact HB.out))); rintro e w18 ⟨rfl, hb⟩; refine ⟨_, rfl, ?_⟩; have n0_ := Aside0.mk (below_step (by repeat (first | (with_reducible first | exact HB.out | apply below_alloc | apply pw_below_drewN | apply below_drew1) | exact HB.out)) hb); clear HB; have HB := n0_; clear n0_; (try clear hb); (try clear hb2); (try clear hk); (try clear hi)) | ((with_reducible refine gate_callee (f := 16) rfl ?_); refine goesL_ (some 25) rfl rfl Tryz.func16 (by kernel_rfl) rfl #[.string (⟨#[40, 47, 117, 32, 34, 116, 34, 41]⟩ : ByteArray)] rfl (by (try simp only [List.map_toArray, List.map_cons, List.map_nil]); first | done | rfl | (simp only [List.length_drop, List.length_take]; rfl)) ?_; (with_reducible refine (link_Tail.calls k (⟨#[40, 47, 117, 32, 34, 116, 34, 41]⟩ : ByteArray) t119 t120 t121 _ ?side1 A4.out).mono ?_); (case side1 => exact Laid.go hLd (by repeat (first | (with_reducible first | exact HB.out | apply below_alloc | apply pw_below_drewN | apply below_drew1) | exact HB.out))); rintro e w19 ⟨rfl, hb⟩; refine ⟨_, rfl, ?_⟩; have n0_ := Aside0.mk (below_step (by repeat (first | (with_reducible first | exact HB.out | apply below_alloc | apply pw_below_drewN | apply below_drew1) | exact HB.out)) hb); clear HB; have HB := n0_; clear n0_; (try clear hb); (try clear hb2); (try clear hk); (try clear hi)) | (go_at_call 18; (with_reducible refine (link_White.calls (⟨#[32, 10, 120]⟩ : ByteArray) t122 _ A15.out).mono ?_); rintro e w20 ⟨rfl, hb⟩; have n0_ := Aside0.mk (below_step (by repeat (first | (with_reducible first | exact HB.out | apply below_alloc | apply pw_below_drewN | apply below_drew1) | exact HB.out)) hb); clear HB; have HB := n0_; clear n0_; (try clear hb); (try clear hb2); (try clear hk); (try clear hi)))
                      go_ret
                      exact ⟨by first | rfl | (simp [errW_none, errW_some] <;> rfl) | (simp [*, errW_none, errW_some] <;> rfl), by repeat (first | (with_reducible first | exact HB.out | apply below_alloc | apply pw_below_drewN | apply below_drew1) | exact HB.out)⟩
                    · rw [if_neg c14] at H
                      have c14b0 : (t121 == 8) = false := beq_eq_false_iff_ne.mpr c14
                      have c14b1 : (t121 != 8) = true := bne_iff_ne.mpr c14
                      obtain rfl := Option.some.inj H
                      go_enter Tryz.func9, Tryz.ntmps9
                      go_wp2_with (first | ((with_reducible refine gate_callee (f := 10) rfl ?_); refine goesL_ (some 12) rfl rfl Tryz.func10 (by kernel_rfl) rfl #[.string (⟨#[91, 97, 93, 98]⟩ : ByteArray)] rfl (by (try simp only [List.map_toArray, List.map_cons, List.map_nil]); first | done | rfl | (simp only [List.length_drop, List.length_take]; rfl)) ?_; (with_reducible refine (link_Label.calls (⟨#[91, 97, 93, 98]⟩ : ByteArray) t112 t113 _ A1.out).mono ?_); rintro e w21 ⟨rfl, hb⟩; refine ⟨_, rfl, ?_⟩; have n0_ := Aside0.mk (below_step (by repeat (first | (with_reducible first | exact HB.out | apply below_alloc | apply pw_below_drewN | apply below_drew1) | exact HB.out)) hb); clear HB; have HB := n0_; clear n0_; (try clear hb); (try clear hb2); (try clear hk); (try clear hi)) | ((with_reducible refine gate_callee (f := 12) rfl ?_); refine goesL_ (some 16) rfl rfl Tryz.func12 (by kernel_rfl) rfl #[.string (⟨#[60, 97, 32, 98, 62]⟩ : ByteArray)] rfl (by (try simp only [List.map_toArray, List.map_cons, List.map_nil]); first | done | rfl | (simp only [List.length_drop, List.length_take]; rfl)) ?_; (with_reducible refine (link_Dest.calls (⟨#[60, 97, 32, 98, 62]⟩ : ByteArray) t114 t115 true _ ?side1 A2.out).mono ?_); (case side1 => exact Laid.go hLd (by repeat (first | (with_reducible first | exact HB.out | apply below_alloc | apply pw_below_drewN | apply below_drew1) | exact HB.out))); rintro e w22 ⟨rfl, hb⟩; refine ⟨_, rfl, ?_⟩; have n0_ := Aside0.mk (below_step (by repeat (first | (with_reducible first | exact HB.out | apply below_alloc | apply pw_below_drewN | apply below_drew1) | exact HB.out)) hb); clear HB; have HB := n0_; clear n0_; (try clear hb); (try clear hb2); (try clear hk); (try clear hi)) | ((with_reducible refine gate_callee (f := 14) rfl ?_); refine goesL_ (some 21) rfl rfl Tryz.func14 (by kernel_rfl) rfl #[.string (⟨#[39, 120, 39, 32, 121]⟩ : ByteArray)] rfl (by (try simp only [List.map_toArray, List.map_cons, List.map_nil]); first | done | rfl | (simp only [List.length_drop, List.length_take]; rfl)) ?_; (with_reducible refine (link_Title.calls (⟨#[39, 120, 39, 32, 121]⟩ : ByteArray) t117 t118 _ ?side1 A3.out).mono ?_); (case side1 => exact Laid.go hLd (by repeat (first | (with_reducible first | exact HB.out | apply below_alloc | apply pw_below_drewN | apply below_drew1) | exact HB.out))); rintro e w23 ⟨rfl, hb⟩; refine ⟨_, rfl, ?_⟩; have n0_ := Aside0.mk (below_step (by repeat (first | (with_reducible first | exact HB.out | apply below_alloc | apply pw_below_drewN | apply below_drew1) | exact HB.out)) hb); clear HB; have HB := n0_; clear n0_; (try clear hb); (try clear hb2); (try clear hk); (try clear hi)) | ((with_reducible refine gate_callee (f := 16) rfl ?_); refine goesL_ (some 25) rfl rfl Tryz.func16 (by kernel_rfl) rfl #[.string (⟨#[40, 47, 117, 32, 34, 116, 34, 41]⟩ : ByteArray)] rfl (by (try simp only [List.map_toArray, List.map_cons, List.map_nil]); first | done | rfl | (simp only [List.length_drop, List.length_take]; rfl)) ?_; (with_reducible refine (link_Tail.calls k (⟨#[40, 47, 117, 32, 34, 116, 34, 41]⟩ : ByteArray) t119 t120 t121 _ ?side1 A4.out).mono ?_); (case side1 => exact Laid.go hLd (by repeat (first | (with_reducible first | exact HB.out | apply below_alloc | apply pw_below_drewN | apply below_drew1) | exact HB.out))); rintro e w24 ⟨rfl, hb⟩; refine ⟨_, rfl, ?_⟩; have n0_ := Aside0.mk (below_step (by repeat (first | (with_reducible first | exact HB.out | apply below_alloc | apply pw_below_drewN | apply below_drew1) | exact HB.out)) hb); clear HB; have HB := n0_; clear n0_; (try clear hb); (try clear hb2); (try clear hk); (try clear hi)))
                      go_ret
                      exact ⟨by first | rfl | (simp [errW_none, errW_some] <;> rfl) | (simp [*, errW_none, errW_some] <;> rfl), by repeat (first | (with_reducible first | exact HB.out | apply below_alloc | apply pw_below_drewN | apply below_drew1) | exact HB.out)⟩
                  · rw [if_neg c13] at H
                    have c13b0 : (t120.toList == ([116] : List UInt8)) = false := beq_eq_false_iff_ne.mpr c13
                    have c13b1 : (t120.toList != ([116] : List UInt8)) = true := bne_iff_ne.mpr c13
                    obtain rfl := Option.some.inj H
                    go_enter Tryz.func9, Tryz.ntmps9
                    go_wp2_with (first | ((with_reducible refine gate_callee (f := 10) rfl ?_); refine goesL_ (some 12) rfl rfl Tryz.func10 (by kernel_rfl) rfl #[.string (⟨#[91, 97, 93, 98]⟩ : ByteArray)] rfl (by (try simp only [List.map_toArray, List.map_cons, List.map_nil]); first | done | rfl | (simp only [List.length_drop, List.length_take]; rfl)) ?_; (with_reducible refine (link_Label.calls (⟨#[91, 97, 93, 98]⟩ : ByteArray) t112 t113 _ A1.out).mono ?_); rintro e w25 ⟨rfl, hb⟩; refine ⟨_, rfl, ?_⟩; have n0_ := Aside0.mk (below_step (by repeat (first | (with_reducible first | exact HB.out | apply below_alloc | apply pw_below_drewN | apply below_drew1) | exact HB.out)) hb); clear HB; have HB := n0_; clear n0_; (try clear hb); (try clear hb2); (try clear hk); (try clear hi)) | ((with_reducible refine gate_callee (f := 12) rfl ?_); refine goesL_ (some 16) rfl rfl Tryz.func12 (by kernel_rfl) rfl #[.string (⟨#[60, 97, 32, 98, 62]⟩ : ByteArray)] rfl (by (try simp only [List.map_toArray, List.map_cons, List.map_nil]); first | done | rfl | (simp only [List.length_drop, List.length_take]; rfl)) ?_; (with_reducible refine (link_Dest.calls (⟨#[60, 97, 32, 98, 62]⟩ : ByteArray) t114 t115 true _ ?side1 A2.out).mono ?_); (case side1 => exact Laid.go hLd (by repeat (first | (with_reducible first | exact HB.out | apply below_alloc | apply pw_below_drewN | apply below_drew1) | exact HB.out))); rintro e w26 ⟨rfl, hb⟩; refine ⟨_, rfl, ?_⟩; have n0_ := Aside0.mk (below_step (by repeat (first | (with_reducible first | exact HB.out | apply below_alloc | apply pw_below_drewN | apply below_drew1) | exact HB.out)) hb); clear HB; have HB := n0_; clear n0_; (try clear hb); (try clear hb2); (try clear hk); (try clear hi)) | ((with_reducible refine gate_callee (f := 14) rfl ?_); refine goesL_ (some 21) rfl rfl Tryz.func14 (by kernel_rfl) rfl #[.string (⟨#[39, 120, 39, 32, 121]⟩ : ByteArray)] rfl (by (try simp only [List.map_toArray, List.map_cons, List.map_nil]); first | done | rfl | (simp only [List.length_drop, List.length_take]; rfl)) ?_; (with_reducible refine (link_Title.calls (⟨#[39, 120, 39, 32, 121]⟩ : ByteArray) t117 t118 _ ?side1 A3.out).mono ?_); (case side1 => exact Laid.go hLd (by repeat (first | (with_reducible first | exact HB.out | apply below_alloc | apply pw_below_drewN | apply below_drew1) | exact HB.out))); rintro e w27 ⟨rfl, hb⟩; refine ⟨_, rfl, ?_⟩; have n0_ := Aside0.mk (below_step (by repeat (first | (with_reducible first | exact HB.out | apply below_alloc | apply pw_below_drewN | apply below_drew1) | exact HB.out)) hb); clear HB; have HB := n0_; clear n0_; (try clear hb); (try clear hb2); (try clear hk); (try clear hi)) | ((with_reducible refine gate_callee (f := 16) rfl ?_); refine goesL_ (some 25) rfl rfl Tryz.func16 (by kernel_rfl) rfl #[.string (⟨#[40, 47, 117, 32, 34, 116, 34, 41]⟩ : ByteArray)] rfl (by (try simp only [List.map_toArray, List.map_cons, List.map_nil]); first | done | rfl | (simp only [List.length_drop, List.length_take]; rfl)) ?_; (with_reducible refine (link_Tail.calls k (⟨#[40, 47, 117, 32, 34, 116, 34, 41]⟩ : ByteArray) t119 t120 t121 _ ?side1 A4.out).mono ?_); (case side1 => exact Laid.go hLd (by repeat (first | (with_reducible first | exact HB.out | apply below_alloc | apply pw_below_drewN | apply below_drew1) | exact HB.out))); rintro e w28 ⟨rfl, hb⟩; refine ⟨_, rfl, ?_⟩; have n0_ := Aside0.mk (below_step (by repeat (first | (with_reducible first | exact HB.out | apply below_alloc | apply pw_below_drewN | apply below_drew1) | exact HB.out)) hb); clear HB; have HB := n0_; clear n0_; (try clear hb); (try clear hb2); (try clear hk); (try clear hi)))
                    go_ret
                    exact ⟨by first | rfl | (simp [errW_none, errW_some] <;> rfl) | (simp [*, errW_none, errW_some] <;> rfl), by repeat (first | (with_reducible first | exact HB.out | apply below_alloc | apply pw_below_drewN | apply below_drew1) | exact HB.out)⟩
                · rw [if_neg c12] at H
                  have c12b0 : (t119.toList == ([47, 117] : List UInt8)) = false := beq_eq_false_iff_ne.mpr c12
                  have c12b1 : (t119.toList != ([47, 117] : List UInt8)) = true := bne_iff_ne.mpr c12
                  obtain rfl := Option.some.inj H
                  go_enter Tryz.func9, Tryz.ntmps9
                  go_wp2_with (first | ((with_reducible refine gate_callee (f := 10) rfl ?_); refine goesL_ (some 12) rfl rfl Tryz.func10 (by kernel_rfl) rfl #[.string (⟨#[91, 97, 93, 98]⟩ : ByteArray)] rfl (by (try simp only [List.map_toArray, List.map_cons, List.map_nil]); first | done | rfl | (simp only [List.length_drop, List.length_take]; rfl)) ?_; (with_reducible refine (link_Label.calls (⟨#[91, 97, 93, 98]⟩ : ByteArray) t112 t113 _ A1.out).mono ?_); rintro e w29 ⟨rfl, hb⟩; refine ⟨_, rfl, ?_⟩; have n0_ := Aside0.mk (below_step (by repeat (first | (with_reducible first | exact HB.out | apply below_alloc | apply pw_below_drewN | apply below_drew1) | exact HB.out)) hb); clear HB; have HB := n0_; clear n0_; (try clear hb); (try clear hb2); (try clear hk); (try clear hi)) | ((with_reducible refine gate_callee (f := 12) rfl ?_); refine goesL_ (some 16) rfl rfl Tryz.func12 (by kernel_rfl) rfl #[.string (⟨#[60, 97, 32, 98, 62]⟩ : ByteArray)] rfl (by (try simp only [List.map_toArray, List.map_cons, List.map_nil]); first | done | rfl | (simp only [List.length_drop, List.length_take]; rfl)) ?_; (with_reducible refine (link_Dest.calls (⟨#[60, 97, 32, 98, 62]⟩ : ByteArray) t114 t115 true _ ?side1 A2.out).mono ?_); (case side1 => exact Laid.go hLd (by repeat (first | (with_reducible first | exact HB.out | apply below_alloc | apply pw_below_drewN | apply below_drew1) | exact HB.out))); rintro e w30 ⟨rfl, hb⟩; refine ⟨_, rfl, ?_⟩; have n0_ := Aside0.mk (below_step (by repeat (first | (with_reducible first | exact HB.out | apply below_alloc | apply pw_below_drewN | apply below_drew1) | exact HB.out)) hb); clear HB; have HB := n0_; clear n0_; (try clear hb); (try clear hb2); (try clear hk); (try clear hi)) | ((with_reducible refine gate_callee (f := 14) rfl ?_); refine goesL_ (some 21) rfl rfl Tryz.func14 (by kernel_rfl) rfl #[.string (⟨#[39, 120, 39, 32, 121]⟩ : ByteArray)] rfl (by (try simp only [List.map_toArray, List.map_cons, List.map_nil]); first | done | rfl | (simp only [List.length_drop, List.length_take]; rfl)) ?_; (with_reducible refine (link_Title.calls (⟨#[39, 120, 39, 32, 121]⟩ : ByteArray) t117 t118 _ ?side1 A3.out).mono ?_); (case side1 => exact Laid.go hLd (by repeat (first | (with_reducible first | exact HB.out | apply below_alloc | apply pw_below_drewN | apply below_drew1) | exact HB.out))); rintro e w31 ⟨rfl, hb⟩; refine ⟨_, rfl, ?_⟩; have n0_ := Aside0.mk (below_step (by repeat (first | (with_reducible first | exact HB.out | apply below_alloc | apply pw_below_drewN | apply below_drew1) | exact HB.out)) hb); clear HB; have HB := n0_; clear n0_; (try clear hb); (try clear hb2); (try clear hk); (try clear hi)) | ((with_reducible refine gate_callee (f := 16) rfl ?_); refine goesL_ (some 25) rfl rfl Tryz.func16 (by kernel_rfl) rfl #[.string (⟨#[40, 47, 117, 32, 34, 116, 34, 41]⟩ : ByteArray)] rfl (by (try simp only [List.map_toArray, List.map_cons, List.map_nil]); first | done | rfl | (simp only [List.length_drop, List.length_take]; rfl)) ?_; (with_reducible refine (link_Tail.calls k (⟨#[40, 47, 117, 32, 34, 116, 34, 41]⟩ : ByteArray) t119 t120 t121 _ ?side1 A4.out).mono ?_); (case side1 => exact Laid.go hLd (by repeat (first | (with_reducible first | exact HB.out | apply below_alloc | apply pw_below_drewN | apply below_drew1) | exact HB.out))); rintro e w32 ⟨rfl, hb⟩; refine ⟨_, rfl, ?_⟩; have n0_ := Aside0.mk (below_step (by repeat (first | (with_reducible first | exact HB.out | apply below_alloc | apply pw_below_drewN | apply below_drew1) | exact HB.out)) hb); clear HB; have HB := n0_; clear n0_; (try clear hb); (try clear hb2); (try clear hk); (try clear hi)))
                  go_ret
                  exact ⟨by first | rfl | (simp [errW_none, errW_some] <;> rfl) | (simp [*, errW_none, errW_some] <;> rfl), by repeat (first | (with_reducible first | exact HB.out | apply below_alloc | apply pw_below_drewN | apply below_drew1) | exact HB.out)⟩
              · rw [if_neg c11] at H
                have c11b0 : (t118 == 3) = false := beq_eq_false_iff_ne.mpr c11
                have c11b1 : (t118 != 3) = true := bne_iff_ne.mpr c11
                obtain rfl := Option.some.inj H
                go_enter Tryz.func9, Tryz.ntmps9
                go_wp2_with (first | ((with_reducible refine gate_callee (f := 10) rfl ?_); refine goesL_ (some 12) rfl rfl Tryz.func10 (by kernel_rfl) rfl #[.string (⟨#[91, 97, 93, 98]⟩ : ByteArray)] rfl (by (try simp only [List.map_toArray, List.map_cons, List.map_nil]); first | done | rfl | (simp only [List.length_drop, List.length_take]; rfl)) ?_; (with_reducible refine (link_Label.calls (⟨#[91, 97, 93, 98]⟩ : ByteArray) t112 t113 _ A1.out).mono ?_); rintro e w33 ⟨rfl, hb⟩; refine ⟨_, rfl, ?_⟩; have n0_ := Aside0.mk (below_step (by repeat (first | (with_reducible first | exact HB.out | apply below_alloc | apply pw_below_drewN | apply below_drew1) | exact HB.out)) hb); clear HB; have HB := n0_; clear n0_; (try clear hb); (try clear hb2); (try clear hk); (try clear hi)) | ((with_reducible refine gate_callee (f := 12) rfl ?_); refine goesL_ (some 16) rfl rfl Tryz.func12 (by kernel_rfl) rfl #[.string (⟨#[60, 97, 32, 98, 62]⟩ : ByteArray)] rfl (by (try simp only [List.map_toArray, List.map_cons, List.map_nil]); first | done | rfl | (simp only [List.length_drop, List.length_take]; rfl)) ?_; (with_reducible refine (link_Dest.calls (⟨#[60, 97, 32, 98, 62]⟩ : ByteArray) t114 t115 true _ ?side1 A2.out).mono ?_); (case side1 => exact Laid.go hLd (by repeat (first | (with_reducible first | exact HB.out | apply below_alloc | apply pw_below_drewN | apply below_drew1) | exact HB.out))); rintro e w34 ⟨rfl, hb⟩; refine ⟨_, rfl, ?_⟩; have n0_ := Aside0.mk (below_step (by repeat (first | (with_reducible first | exact HB.out | apply below_alloc | apply pw_below_drewN | apply below_drew1) | exact HB.out)) hb); clear HB; have HB := n0_; clear n0_; (try clear hb); (try clear hb2); (try clear hk); (try clear hi)) | ((with_reducible refine gate_callee (f := 14) rfl ?_); refine goesL_ (some 21) rfl rfl Tryz.func14 (by kernel_rfl) rfl #[.string (⟨#[39, 120, 39, 32, 121]⟩ : ByteArray)] rfl (by (try simp only [List.map_toArray, List.map_cons, List.map_nil]); first | done | rfl | (simp only [List.length_drop, List.length_take]; rfl)) ?_; (with_reducible refine (link_Title.calls (⟨#[39, 120, 39, 32, 121]⟩ : ByteArray) t117 t118 _ ?side1 A3.out).mono ?_); (case side1 => exact Laid.go hLd (by repeat (first | (with_reducible first | exact HB.out | apply below_alloc | apply pw_below_drewN | apply below_drew1) | exact HB.out))); rintro e w35 ⟨rfl, hb⟩; refine ⟨_, rfl, ?_⟩; have n0_ := Aside0.mk (below_step (by repeat (first | (with_reducible first | exact HB.out | apply below_alloc | apply pw_below_drewN | apply below_drew1) | exact HB.out)) hb); clear HB; have HB := n0_; clear n0_; (try clear hb); (try clear hb2); (try clear hk); (try clear hi)) | ((with_reducible refine gate_callee (f := 16) rfl ?_); refine goesL_ (some 25) rfl rfl Tryz.func16 (by kernel_rfl) rfl #[.string (⟨#[40, 47, 117, 32, 34, 116, 34, 41]⟩ : ByteArray)] rfl (by (try simp only [List.map_toArray, List.map_cons, List.map_nil]); first | done | rfl | (simp only [List.length_drop, List.length_take]; rfl)) ?_; (with_reducible refine (link_Tail.calls k (⟨#[40, 47, 117, 32, 34, 116, 34, 41]⟩ : ByteArray) t119 t120 t121 _ ?side1 A4.out).mono ?_); (case side1 => exact Laid.go hLd (by repeat (first | (with_reducible first | exact HB.out | apply below_alloc | apply pw_below_drewN | apply below_drew1) | exact HB.out))); rintro e w36 ⟨rfl, hb⟩; refine ⟨_, rfl, ?_⟩; have n0_ := Aside0.mk (below_step (by repeat (first | (with_reducible first | exact HB.out | apply below_alloc | apply pw_below_drewN | apply below_drew1) | exact HB.out)) hb); clear HB; have HB := n0_; clear n0_; (try clear hb); (try clear hb2); (try clear hk); (try clear hi)))
                go_ret
                exact ⟨by first | rfl | (simp [errW_none, errW_some] <;> rfl) | (simp [*, errW_none, errW_some] <;> rfl), by repeat (first | (with_reducible first | exact HB.out | apply below_alloc | apply pw_below_drewN | apply below_drew1) | exact HB.out)⟩
            · rw [if_neg c10] at H
              have c10b0 : (t117.toList == ([120] : List UInt8)) = false := beq_eq_false_iff_ne.mpr c10
              have c10b1 : (t117.toList != ([120] : List UInt8)) = true := bne_iff_ne.mpr c10
              obtain rfl := Option.some.inj H
              go_enter Tryz.func9, Tryz.ntmps9
              go_wp2_with (first | ((with_reducible refine gate_callee (f := 10) rfl ?_); refine goesL_ (some 12) rfl rfl Tryz.func10 (by kernel_rfl) rfl #[.string (⟨#[91, 97, 93, 98]⟩ : ByteArray)] rfl (by (try simp only [List.map_toArray, List.map_cons, List.map_nil]); first | done | rfl | (simp only [List.length_drop, List.length_take]; rfl)) ?_; (with_reducible refine (link_Label.calls (⟨#[91, 97, 93, 98]⟩ : ByteArray) t112 t113 _ A1.out).mono ?_); rintro e w37 ⟨rfl, hb⟩; refine ⟨_, rfl, ?_⟩; have n0_ := Aside0.mk (below_step (by repeat (first | (with_reducible first | exact HB.out | apply below_alloc | apply pw_below_drewN | apply below_drew1) | exact HB.out)) hb); clear HB; have HB := n0_; clear n0_; (try clear hb); (try clear hb2); (try clear hk); (try clear hi)) | ((with_reducible refine gate_callee (f := 12) rfl ?_); refine goesL_ (some 16) rfl rfl Tryz.func12 (by kernel_rfl) rfl #[.string (⟨#[60, 97, 32, 98, 62]⟩ : ByteArray)] rfl (by (try simp only [List.map_toArray, List.map_cons, List.map_nil]); first | done | rfl | (simp only [List.length_drop, List.length_take]; rfl)) ?_; (with_reducible refine (link_Dest.calls (⟨#[60, 97, 32, 98, 62]⟩ : ByteArray) t114 t115 true _ ?side1 A2.out).mono ?_); (case side1 => exact Laid.go hLd (by repeat (first | (with_reducible first | exact HB.out | apply below_alloc | apply pw_below_drewN | apply below_drew1) | exact HB.out))); rintro e w38 ⟨rfl, hb⟩; refine ⟨_, rfl, ?_⟩; have n0_ := Aside0.mk (below_step (by repeat (first | (with_reducible first | exact HB.out | apply below_alloc | apply pw_below_drewN | apply below_drew1) | exact HB.out)) hb); clear HB; have HB := n0_; clear n0_; (try clear hb); (try clear hb2); (try clear hk); (try clear hi)) | ((with_reducible refine gate_callee (f := 14) rfl ?_); refine goesL_ (some 21) rfl rfl Tryz.func14 (by kernel_rfl) rfl #[.string (⟨#[39, 120, 39, 32, 121]⟩ : ByteArray)] rfl (by (try simp only [List.map_toArray, List.map_cons, List.map_nil]); first | done | rfl | (simp only [List.length_drop, List.length_take]; rfl)) ?_; (with_reducible refine (link_Title.calls (⟨#[39, 120, 39, 32, 121]⟩ : ByteArray) t117 t118 _ ?side1 A3.out).mono ?_); (case side1 => exact Laid.go hLd (by repeat (first | (with_reducible first | exact HB.out | apply below_alloc | apply pw_below_drewN | apply below_drew1) | exact HB.out))); rintro e w39 ⟨rfl, hb⟩; refine ⟨_, rfl, ?_⟩; have n0_ := Aside0.mk (below_step (by repeat (first | (with_reducible first | exact HB.out | apply below_alloc | apply pw_below_drewN | apply below_drew1) | exact HB.out)) hb); clear HB; have HB := n0_; clear n0_; (try clear hb); (try clear hb2); (try clear hk); (try clear hi)) | ((with_reducible refine gate_callee (f := 16) rfl ?_); refine goesL_ (some 25) rfl rfl Tryz.func16 (by kernel_rfl) rfl #[.string (⟨#[40, 47, 117, 32, 34, 116, 34, 41]⟩ : ByteArray)] rfl (by (try simp only [List.map_toArray, List.map_cons, List.map_nil]); first | done | rfl | (simp only [List.length_drop, List.length_take]; rfl)) ?_; (with_reducible refine (link_Tail.calls k (⟨#[40, 47, 117, 32, 34, 116, 34, 41]⟩ : ByteArray) t119 t120 t121 _ ?side1 A4.out).mono ?_); (case side1 => exact Laid.go hLd (by repeat (first | (with_reducible first | exact HB.out | apply below_alloc | apply pw_below_drewN | apply below_drew1) | exact HB.out))); rintro e w40 ⟨rfl, hb⟩; refine ⟨_, rfl, ?_⟩; have n0_ := Aside0.mk (below_step (by repeat (first | (with_reducible first | exact HB.out | apply below_alloc | apply pw_below_drewN | apply below_drew1) | exact HB.out)) hb); clear HB; have HB := n0_; clear n0_; (try clear hb); (try clear hb2); (try clear hk); (try clear hi)))
              go_ret
              exact ⟨by first | rfl | (simp [errW_none, errW_some] <;> rfl) | (simp [*, errW_none, errW_some] <;> rfl), by repeat (first | (with_reducible first | exact HB.out | apply below_alloc | apply pw_below_drewN | apply below_drew1) | exact HB.out)⟩
          · replace c9 := Bool.eq_false_iff.mpr c9
            subst c9
            have H1 : (some false) = some r := by rw [if_neg (show ¬ (false = true) by decide)] at H; exact H
            clear H
            have H := H1
            clear H1
            obtain rfl := Option.some.inj H
            go_enter Tryz.func9, Tryz.ntmps9
            go_wp2_with (first | ((with_reducible refine gate_callee (f := 10) rfl ?_); refine goesL_ (some 12) rfl rfl Tryz.func10 (by kernel_rfl) rfl #[.string (⟨#[91, 97, 93, 98]⟩ : ByteArray)] rfl (by (try simp only [List.map_toArray, List.map_cons, List.map_nil]); first | done | rfl | (simp only [List.length_drop, List.length_take]; rfl)) ?_; (with_reducible refine (link_Label.calls (⟨#[91, 97, 93, 98]⟩ : ByteArray) t112 t113 _ A1.out).mono ?_); rintro e w41 ⟨rfl, hb⟩; refine ⟨_, rfl, ?_⟩; have n0_ := Aside0.mk (below_step (by repeat (first | (with_reducible first | exact HB.out | apply below_alloc | apply pw_below_drewN | apply below_drew1) | exact HB.out)) hb); clear HB; have HB := n0_; clear n0_; (try clear hb); (try clear hb2); (try clear hk); (try clear hi)) | ((with_reducible refine gate_callee (f := 12) rfl ?_); refine goesL_ (some 16) rfl rfl Tryz.func12 (by kernel_rfl) rfl #[.string (⟨#[60, 97, 32, 98, 62]⟩ : ByteArray)] rfl (by (try simp only [List.map_toArray, List.map_cons, List.map_nil]); first | done | rfl | (simp only [List.length_drop, List.length_take]; rfl)) ?_; (with_reducible refine (link_Dest.calls (⟨#[60, 97, 32, 98, 62]⟩ : ByteArray) t114 t115 false _ ?side1 A2.out).mono ?_); (case side1 => exact Laid.go hLd (by repeat (first | (with_reducible first | exact HB.out | apply below_alloc | apply pw_below_drewN | apply below_drew1) | exact HB.out))); rintro e w42 ⟨rfl, hb⟩; refine ⟨_, rfl, ?_⟩; have n0_ := Aside0.mk (below_step (by repeat (first | (with_reducible first | exact HB.out | apply below_alloc | apply pw_below_drewN | apply below_drew1) | exact HB.out)) hb); clear HB; have HB := n0_; clear n0_; (try clear hb); (try clear hb2); (try clear hk); (try clear hi)) | ((with_reducible refine gate_callee (f := 14) rfl ?_); refine goesL_ (some 21) rfl rfl Tryz.func14 (by kernel_rfl) rfl #[.string (⟨#[39, 120, 39, 32, 121]⟩ : ByteArray)] rfl (by (try simp only [List.map_toArray, List.map_cons, List.map_nil]); first | done | rfl | (simp only [List.length_drop, List.length_take]; rfl)) ?_; (with_reducible refine (link_Title.calls (⟨#[39, 120, 39, 32, 121]⟩ : ByteArray) t117 t118 _ ?side1 A3.out).mono ?_); (case side1 => exact Laid.go hLd (by repeat (first | (with_reducible first | exact HB.out | apply below_alloc | apply pw_below_drewN | apply below_drew1) | exact HB.out))); rintro e w43 ⟨rfl, hb⟩; refine ⟨_, rfl, ?_⟩; have n0_ := Aside0.mk (below_step (by repeat (first | (with_reducible first | exact HB.out | apply below_alloc | apply pw_below_drewN | apply below_drew1) | exact HB.out)) hb); clear HB; have HB := n0_; clear n0_; (try clear hb); (try clear hb2); (try clear hk); (try clear hi)) | ((with_reducible refine gate_callee (f := 16) rfl ?_); refine goesL_ (some 25) rfl rfl Tryz.func16 (by kernel_rfl) rfl #[.string (⟨#[40, 47, 117, 32, 34, 116, 34, 41]⟩ : ByteArray)] rfl (by (try simp only [List.map_toArray, List.map_cons, List.map_nil]); first | done | rfl | (simp only [List.length_drop, List.length_take]; rfl)) ?_; (with_reducible refine (link_Tail.calls k (⟨#[40, 47, 117, 32, 34, 116, 34, 41]⟩ : ByteArray) t119 t120 t121 _ ?side1 A4.out).mono ?_); (case side1 => exact Laid.go hLd (by repeat (first | (with_reducible first | exact HB.out | apply below_alloc | apply pw_below_drewN | apply below_drew1) | exact HB.out))); rintro e w44 ⟨rfl, hb⟩; refine ⟨_, rfl, ?_⟩; have n0_ := Aside0.mk (below_step (by repeat (first | (with_reducible first | exact HB.out | apply below_alloc | apply pw_below_drewN | apply below_drew1) | exact HB.out)) hb); clear HB; have HB := n0_; clear n0_; (try clear hb); (try clear hb2); (try clear hk); (try clear hi)))
            go_ret
            exact ⟨by first | rfl | (simp [errW_none, errW_some] <;> rfl) | (simp [*, errW_none, errW_some] <;> rfl), by repeat (first | (with_reducible first | exact HB.out | apply below_alloc | apply pw_below_drewN | apply below_drew1) | exact HB.out)⟩
        · rw [if_neg c8] at H
          have c8b0 : (t115 == 5) = false := beq_eq_false_iff_ne.mpr c8
          have c8b1 : (t115 != 5) = true := bne_iff_ne.mpr c8
          obtain rfl := Option.some.inj H
          go_enter Tryz.func9, Tryz.ntmps9
          go_wp2_with (first | ((with_reducible refine gate_callee (f := 10) rfl ?_); refine goesL_ (some 12) rfl rfl Tryz.func10 (by kernel_rfl) rfl #[.string (⟨#[91, 97, 93, 98]⟩ : ByteArray)] rfl (by (try simp only [List.map_toArray, List.map_cons, List.map_nil]); first | done | rfl | (simp only [List.length_drop, List.length_take]; rfl)) ?_; (with_reducible refine (link_Label.calls (⟨#[91, 97, 93, 98]⟩ : ByteArray) t112 t113 _ A1.out).mono ?_); rintro e w45 ⟨rfl, hb⟩; refine ⟨_, rfl, ?_⟩; have n0_ := Aside0.mk (below_step (by repeat (first | (with_reducible first | exact HB.out | apply below_alloc | apply pw_below_drewN | apply below_drew1) | exact HB.out)) hb); clear HB; have HB := n0_; clear n0_; (try clear hb); (try clear hb2); (try clear hk); (try clear hi)) | ((with_reducible refine gate_callee (f := 12) rfl ?_); refine goesL_ (some 16) rfl rfl Tryz.func12 (by kernel_rfl) rfl #[.string (⟨#[60, 97, 32, 98, 62]⟩ : ByteArray)] rfl (by (try simp only [List.map_toArray, List.map_cons, List.map_nil]); first | done | rfl | (simp only [List.length_drop, List.length_take]; rfl)) ?_; (with_reducible refine (link_Dest.calls (⟨#[60, 97, 32, 98, 62]⟩ : ByteArray) t114 t115 t116 _ ?side1 A2.out).mono ?_); (case side1 => exact Laid.go hLd (by repeat (first | (with_reducible first | exact HB.out | apply below_alloc | apply pw_below_drewN | apply below_drew1) | exact HB.out))); rintro e w46 ⟨rfl, hb⟩; refine ⟨_, rfl, ?_⟩; have n0_ := Aside0.mk (below_step (by repeat (first | (with_reducible first | exact HB.out | apply below_alloc | apply pw_below_drewN | apply below_drew1) | exact HB.out)) hb); clear HB; have HB := n0_; clear n0_; (try clear hb); (try clear hb2); (try clear hk); (try clear hi)) | ((with_reducible refine gate_callee (f := 14) rfl ?_); refine goesL_ (some 21) rfl rfl Tryz.func14 (by kernel_rfl) rfl #[.string (⟨#[39, 120, 39, 32, 121]⟩ : ByteArray)] rfl (by (try simp only [List.map_toArray, List.map_cons, List.map_nil]); first | done | rfl | (simp only [List.length_drop, List.length_take]; rfl)) ?_; (with_reducible refine (link_Title.calls (⟨#[39, 120, 39, 32, 121]⟩ : ByteArray) t117 t118 _ ?side1 A3.out).mono ?_); (case side1 => exact Laid.go hLd (by repeat (first | (with_reducible first | exact HB.out | apply below_alloc | apply pw_below_drewN | apply below_drew1) | exact HB.out))); rintro e w47 ⟨rfl, hb⟩; refine ⟨_, rfl, ?_⟩; have n0_ := Aside0.mk (below_step (by repeat (first | (with_reducible first | exact HB.out | apply below_alloc | apply pw_below_drewN | apply below_drew1) | exact HB.out)) hb); clear HB; have HB := n0_; clear n0_; (try clear hb); (try clear hb2); (try clear hk); (try clear hi)) | ((with_reducible refine gate_callee (f := 16) rfl ?_); refine goesL_ (some 25) rfl rfl Tryz.func16 (by kernel_rfl) rfl #[.string (⟨#[40, 47, 117, 32, 34, 116, 34, 41]⟩ : ByteArray)] rfl (by (try simp only [List.map_toArray, List.map_cons, List.map_nil]); first | done | rfl | (simp only [List.length_drop, List.length_take]; rfl)) ?_; (with_reducible refine (link_Tail.calls k (⟨#[40, 47, 117, 32, 34, 116, 34, 41]⟩ : ByteArray) t119 t120 t121 _ ?side1 A4.out).mono ?_); (case side1 => exact Laid.go hLd (by repeat (first | (with_reducible first | exact HB.out | apply below_alloc | apply pw_below_drewN | apply below_drew1) | exact HB.out))); rintro e w48 ⟨rfl, hb⟩; refine ⟨_, rfl, ?_⟩; have n0_ := Aside0.mk (below_step (by repeat (first | (with_reducible first | exact HB.out | apply below_alloc | apply pw_below_drewN | apply below_drew1) | exact HB.out)) hb); clear HB; have HB := n0_; clear n0_; (try clear hb); (try clear hb2); (try clear hk); (try clear hi)))
          go_ret
          exact ⟨by first | rfl | (simp [errW_none, errW_some] <;> rfl) | (simp [*, errW_none, errW_some] <;> rfl), by repeat (first | (with_reducible first | exact HB.out | apply below_alloc | apply pw_below_drewN | apply below_drew1) | exact HB.out)⟩
      · rw [if_neg c7] at H
        have c7b0 : (t114.toList == ([97, 32, 98] : List UInt8)) = false := beq_eq_false_iff_ne.mpr c7
        have c7b1 : (t114.toList != ([97, 32, 98] : List UInt8)) = true := bne_iff_ne.mpr c7
        obtain rfl := Option.some.inj H
        go_enter Tryz.func9, Tryz.ntmps9
        go_wp2_with (first | ((with_reducible refine gate_callee (f := 10) rfl ?_); refine goesL_ (some 12) rfl rfl Tryz.func10 (by kernel_rfl) rfl #[.string (⟨#[91, 97, 93, 98]⟩ : ByteArray)] rfl (by (try simp only [List.map_toArray, List.map_cons, List.map_nil]); first | done | rfl | (simp only [List.length_drop, List.length_take]; rfl)) ?_; (with_reducible refine (link_Label.calls (⟨#[91, 97, 93, 98]⟩ : ByteArray) t112 t113 _ A1.out).mono ?_); rintro e w49 ⟨rfl, hb⟩; refine ⟨_, rfl, ?_⟩; have n0_ := Aside0.mk (below_step (by repeat (first | (with_reducible first | exact HB.out | apply below_alloc | apply pw_below_drewN | apply below_drew1) | exact HB.out)) hb); clear HB; have HB := n0_; clear n0_; (try clear hb); (try clear hb2); (try clear hk); (try clear hi)) | ((with_reducible refine gate_callee (f := 12) rfl ?_); refine goesL_ (some 16) rfl rfl Tryz.func12 (by kernel_rfl) rfl #[.string (⟨#[60, 97, 32, 98, 62]⟩ : ByteArray)] rfl (by (try simp only [List.map_toArray, List.map_cons, List.map_nil]); first | done | rfl | (simp only [List.length_drop, List.length_take]; rfl)) ?_; (with_reducible refine (link_Dest.calls (⟨#[60, 97, 32, 98, 62]⟩ : ByteArray) t114 t115 t116 _ ?side1 A2.out).mono ?_); (case side1 => exact Laid.go hLd (by repeat (first | (with_reducible first | exact HB.out | apply below_alloc | apply pw_below_drewN | apply below_drew1) | exact HB.out))); rintro e w50 ⟨rfl, hb⟩; refine ⟨_, rfl, ?_⟩; have n0_ := Aside0.mk (below_step (by repeat (first | (with_reducible first | exact HB.out | apply below_alloc | apply pw_below_drewN | apply below_drew1) | exact HB.out)) hb); clear HB; have HB := n0_; clear n0_; (try clear hb); (try clear hb2); (try clear hk); (try clear hi)) | ((with_reducible refine gate_callee (f := 14) rfl ?_); refine goesL_ (some 21) rfl rfl Tryz.func14 (by kernel_rfl) rfl #[.string (⟨#[39, 120, 39, 32, 121]⟩ : ByteArray)] rfl (by (try simp only [List.map_toArray, List.map_cons, List.map_nil]); first | done | rfl | (simp only [List.length_drop, List.length_take]; rfl)) ?_; (with_reducible refine (link_Title.calls (⟨#[39, 120, 39, 32, 121]⟩ : ByteArray) t117 t118 _ ?side1 A3.out).mono ?_); (case side1 => exact Laid.go hLd (by repeat (first | (with_reducible first | exact HB.out | apply below_alloc | apply pw_below_drewN | apply below_drew1) | exact HB.out))); rintro e w51 ⟨rfl, hb⟩; refine ⟨_, rfl, ?_⟩; have n0_ := Aside0.mk (below_step (by repeat (first | (with_reducible first | exact HB.out | apply below_alloc | apply pw_below_drewN | apply below_drew1) | exact HB.out)) hb); clear HB; have HB := n0_; clear n0_; (try clear hb); (try clear hb2); (try clear hk); (try clear hi)) | ((with_reducible refine gate_callee (f := 16) rfl ?_); refine goesL_ (some 25) rfl rfl Tryz.func16 (by kernel_rfl) rfl #[.string (⟨#[40, 47, 117, 32, 34, 116, 34, 41]⟩ : ByteArray)] rfl (by (try simp only [List.map_toArray, List.map_cons, List.map_nil]); first | done | rfl | (simp only [List.length_drop, List.length_take]; rfl)) ?_; (with_reducible refine (link_Tail.calls k (⟨#[40, 47, 117, 32, 34, 116, 34, 41]⟩ : ByteArray) t119 t120 t121 _ ?side1 A4.out).mono ?_); (case side1 => exact Laid.go hLd (by repeat (first | (with_reducible first | exact HB.out | apply below_alloc | apply pw_below_drewN | apply below_drew1) | exact HB.out))); rintro e w52 ⟨rfl, hb⟩; refine ⟨_, rfl, ?_⟩; have n0_ := Aside0.mk (below_step (by repeat (first | (with_reducible first | exact HB.out | apply below_alloc | apply pw_below_drewN | apply below_drew1) | exact HB.out)) hb); clear HB; have HB := n0_; clear n0_; (try clear hb); (try clear hb2); (try clear hk); (try clear hi)))
        go_ret
        exact ⟨by first | rfl | (simp [errW_none, errW_some] <;> rfl) | (simp [*, errW_none, errW_some] <;> rfl), by repeat (first | (with_reducible first | exact HB.out | apply below_alloc | apply pw_below_drewN | apply below_drew1) | exact HB.out)⟩
    · rw [if_neg c6] at H
      have c6b0 : (t113 == 3) = false := beq_eq_false_iff_ne.mpr c6
      have c6b1 : (t113 != 3) = true := bne_iff_ne.mpr c6
      obtain rfl := Option.some.inj H
      go_enter Tryz.func9, Tryz.ntmps9
      go_wp2_with (first | ((with_reducible refine gate_callee (f := 10) rfl ?_); refine goesL_ (some 12) rfl rfl Tryz.func10 (by kernel_rfl) rfl #[.string (⟨#[91, 97, 93, 98]⟩ : ByteArray)] rfl (by (try simp only [List.map_toArray, List.map_cons, List.map_nil]); first | done | rfl | (simp only [List.length_drop, List.length_take]; rfl)) ?_; (with_reducible refine (link_Label.calls (⟨#[91, 97, 93, 98]⟩ : ByteArray) t112 t113 _ A1.out).mono ?_); rintro e w53 ⟨rfl, hb⟩; refine ⟨_, rfl, ?_⟩; have n0_ := Aside0.mk (below_step (by repeat (first | (with_reducible first | exact HB.out | apply below_alloc | apply pw_below_drewN | apply below_drew1) | exact HB.out)) hb); clear HB; have HB := n0_; clear n0_; (try clear hb); (try clear hb2); (try clear hk); (try clear hi)) | ((with_reducible refine gate_callee (f := 12) rfl ?_); refine goesL_ (some 16) rfl rfl Tryz.func12 (by kernel_rfl) rfl #[.string (⟨#[60, 97, 32, 98, 62]⟩ : ByteArray)] rfl (by (try simp only [List.map_toArray, List.map_cons, List.map_nil]); first | done | rfl | (simp only [List.length_drop, List.length_take]; rfl)) ?_; (with_reducible refine (link_Dest.calls (⟨#[60, 97, 32, 98, 62]⟩ : ByteArray) t114 t115 t116 _ ?side1 A2.out).mono ?_); (case side1 => exact Laid.go hLd (by repeat (first | (with_reducible first | exact HB.out | apply below_alloc | apply pw_below_drewN | apply below_drew1) | exact HB.out))); rintro e w54 ⟨rfl, hb⟩; refine ⟨_, rfl, ?_⟩; have n0_ := Aside0.mk (below_step (by repeat (first | (with_reducible first | exact HB.out | apply below_alloc | apply pw_below_drewN | apply below_drew1) | exact HB.out)) hb); clear HB; have HB := n0_; clear n0_; (try clear hb); (try clear hb2); (try clear hk); (try clear hi)) | ((with_reducible refine gate_callee (f := 14) rfl ?_); refine goesL_ (some 21) rfl rfl Tryz.func14 (by kernel_rfl) rfl #[.string (⟨#[39, 120, 39, 32, 121]⟩ : ByteArray)] rfl (by (try simp only [List.map_toArray, List.map_cons, List.map_nil]); first | done | rfl | (simp only [List.length_drop, List.length_take]; rfl)) ?_; (with_reducible refine (link_Title.calls (⟨#[39, 120, 39, 32, 121]⟩ : ByteArray) t117 t118 _ ?side1 A3.out).mono ?_); (case side1 => exact Laid.go hLd (by repeat (first | (with_reducible first | exact HB.out | apply below_alloc | apply pw_below_drewN | apply below_drew1) | exact HB.out))); rintro e w55 ⟨rfl, hb⟩; refine ⟨_, rfl, ?_⟩; have n0_ := Aside0.mk (below_step (by repeat (first | (with_reducible first | exact HB.out | apply below_alloc | apply pw_below_drewN | apply below_drew1) | exact HB.out)) hb); clear HB; have HB := n0_; clear n0_; (try clear hb); (try clear hb2); (try clear hk); (try clear hi)) | ((with_reducible refine gate_callee (f := 16) rfl ?_); refine goesL_ (some 25) rfl rfl Tryz.func16 (by kernel_rfl) rfl #[.string (⟨#[40, 47, 117, 32, 34, 116, 34, 41]⟩ : ByteArray)] rfl (by (try simp only [List.map_toArray, List.map_cons, List.map_nil]); first | done | rfl | (simp only [List.length_drop, List.length_take]; rfl)) ?_; (with_reducible refine (link_Tail.calls k (⟨#[40, 47, 117, 32, 34, 116, 34, 41]⟩ : ByteArray) t119 t120 t121 _ ?side1 A4.out).mono ?_); (case side1 => exact Laid.go hLd (by repeat (first | (with_reducible first | exact HB.out | apply below_alloc | apply pw_below_drewN | apply below_drew1) | exact HB.out))); rintro e w56 ⟨rfl, hb⟩; refine ⟨_, rfl, ?_⟩; have n0_ := Aside0.mk (below_step (by repeat (first | (with_reducible first | exact HB.out | apply below_alloc | apply pw_below_drewN | apply below_drew1) | exact HB.out)) hb); clear HB; have HB := n0_; clear n0_; (try clear hb); (try clear hb2); (try clear hk); (try clear hi)))
      go_ret
      exact ⟨by first | rfl | (simp [errW_none, errW_some] <;> rfl) | (simp [*, errW_none, errW_some] <;> rfl), by repeat (first | (with_reducible first | exact HB.out | apply below_alloc | apply pw_below_drewN | apply below_drew1) | exact HB.out)⟩
  · rw [if_neg c5] at H
    have c5b0 : (t112.toList == ([97] : List UInt8)) = false := beq_eq_false_iff_ne.mpr c5
    have c5b1 : (t112.toList != ([97] : List UInt8)) = true := bne_iff_ne.mpr c5
    obtain rfl := Option.some.inj H
    go_enter Tryz.func9, Tryz.ntmps9
    go_wp2_with (first | ((with_reducible refine gate_callee (f := 10) rfl ?_); refine goesL_ (some 12) rfl rfl Tryz.func10 (by kernel_rfl) rfl #[.string (⟨#[91, 97, 93, 98]⟩ : ByteArray)] rfl (by (try simp only [List.map_toArray, List.map_cons, List.map_nil]); first | done | rfl | (simp only [List.length_drop, List.length_take]; rfl)) ?_; (with_reducible refine (link_Label.calls (⟨#[91, 97, 93, 98]⟩ : ByteArray) t112 t113 _ A1.out).mono ?_); rintro e w57 ⟨rfl, hb⟩; refine ⟨_, rfl, ?_⟩; have n0_ := Aside0.mk (below_step (by repeat (first | (with_reducible first | exact HB.out | apply below_alloc | apply pw_below_drewN | apply below_drew1) | exact HB.out)) hb); clear HB; have HB := n0_; clear n0_; (try clear hb); (try clear hb2); (try clear hk); (try clear hi)) | ((with_reducible refine gate_callee (f := 12) rfl ?_); refine goesL_ (some 16) rfl rfl Tryz.func12 (by kernel_rfl) rfl #[.string (⟨#[60, 97, 32, 98, 62]⟩ : ByteArray)] rfl (by (try simp only [List.map_toArray, List.map_cons, List.map_nil]); first | done | rfl | (simp only [List.length_drop, List.length_take]; rfl)) ?_; (with_reducible refine (link_Dest.calls (⟨#[60, 97, 32, 98, 62]⟩ : ByteArray) t114 t115 t116 _ ?side1 A2.out).mono ?_); (case side1 => exact Laid.go hLd (by repeat (first | (with_reducible first | exact HB.out | apply below_alloc | apply pw_below_drewN | apply below_drew1) | exact HB.out))); rintro e w58 ⟨rfl, hb⟩; refine ⟨_, rfl, ?_⟩; have n0_ := Aside0.mk (below_step (by repeat (first | (with_reducible first | exact HB.out | apply below_alloc | apply pw_below_drewN | apply below_drew1) | exact HB.out)) hb); clear HB; have HB := n0_; clear n0_; (try clear hb); (try clear hb2); (try clear hk); (try clear hi)) | ((with_reducible refine gate_callee (f := 14) rfl ?_); refine goesL_ (some 21) rfl rfl Tryz.func14 (by kernel_rfl) rfl #[.string (⟨#[39, 120, 39, 32, 121]⟩ : ByteArray)] rfl (by (try simp only [List.map_toArray, List.map_cons, List.map_nil]); first | done | rfl | (simp only [List.length_drop, List.length_take]; rfl)) ?_; (with_reducible refine (link_Title.calls (⟨#[39, 120, 39, 32, 121]⟩ : ByteArray) t117 t118 _ ?side1 A3.out).mono ?_); (case side1 => exact Laid.go hLd (by repeat (first | (with_reducible first | exact HB.out | apply below_alloc | apply pw_below_drewN | apply below_drew1) | exact HB.out))); rintro e w59 ⟨rfl, hb⟩; refine ⟨_, rfl, ?_⟩; have n0_ := Aside0.mk (below_step (by repeat (first | (with_reducible first | exact HB.out | apply below_alloc | apply pw_below_drewN | apply below_drew1) | exact HB.out)) hb); clear HB; have HB := n0_; clear n0_; (try clear hb); (try clear hb2); (try clear hk); (try clear hi)) | ((with_reducible refine gate_callee (f := 16) rfl ?_); refine goesL_ (some 25) rfl rfl Tryz.func16 (by kernel_rfl) rfl #[.string (⟨#[40, 47, 117, 32, 34, 116, 34, 41]⟩ : ByteArray)] rfl (by (try simp only [List.map_toArray, List.map_cons, List.map_nil]); first | done | rfl | (simp only [List.length_drop, List.length_take]; rfl)) ?_; (with_reducible refine (link_Tail.calls k (⟨#[40, 47, 117, 32, 34, 116, 34, 41]⟩ : ByteArray) t119 t120 t121 _ ?side1 A4.out).mono ?_); (case side1 => exact Laid.go hLd (by repeat (first | (with_reducible first | exact HB.out | apply below_alloc | apply pw_below_drewN | apply below_drew1) | exact HB.out))); rintro e w60 ⟨rfl, hb⟩; refine ⟨_, rfl, ?_⟩; have n0_ := Aside0.mk (below_step (by repeat (first | (with_reducible first | exact HB.out | apply below_alloc | apply pw_below_drewN | apply below_drew1) | exact HB.out)) hb); clear HB; have HB := n0_; clear n0_; (try clear hb); (try clear hb2); (try clear hk); (try clear hi)))
    go_ret
    exact ⟨by first | rfl | (simp [errW_none, errW_some] <;> rfl) | (simp [*, errW_none, errW_some] <;> rfl), by repeat (first | (with_reducible first | exact HB.out | apply below_alloc | apply pw_below_drewN | apply below_drew1) | exact HB.out)⟩

/-! ### incipitref09_white: function 34 -/
def incipitref09_white.f (a0 : Int) : Option (Bool) := if a0 = 32 then (some true) else (if a0 = 9 then (some true) else (some (a0 == 10)))
set_option maxHeartbeats 8000000 in
set_option maxRecDepth 100000 in
theorem incipitref09_white.calls (a0 : Int) (r : Bool) (w : World) (h : incipitref09_white.f a0 = some r) :
    Calls Tryz.prog 34 #[.int .u8 a0] w fun e w' => e = .returned (.bool r) ∧ Drawn0 w w' := by
  have H : (if a0 = 32 then (some true) else (if a0 = 9 then (some true) else (some (a0 == 10)))) = some r := h
  clear h
  by_cases c2 : a0 = 32
  · rw [if_pos c2] at H
    have c2b0 : (a0 == 32) = true := beq_iff_eq.mpr c2
    have c2b1 : (a0 != 32) = false := bne_eq_false_iff_eq.mpr c2
    clear c2
    obtain rfl := Option.some.inj H
    go_enter Tryz.func34, Tryz.ntmps34
    go_wp2
    go_ret
    exact ⟨by first | rfl | (simp; done) | (simp [*]; done), by repeat (first | exact Drawn0.refl _ | apply Drawn0.step)⟩
  · rw [if_neg c2] at H
    have c2b0 : (a0 == 32) = false := beq_eq_false_iff_ne.mpr c2
    have c2b1 : (a0 != 32) = true := bne_iff_ne.mpr c2
    by_cases c3 : a0 = 9
    · rw [if_pos c3] at H
      have c3b0 : (a0 == 9) = true := beq_iff_eq.mpr c3
      have c3b1 : (a0 != 9) = false := bne_eq_false_iff_eq.mpr c3
      clear c3
      obtain rfl := Option.some.inj H
      go_enter Tryz.func34, Tryz.ntmps34
      go_wp2
      go_ret
      exact ⟨by first | rfl | (simp; done) | (simp [*]; done), by repeat (first | exact Drawn0.refl _ | apply Drawn0.step)⟩
    · rw [if_neg c3] at H
      have c3b0 : (a0 == 9) = false := beq_eq_false_iff_ne.mpr c3
      have c3b1 : (a0 != 9) = true := bne_iff_ne.mpr c3
      obtain rfl := Option.some.inj H
      go_enter Tryz.func34, Tryz.ntmps34
      go_wp2
      go_ret
      exact ⟨by first | rfl | (simp; done) | (simp [*]; done), by repeat (first | exact Drawn0.refl _ | apply Drawn0.step)⟩

/-! ### incipitref09_White: function 19 -/
def incipitref09_White.l0 : Nat → ByteArray → Int → Option (Int)
  | 0, _, _ => none
  | k + 1, x0, x3 => if x3 < (x0.size : Int) then (if 0 ≤ x3 then ((incipitref09_white.f (bt x0 x3)).bind fun t123 => (if t123 = true then (incipitref09_White.l0 k x0 (wrap64 (x3 + 1))) else (some x3))) else (none)) else (some x3)
def incipitref09_White.f (k : Nat) (a0 : ByteArray) : Option (Int) := incipitref09_White.l0 k a0 0
theorem incipitref09_White.mono_l : ∀ k, (∀ y0 y1, LeO (incipitref09_White.l0 k y0 y1) (incipitref09_White.l0 (k + 1) y0 y1))
  | 0 => fun _ _ r h => by simp [incipitref09_White.l0] at h
  | k + 1 => by
    have ih0 := incipitref09_White.mono_l k
    · intro y0 y1
      unfold incipitref09_White.l0
      repeat' first
      | (with_reducible exact ih0 _ _)
      | (with_reducible exact LeO.refl _)
      | (with_reducible exact LeO.none _)
      | (with_reducible refine LeO.ite ?_ ?_)
      | (with_reducible refine LeO.bind ?_ (fun _ => ?_))
      | exact ih0 _ _
      | exact LeO.none _
      | refine LeO.ite ?_ ?_
      | refine LeO.bind ?_ (fun _ => ?_)
theorem incipitref09_White.mono : ∀ a0 k, LeO (incipitref09_White.f k a0) (incipitref09_White.f (k + 1) a0) := by
  intro a0 k
  have ih0 := incipitref09_White.mono_l k
  unfold incipitref09_White.f
  repeat' first
      | (with_reducible exact ih0 _ _)
      | (with_reducible exact LeO.refl _)
      | (with_reducible exact LeO.none _)
      | (with_reducible refine LeO.ite ?_ ?_)
      | (with_reducible refine LeO.bind ?_ (fun _ => ?_))
      | exact ih0 _ _
      | exact LeO.none _
      | refine LeO.ite ?_ ?_
      | refine LeO.bind ?_ (fun _ => ?_)
set_option maxHeartbeats 8000000 in
set_option maxRecDepth 100000 in
theorem incipitref09_White.calls (k : Nat) (a0 : ByteArray) (r : Int) (w : World) (h : incipitref09_White.f k a0 = some r) :
    Calls Tryz.prog 19 #[.string a0] w fun e w' => e = .returned (.int .i64 r) ∧ Drawn0 w w' := by
  have H : (incipitref09_White.l0 k a0 0) = some r := h
  clear h
  have H' := Aside0.mk H
  clear H
  go_enter Tryz.func19, Tryz.ntmps19
  go_wp2
  go_loopg [3] k (fun kq v3 w' => ∃ (x3_1 : Int), v3 = .int .i64 x3_1 ∧ Aside0 (incipitref09_White.l0 kq a0 x3_1 = some r) ∧ Aside0 (kq ≤ k) ∧ Drawn0 w w')
  case atStart => exact ⟨(0), (by first | rfl | (simp; done) | (simp [*]; done)), H', ⟨Nat.le_refl _⟩, by repeat (first | exact Drawn0.refl _ | apply Drawn0.step)⟩
  case round =>
    clear H'
    try clear c1
    obtain ⟨x3_1, rfl, HA, HK1, ⟨m1, rfl⟩⟩ := hrel
    cases gk with
    | zero => exact absurd HA.out (by simp [incipitref09_White.l0])
    | succ k1 =>
      have H := HA.out
      clear HA
      simp only [incipitref09_White.l0] at H
      by_cases c2 : x3_1 < (a0.size : Int)
      · rw [if_pos c2] at H
        have c2b0 : decide (x3_1 < (a0.size : Int)) = true := decide_eq_true c2
        clear c2
        by_cases c3 : 0 ≤ x3_1
        · rw [if_pos c3] at H
          have c3b0 : decide (0 ≤ x3_1) = true := decide_eq_true c3
          clear c3
          replace H := Option.bind_eq_some_iff.mp H
          obtain ⟨t123, A50, H⟩ := H
          replace H : (if t123 = true then (incipitref09_White.l0 k1 a0 (wrap64 (x3_1 + 1))) else (some x3_1)) = some r := H
          have A5 := Aside0.mk A50
          clear A50
          by_cases c6 : t123 = true
          · subst c6
            have H1 : (incipitref09_White.l0 k1 a0 (wrap64 (x3_1 + 1))) = some r := by rw [if_pos rfl] at H; exact H
            clear H
            have H := H1
            clear H1
            have H' := Aside0.mk H
            clear H
            have p4 : 0 ≤ (x3_1 : Int) := of_decide_eq_true (by first | (with_reducible assumption) | assumption)
            have q4 : x3_1 < (a0.size : Int) := of_decide_eq_true (by first | (with_reducible assumption) | assumption)
            have hx4 := bt_at a0 x3_1
            replace p4 := eq_true p4
            replace q4 := eq_true q4
            go_wp2_with (first | (go_at_call 34; (with_reducible refine (incipitref09_white.calls (bt a0 x3_1) true _ A5.out).mono ?_); rintro e w' ⟨rfl, ⟨nd, rfl⟩⟩))
            go_roundg k1
            case measure => have := HK1.out; omega
            case rel => exact ⟨(wrap64 (x3_1 + 1)), (by first | rfl | (simp; done) | (simp [*]; done)), H', ⟨by have := HK1.out; omega⟩, by repeat (first | exact Drawn0.refl _ | apply Drawn0.step)⟩
          · replace c6 := Bool.eq_false_iff.mpr c6
            subst c6
            have H1 : (some x3_1) = some r := by rw [if_neg (show ¬ (false = true) by decide)] at H; exact H
            clear H
            have H := H1
            clear H1
            obtain rfl := Option.some.inj H
            have p4 : 0 ≤ (x3_1 : Int) := of_decide_eq_true (by first | (with_reducible assumption) | assumption)
            have q4 : x3_1 < (a0.size : Int) := of_decide_eq_true (by first | (with_reducible assumption) | assumption)
            have hx4 := bt_at a0 x3_1
            replace p4 := eq_true p4
            replace q4 := eq_true q4
            go_wp2_with (first | (go_at_call 34; (with_reducible refine (incipitref09_white.calls (bt a0 x3_1) false _ A5.out).mono ?_); rintro e w' ⟨rfl, ⟨nd, rfl⟩⟩))
            go_ret
            exact ⟨by first | rfl | (simp; done) | (simp [*]; done), by repeat (first | exact Drawn0.refl _ | apply Drawn0.step)⟩
        · rw [if_neg c3] at H
          exact absurd H (by simp)
      · rw [if_neg c2] at H
        have c2b0 : decide (x3_1 < (a0.size : Int)) = false := decide_eq_false c2
        clear c2
        obtain rfl := Option.some.inj H
        go_wp2
        go_ret
        exact ⟨by first | rfl | (simp; done) | (simp [*]; done), by repeat (first | exact Drawn0.refl _ | apply Drawn0.step)⟩

end Go.Proofs.YtjobchgncdgfaaaGreatDoor.PA

namespace Go.Proofs.YtjobchgncdgfaaaGreatDoor.Pure
open Go.RowKit Go.Proofs.YtjobchgncdgfaaaGreatDoorW.PrintWords Go.Proofs.YtjobchgncdgfaaaGreatDoorW.PrintMore Go.Proofs.YtjobchgncdgfaaaGreatDoor.Pl Go.Proofs.YtjobchgncdgfaaaGreatDoor.PA

theorem hp_one (c : UInt8) (s : List UInt8) : strings_HasPrefix.f (B s) ⟨#[c]⟩ = some (decide (s.head? = some c)) := by
  unfold strings_HasPrefix.f
  rw [B_data, show (⟨#[c]⟩ : ByteArray).data.toList = [c] from rfl]
  congr 1
  cases s with
  | nil => rfl
  | cons x t =>
    by_cases hx : x = c
    · subst hx
      simp [Lib.hasPrefix, List.isPrefixOf]
    · simp [Lib.hasPrefix, List.isPrefixOf, hx]
      exact fun e => hx e.symm
theorem white_f (s : List UInt8) (h : s.length ≤ 1099511627776) : link_White.f (B s) = some (wht s : Int) := by
  unfold link_White.f strings_TrimLeft.f
  have h1 := trim_le s [32, 9, 10]
  have e : (⟨(Lib.trimLeftS s [32, 9, 10]).toArray⟩ : ByteArray).size = (Lib.trimLeftS s [32, 9, 10]).length := B_size _
  rw [if_pos ⟨by rw [B_size]; omega, by decide, by decide⟩, Option.bind_some, B_data, show (⟨#[32, 9, 10]⟩ : ByteArray).data.toList = [32, 9, 10] from rfl, B_size, e, wht_int]
  have := wht_le s
  rw [w64 (by omega) (by omega)]
theorem label_f (s : List UInt8) (h : s.length ≤ 1048576) : link_Label.f (B s) = some (B (lab s).1, ((lab s).2 : Int)) := by
  unfold link_Label.f
  rw [if_pos (by rw [B_size]; exact h), B_data]
theorem dest_f (s : List UInt8) (h : s.length ≤ 1048576) : link_Dest.f (B s) = some (B (dst s).1, ((dst s).2.1 : Int), (dst s).2.2) := by
  unfold link_Dest.f
  rw [if_pos (by rw [B_size]; exact h), B_data]
theorem title_f (s : List UInt8) (h : s.length ≤ 1048576) : link_Title.f (B s) = some (B (ttl s).1, ((ttl s).2 : Int)) := by
  unfold link_Title.f
  rw [if_pos (by rw [B_size]; exact h), B_data]
theorem drop_lt {t : List UInt8} {E : Nat} {y : UInt8} {u : List UInt8} (h : t.drop E = y :: u) : E < t.length := by
  rcases Nat.lt_or_ge E t.length with h1 | h1
  · exact h1
  · rw [List.drop_eq_nil_of_le h1] at h; cases h
theorem lab_le (s : List UInt8) : (lab s).2 ≤ s.length := by
  cases s with
  | nil => exact Nat.le_refl _
  | cons x t =>
    rw [lab_cons]
    split
    · split
      · exact Nat.zero_le _
      · rename_i y u h
        have := drop_lt h
        split
        · exact Nat.zero_le _
        · show eachL pLab t + 2 ≤ t.length + 1; omega
    · exact Nat.zero_le _
theorem ang_le (t : List UInt8) : (ang t).2.1 ≤ t.length + 1 := by
  unfold ang
  split
  · exact Nat.zero_le _
  · rename_i y u h
    have := drop_lt h
    split
    · show eachL pAng t + 2 ≤ t.length + 1; omega
    · exact Nat.zero_le _
theorem dst_le (s : List UInt8) : (dst s).2.1 ≤ s.length := by
  unfold dst
  split
  · rename_i h
    cases s with
    | nil => cases h
    | cons x t => exact ang_le t
  · split
    · exact Nat.zero_le _
    · exact (dstL_le s 0 false).1
theorem ttl_le (s : List UInt8) : (ttl s).2 ≤ s.length := by
  cases s with
  | nil => exact Nat.le_refl _
  | cons x t =>
    rw [ttl_cons]
    split
    · exact Nat.zero_le _
    · split
      · exact Nat.zero_le _
      · rename_i y u h
        have := drop_lt h
        split
        · split
          · exact Nat.zero_le _
          · show eachL (pTit (cls (x :: t))) t + 2 ≤ t.length + 1; omega
        · exact Nat.zero_le _
def a1 (s : List UInt8) : Nat := 1 + wht (s.drop 1)
def tD (s : List UInt8) : List UInt8 × Nat × Bool := dst (s.drop (a1 s))
def a2 (s : List UInt8) : Nat := a1 s + (tD s).2.1
def tG (s : List UInt8) : Nat := wht (s.drop (a2 s))
def tT (s : List UInt8) : List UInt8 × Nat := ttl (s.drop (a2 s + tG s))
def tOk (s : List UInt8) : Bool := decide (0 < (tD s).2.1) && (decide (0 < tG s) && decide (0 < (tT s).2))
def a3 (s : List UInt8) : Nat := if tOk s = true then a2 s + tG s + (tT s).2 else a2 s
def a4 (s : List UInt8) : Nat := a3 s + wht (s.drop (a3 s))
/-- An address and a title in parentheses, and how long all of it is. -/
def tlr (s : List UInt8) : List UInt8 × List UInt8 × Nat :=
  if s.head? = some 40 then (if (s.drop (a4 s)).head? = some 41 then ((tD s).1, (if tOk s = true then (tT s).1 else []), a4 s + 1) else ([], [], 0)) else ([], [], 0)
theorem a_le (s : List UInt8) (h : s ≠ []) : a1 s ≤ s.length ∧ a2 s ≤ s.length ∧ a2 s + tG s ≤ s.length ∧ a3 s ≤ s.length ∧ a4 s ≤ s.length := by
  have h0 : 1 ≤ s.length := by rcases Nat.eq_zero_or_pos s.length with e | e; exact absurd (List.length_eq_zero_iff.1 e) h; exact e
  have e1 : a1 s ≤ s.length := by
    have := wht_le (s.drop 1)
    rw [List.length_drop] at this
    unfold a1; omega
  have e2 : a2 s ≤ s.length := by
    have := dst_le (s.drop (a1 s))
    rw [List.length_drop] at this
    unfold a2 tD; omega
  have e3 : a2 s + tG s ≤ s.length := by
    have := wht_le (s.drop (a2 s))
    rw [List.length_drop] at this
    unfold tG; omega
  have e4 : a3 s ≤ s.length := by
    have := ttl_le (s.drop (a2 s + tG s))
    rw [List.length_drop] at this
    unfold a3
    split
    · unfold tT; omega
    · exact e2
  refine ⟨e1, e2, e3, e4, ?_⟩
  have := wht_le (s.drop (a3 s))
  rw [List.length_drop] at this
  unfold a4; omega
theorem tlr_le (s : List UInt8) : (tlr s).2.2 ≤ s.length := by
  unfold tlr
  split
  · split
    · rename_i h1 h2
      have h3 : a4 s < s.length := by
        rcases Nat.lt_or_ge (a4 s) s.length with h | h
        · exact h
        · rw [List.drop_eq_nil_of_le h] at h2; cases h2
      exact h3
    · exact Nat.zero_le _
  · exact Nat.zero_le _
theorem j1_ev (s : List UInt8) (hs : s.length ≤ 1048576) (at_ : Nat) (hat : at_ ≤ s.length) (d t : List UInt8) :
    Ev (fun k => link_Tail.j1 k (B s) (at_ : Int) (B d) (B t)) (if (s.drop (at_ + wht (s.drop at_))).head? = some 41 then (B d, B t, ((at_ + wht (s.drop at_) + 1 : Nat) : Int)) else (B [], B [], 0)) := by
  have hw := wht_le (s.drop at_)
  rw [List.length_drop] at hw
  have hx : (B s).extract ((at_ : Int)).toNat (B s).size = B (s.drop at_) := by rw [Int.toNat_natCast]; exact B_from s at_ _ (B_size _)
  have hw1 : wrap64 ((at_ : Int) + (wht (s.drop at_) : Int)) = ((at_ + wht (s.drop at_) : Nat) : Int) := by rw [w64 (by omega) (by omega)]; omega
  have hx2 : (B s).extract (((at_ + wht (s.drop at_) : Nat) : Int)).toNat (B s).size = B (s.drop (at_ + wht (s.drop at_))) := by rw [Int.toNat_natCast]; exact B_from s _ _ (B_size _)
  refine Ev.step (f := fun _ => some (if (s.drop (at_ + wht (s.drop at_))).head? = some 41 then (B d, B t, ((at_ + wht (s.drop at_) + 1 : Nat) : Int)) else (B [], B [], 0))) (fun k => ?_) (Ev.now _)
  simp only [link_Tail.j1]
  rw [if_pos (by omega), if_pos (by rw [B_size]; omega), hx, white_f _ (by rw [List.length_drop]; omega), Option.bind_some, hw1, if_pos (by omega), if_pos (by rw [B_size]; omega), hx2, hp_one, Option.bind_some]
  by_cases h : (s.drop (at_ + wht (s.drop at_))).head? = some 41
  · rw [if_pos (decide_eq_true h), if_pos h, w64 (by omega) (by omega)]
    rfl
  · rw [if_neg (by rw [decide_eq_false h]; decide), if_neg h]
    rfl
theorem nn (n : Nat) : (0 : Int) ≤ (n : Int) := Int.natCast_nonneg n
theorem szl {s : List UInt8} {n : Nat} (h : n ≤ s.length) : (n : Int) ≤ ((B s).size : Int) := by rw [B_size]; exact Int.ofNat_le.2 h
theorem wadd {a b : Nat} (h : a + b ≤ 1048577) : wrap64 ((a : Int) + (b : Int)) = ((a + b : Nat) : Int) := by rw [w64 (by omega) (by omega)]; omega
theorem wadd1 {b : Nat} (h : 1 + b ≤ 1048577) : wrap64 (1 + (b : Int)) = ((1 + b : Nat) : Int) := by rw [w64 (by omega) (by omega)]; omega
theorem dlen (s : List UInt8) (n : Nat) (hs : s.length ≤ 1048576) : (s.drop n).length ≤ 1048576 := by rw [List.length_drop]; omega
theorem dlen2 (s : List UInt8) (n : Nat) (hs : s.length ≤ 1048576) : (s.drop n).length ≤ 1099511627776 := by rw [List.length_drop]; omega
theorem ipos {n : Nat} (h : 0 < n) : (n : Int) > 0 := by omega
theorem inpos {n : Nat} (h : ¬ 0 < n) : ¬ ((n : Int) > 0) := by omega
theorem tOk_eq (s : List UInt8) : tOk s = (decide (0 < (tD s).2.1) && (decide (0 < tG s) && decide (0 < (tT s).2))) := rfl
/-- What the tail's end answers. -/
def tlE (s : List UInt8) (d : List UInt8) (t : List UInt8) (a : Nat) : ByteArray × ByteArray × Int :=
  if (s.drop a).head? = some 41 then (B d, B t, ((a + 1 : Nat) : Int)) else (B [], B [], 0)
theorem j0_no (s : List UInt8) (hs : s.length ≤ 1048576) (p : Nat) (l2 : p ≤ s.length) (d : List UInt8) (g : Int) : Ev (fun k => link_Tail.j0 k (B s) (p : Int) (B d) (B []) g false) (tlE s d [] (p + wht (s.drop p))) := by
  refine Ev.step (f := fun k => link_Tail.j1 k (B s) (p : Int) (B d) (B [])) (fun k => ?_) (j1_ev s hs p l2 d [])
  simp only [link_Tail.j0]
  rw [if_neg (by decide)]
theorem j0_yes (s : List UInt8) (hs : s.length ≤ 1048576) (p g : Nat) (l2 : p ≤ s.length) (l3 : p + g ≤ s.length) (d : List UInt8) (T : List UInt8 × Nat) (hT : ttl (s.drop (p + g)) = T) (lT : p + g + T.2 ≤ s.length) :
    Ev (fun k => link_Tail.j0 k (B s) (p : Int) (B d) (B []) (g : Int) true) (if 0 < T.2 then tlE s d T.1 (p + g + T.2 + wht (s.drop (p + g + T.2))) else tlE s d [] (p + wht (s.drop p))) := by
  have w3 : wrap64 ((p : Int) + (g : Int)) = ((p + g : Nat) : Int) := wadd (Nat.le_trans l3 (by omega))
  have x4 : (B s).extract (((p + g : Nat) : Int)).toNat (B s).size = B (s.drop (p + g)) := by rw [Int.toNat_natCast]; exact B_from s _ _ (B_size _)
  have ht := title_f (s.drop (p + g)) (dlen s _ hs)
  rw [hT] at ht
  have hstep : ∀ k, link_Tail.j0 (k + 1) (B s) (p : Int) (B d) (B []) (g : Int) true = if ((T.2 : Nat) : Int) > 0 then link_Tail.j1 k (B s) (wrap64 (((p + g : Nat) : Int) + ((T.2 : Nat) : Int))) (B d) (B T.1) else link_Tail.j1 k (B s) (p : Int) (B d) (B []) := by
    intro k
    simp only [link_Tail.j0]
    rw [if_pos trivial, w3, if_pos (nn _), if_pos (szl l3), x4, ht, Option.bind_some]
  by_cases h : 0 < T.2
  · rw [if_pos h]
    have w4 : wrap64 (((p + g : Nat) : Int) + ((T.2 : Nat) : Int)) = ((p + g + T.2 : Nat) : Int) := wadd (Nat.le_trans lT (by omega))
    refine Ev.step (f := fun k => link_Tail.j1 k (B s) ((p + g + T.2 : Nat) : Int) (B d) (B T.1)) (fun k => ?_) (j1_ev s hs (p + g + T.2) lT d T.1)
    rw [hstep, if_pos (ipos h), w4]
  · rw [if_neg h]
    refine Ev.step (f := fun k => link_Tail.j1 k (B s) (p : Int) (B d) (B [])) (fun k => ?_) (j1_ev s hs p l2 d [])
    rw [hstep, if_neg (inpos h)]
theorem tail_ev (s : List UInt8) (hs : s.length ≤ 1048576) : Ev (fun k => link_Tail.f k (B s)) (B (tlr s).1, B (tlr s).2.1, ((tlr s).2.2 : Int)) := by
  by_cases h40 : s.head? = some 40
  · have hne : s ≠ [] := fun e => by rw [e] at h40; cases h40
    obtain ⟨l1, l2, l3, l4, l5⟩ := a_le s hne
    have h0 : 1 ≤ s.length := by rcases Nat.eq_zero_or_pos s.length with e | e; exact absurd (List.length_eq_zero_iff.1 e) hne; exact e
    have ht : (B (tlr s).1, B (tlr s).2.1, ((tlr s).2.2 : Int)) = tlE s (tD s).1 (if tOk s = true then (tT s).1 else []) (a4 s) := by
      unfold tlr tlE
      rw [if_pos h40]
      split <;> rfl
    rw [ht]
    have x1 : (B s).extract 1 (B s).size = B (s.drop 1) := B_from s 1 _ (B_size _)
    have w1 : wrap64 (1 + (wht (s.drop 1) : Int)) = ((a1 s : Nat) : Int) := wadd1 (Nat.le_trans l1 (by omega))
    have x2 : (B s).extract (((a1 s : Nat) : Int)).toNat (B s).size = B (s.drop (a1 s)) := by rw [Int.toNat_natCast]; exact B_from s _ _ (B_size _)
    have w2 : wrap64 (((a1 s : Nat) : Int) + ((tD s).2.1 : Int)) = ((a2 s : Nat) : Int) := wadd (Nat.le_trans l2 (by omega))
    have x3 : (B s).extract (((a2 s : Nat) : Int)).toNat (B s).size = B (s.drop (a2 s)) := by rw [Int.toNat_natCast]; exact B_from s _ _ (B_size _)
    have hdf : link_Dest.f (B (s.drop (a1 s))) = some (B (tD s).1, ((tD s).2.1 : Int), (tD s).2.2) := dest_f (s.drop (a1 s)) (dlen s _ hs)
    have hj0 : ∀ b : Bool, b = (decide (0 < (tD s).2.1) && decide (0 < tG s)) → Ev (fun k => link_Tail.j0 k (B s) (a2 s : Int) (B (tD s).1) (B []) (tG s : Int) b) (tlE s (tD s).1 (if tOk s = true then (tT s).1 else []) (a4 s)) := by
      intro b hb
      cases b with
      | false =>
        have hok : tOk s = false := by rw [tOk_eq, ← Bool.and_assoc, ← hb, Bool.false_and]
        have e3 : a3 s = a2 s := by unfold a3; rw [if_neg (by rw [hok]; decide)]
        have hj := j0_no s hs (a2 s) l2 (tD s).1 (tG s)
        rw [if_neg (show ¬ tOk s = true by rw [hok]; decide)]
        unfold a4
        rw [e3]
        exact hj
      | true =>
        have hok : tOk s = decide (0 < (tT s).2) := by rw [tOk_eq, ← Bool.and_assoc, ← hb, Bool.true_and]
        have l6 := ttl_le (s.drop (a2 s + tG s))
        rw [List.length_drop] at l6
        have lT : a2 s + tG s + (tT s).2 ≤ s.length := by
          have l7 : (tT s).2 ≤ s.length - (a2 s + tG s) := l6
          omega
        have hj := j0_yes s hs (a2 s) (tG s) l2 l3 (tD s).1 (tT s) rfl lT
        by_cases ht : 0 < (tT s).2
        · rw [decide_eq_true ht] at hok
          have e3 : a3 s = a2 s + tG s + (tT s).2 := by unfold a3; rw [if_pos hok]
          rw [if_pos ht, ← e3] at hj
          rw [if_pos hok]
          exact hj
        · rw [decide_eq_false ht] at hok
          have e3 : a3 s = a2 s := by unfold a3; rw [if_neg (by rw [hok]; decide)]
          rw [if_neg ht] at hj
          rw [if_neg (show ¬ tOk s = true by rw [hok]; decide)]
          unfold a4
          rw [e3]
          exact hj
    unfold link_Tail.f
    refine Ev.congr (f := fun k => link_Tail.j0 k (B s) (a2 s : Int) (B (tD s).1) (B []) (tG s : Int) (decide (0 < (tD s).2.1) && decide (0 < tG s))) (fun k => ?_) (hj0 _ rfl)
    rw [hp_one, Option.bind_some, if_pos (decide_eq_true h40), if_pos (show (1 : Int) ≤ _ from szl (n := 1) h0), x1, white_f _ (dlen2 s 1 hs), Option.bind_some, w1, if_pos (nn _), if_pos (szl l1), x2, hdf, Option.bind_some]
    dsimp only
    rw [w2, if_pos (nn _), if_pos (szl l2), x3, white_f _ (dlen2 s _ hs), Option.bind_some]
    have hg : decide (((wht (s.drop (a2 s)) : Nat) : Int) > 0) = decide (0 < tG s) := decide_eq_decide.2 ⟨fun h => by have h2 : ((tG s : Nat) : Int) > 0 := h; omega, fun h => ipos h⟩
    by_cases hd : 0 < (tD s).2.1
    · rw [if_pos (ipos hd), decide_eq_true hd, Bool.true_and, hg]
      rfl
    · rw [if_neg (inpos hd), decide_eq_false hd, Bool.false_and]
      rfl
  · have ht : tlr s = ([], [], 0) := by unfold tlr; rw [if_neg h40]
    rw [ht]
    unfold link_Tail.f
    refine Ev.congr (f := fun _ => some (B [], B [], 0)) (fun k => ?_) (Ev.now _)
    rw [hp_one, Option.bind_some, if_neg (by rw [decide_eq_false h40]; decide)]
    rfl
theorem awake_at : incipitlaw09_awake.f 8 = some true := by decide +kernel
theorem awake_ev : Ev (fun k => incipitlaw09_awake.f k) true := Ev.of incipitlaw09_awake.mono awake_at
end Go.Proofs.YtjobchgncdgfaaaGreatDoor.Pure

namespace Go.Proofs.YtjobchgncdgfaaaGreatDoor.Pure
open Go.RowKit Go.Proofs.YtjobchgncdgfaaaGreatDoorW.PrintWords Go.Proofs.YtjobchgncdgfaaaGreatDoorW.PrintMore Go.Proofs.YtjobchgncdgfaaaGreatDoor.Pl Go.Proofs.YtjobchgncdgfaaaGreatDoor.PA

theorem each_stop (p : UInt8 → Bool) (hp : p 92 = false) (y : UInt8) (t : List UInt8) (h : p y = true) : eachL p (y :: t) = 0 := by
  rw [each_one p y t (fun e => by rw [e, hp] at h; cases h), if_pos h]
theorem each_plain (p : UInt8 → Bool) : ∀ (s t : List UInt8), (∀ x ∈ s, x ≠ 92 ∧ p x = false) → eachL p (s ++ t) = s.length + eachL p t
  | [], t, _ => by simp
  | x :: s, t, h => by
    have hx := h x (by simp)
    rw [List.cons_append, each_one p x _ (fun e => absurd e hx.1), if_neg (by rw [hx.2]; decide), each_plain p s t (fun y hy => h y (by simp [hy])), List.length_cons]
    omega
theorem wht_all (s : List UInt8) : wht s = s.length ↔ s.all wsp = true := by
  induction s with
  | nil => simp [wht_nil]
  | cons x t ih =>
    have := wht_le t
    rw [wht_cons, List.all_cons, List.length_cons]
    cases hx : wsp x with
    | true => rw [if_pos rfl, Bool.true_and, ← ih]; omega
    | false => rw [if_neg (by decide), Bool.false_and]; constructor <;> intro h; omega; cases h
theorem lab_at (s t : List UInt8) (y : UInt8) (he : eachL pLab (s ++ y :: t) = s.length) :
    lab (91 :: (s ++ y :: t)) = if y = 91 ∨ 999 < s.length ∨ wht s = s.length then ([], 0) else (s, s.length + 2) := by
  have h1 : (s ++ y :: t).drop s.length = y :: t := List.drop_left' rfl
  have h2 : (s ++ y :: t).take s.length = s := List.take_left' rfl
  have e : lab (91 :: (s ++ y :: t)) = match (s ++ y :: t).drop (eachL pLab (s ++ y :: t)) with
      | [] => ([], 0)
      | z :: _ => if z = 91 ∨ 999 < eachL pLab (s ++ y :: t) ∨ wht ((s ++ y :: t).take (eachL pLab (s ++ y :: t))) = eachL pLab (s ++ y :: t) then ([], 0) else ((s ++ y :: t).take (eachL pLab (s ++ y :: t)), eachL pLab (s ++ y :: t) + 2) := rfl
  rw [e, he, h1, h2]
theorem lab_no (x : UInt8) (t : List UInt8) (h : x ≠ 91) : lab (x :: t) = ([], 0) := if_neg h
theorem pLab_92 : pLab 92 = false := by decide
theorem pAng_92 : pAng 92 = false := by decide
theorem pTit_92 (e : UInt8) (h : e ≠ 92) : pTit e 92 = false := by unfold pTit; rw [decide_eq_false (fun x => h x.symm)]; rfl
theorem cls_ne (s : List UInt8) : cls s ≠ 92 := by
  cases s with
  | nil => decide
  | cons x t =>
    rw [cls_cons]
    by_cases h : x = 34
    · rw [if_pos h, h]; decide
    · rw [if_neg h]
      by_cases h : x = 39
      · rw [if_pos h, h]; decide
      · rw [if_neg h]
        by_cases h : x = 40
        · rw [if_pos h]; decide
        · rw [if_neg h]; decide
theorem lab_plain (x : UInt8) : pLab x = false ↔ x ≠ 91 ∧ x ≠ 93 := by
  unfold pLab
  rw [Bool.or_eq_false_iff, decide_eq_false_iff_not, decide_eq_false_iff_not]
theorem gp_none : ∀ (t : List UInt8) (b : Bool), (10 : UInt8) ∉ t → gp b t = false
  | [], _, _ => rfl
  | x :: t, b, h => by
    rw [List.mem_cons, not_or] at h
    rw [gp, if_neg (fun e => h.1 e.symm), gp_none t _ h.2]
theorem dst_plain : ∀ (s : List UInt8) (y : UInt8) (t : List UInt8) (o : Nat) (d : Bool), (∀ x ∈ s, x ≠ 92 ∧ 32 < x.toNat ∧ x ≠ 127 ∧ x ≠ 40 ∧ x ≠ 41) → dstp o y = true → dstL (s ++ y :: t) o d = (s.length, o, d)
  | [], y, t, o, d, _, hy => by
    rw [List.nil_append, dst_one y t o d (fun e => by rw [e, dstp_92] at hy; cases hy), if_pos hy]
    rfl
  | x :: s, y, t, o, d, h, hy => by
    obtain ⟨h1, h2, h3, h4, h5⟩ := h x (by simp)
    have hp : dstp o x = false := by
      unfold dstp
      rw [decide_eq_false (by omega), decide_eq_false h3, decide_eq_false h5]
      rfl
    have ho : dsto o x = o := by unfold dsto; rw [if_neg h5, if_neg h4]
    have hd : dstd o d x = d := by unfold dstd; rw [if_neg h4]
    rw [List.cons_append, dst_one x _ o d (fun e => absurd e h1), if_neg (by rw [hp]; decide), ho, hd, dst_plain s y t o d (fun z hz => h z (by simp [hz])) hy, List.length_cons]
/-- Is a byte a small letter or a digit? -/
def okA (x : UInt8) : Prop := 97 ≤ x.toNat ∧ x.toNat ≤ 122 ∨ 48 ≤ x.toNat ∧ x.toNat ≤ 57
theorem okA_ne {x : UInt8} (h : okA x) (n : Nat) (hn : n < 256) (h2 : ¬ (97 ≤ n ∧ n ≤ 122 ∨ 48 ≤ n ∧ n ≤ 57)) : x ≠ UInt8.ofNat n := by
  rintro rfl
  unfold okA at h
  rw [UInt8.toNat_ofNat'] at h
  omega
theorem okA_all {x : UInt8} (h : okA x) : x ≠ 92 ∧ x ≠ 38 ∧ x ≠ 127 ∧ x ≠ 40 ∧ x ≠ 41 ∧ x ≠ 60 ∧ x ≠ 62 ∧ x ≠ 10 ∧ x ≠ 34 ∧ x ≠ 39 ∧ x ≠ 32 ∧ x ≠ 9 ∧ x ≠ 91 ∧ x ≠ 93 ∧ x ≠ 58 ∧ 32 < x.toNat :=
  ⟨okA_ne h 92 (by decide) (by decide), okA_ne h 38 (by decide) (by decide), okA_ne h 127 (by decide) (by decide), okA_ne h 40 (by decide) (by decide), okA_ne h 41 (by decide) (by decide), okA_ne h 60 (by decide) (by decide), okA_ne h 62 (by decide) (by decide), okA_ne h 10 (by decide) (by decide), okA_ne h 34 (by decide) (by decide), okA_ne h 39 (by decide) (by decide), okA_ne h 32 (by decide) (by decide), okA_ne h 9 (by decide) (by decide), okA_ne h 91 (by decide) (by decide), okA_ne h 93 (by decide) (by decide), okA_ne h 58 (by decide) (by decide), by unfold okA at h; omega⟩
theorem une_okA (s : List UInt8) (h : ∀ x ∈ s, okA x) : une s = s := by
  have e := une_cut s [] (fun x hx => ⟨(okA_all (h x hx)).1, (okA_all (h x hx)).2.1⟩)
  rw [List.append_nil, une_nil, List.append_nil] at e
  exact e
theorem wsp_okA {x : UInt8} (h : okA x) : wsp x = false := by
  obtain ⟨_, _, _, _, _, _, _, h10, _, _, h32, h9, _⟩ := okA_all h
  unfold wsp
  rw [decide_eq_false h32, decide_eq_false h9, decide_eq_false h10]
  rfl
/-- An address of letters, with an end behind it. -/
theorem dst_okA (s : List UInt8) (y : UInt8) (t : List UInt8) (h : ∀ x ∈ s, okA x) (hne : s ≠ []) (hy : dstp 0 y = true) : dst (s ++ y :: t) = (s, s.length, true) := by
  have hd := dst_plain s y t 0 false (fun x hx => by obtain ⟨a, _, b, c, d, _, _, _, _, _, _, _, _, _, _, e⟩ := okA_all (h x hx); exact ⟨a, e, b, c, d⟩) hy
  have hh : (s ++ y :: t).head? ≠ some 60 := by
    cases s with
    | nil => exact absurd rfl hne
    | cons z r => intro e; obtain rfl := Option.some.inj e; exact (okA_all (h 60 (by simp))).2.2.2.2.2.1 rfl
  have hl : s.length ≠ 0 := fun e => hne (List.length_eq_zero_iff.1 e)
  unfold dst
  rw [if_neg hh, hd]
  simp only
  rw [if_neg (by rintro (h | h | h); exact hl h; exact absurd h (by decide); cases h), List.take_left' rfl, une_okA s h]
/-- An address of letters in brackets. -/
theorem ang_okA (s t : List UInt8) (h : ∀ x ∈ s, okA x) : dst (60 :: (s ++ 62 :: t)) = (s, s.length + 2, true) := by
  have he : eachL pAng (s ++ 62 :: t) = s.length := by
    rw [each_plain pAng s _ (fun x hx => ?_), each_stop pAng pAng_92 62 t (by decide), Nat.add_zero]
    obtain ⟨a, _, _, _, _, h1, h2, h3, _⟩ := okA_all (h x hx)
    refine ⟨a, ?_⟩
    unfold pAng
    rw [decide_eq_false h1, decide_eq_false h2, decide_eq_false h3]
    rfl
  have e : dst (60 :: (s ++ 62 :: t)) = ang (s ++ 62 :: t) := if_pos rfl
  have e2 : ang (s ++ 62 :: t) = match (s ++ 62 :: t).drop (eachL pAng (s ++ 62 :: t)) with
      | [] => ([], 0, false)
      | y :: _ => if y = 62 then (une ((s ++ 62 :: t).take (eachL pAng (s ++ 62 :: t))), eachL pAng (s ++ 62 :: t) + 2, true) else ([], 0, false) := rfl
  rw [e, e2, he, List.drop_left' rfl, List.take_left' rfl]
  simp only
  rw [if_pos trivial, une_okA s h]
/-- A title of letters in quotes. -/
theorem ttl_okA (q : UInt8) (s t : List UInt8) (hq : q = 34 ∨ q = 39 ∨ q = 40) (h : ∀ x ∈ s, okA x) : ttl (q :: (s ++ (if q = 40 then 41 else q) :: t)) = (s, s.length + 2) := by
  obtain ⟨c, hc⟩ : ∃ c : UInt8, (if q = 40 then 41 else q) = c := ⟨_, rfl⟩
  have hcl : ∀ r, cls (q :: r) = c := by
    intro r
    unfold cls
    rcases hq with rfl | rfl | rfl <;> exact hc
  have hc2 : c = 34 ∨ c = 39 ∨ c = 41 := by rcases hq with rfl | rfl | rfl <;> subst hc <;> decide
  have hc0 : c ≠ 0 := by rcases hc2 with rfl | rfl | rfl <;> decide
  have hc92 : c ≠ 92 := by rcases hc2 with rfl | rfl | rfl <;> decide
  rw [hc]
  have he : eachL (pTit c) (s ++ c :: t) = s.length := by
    rw [each_plain (pTit c) s _ (fun x hx => ?_), each_stop (pTit c) (pTit_92 c hc92) c t (by unfold pTit; rw [decide_eq_true rfl]; rfl), Nat.add_zero]
    obtain ⟨a, _, _, h40, h41, _, _, _, h34, h39, _⟩ := okA_all (h x hx)
    refine ⟨a, ?_⟩
    unfold pTit
    rw [decide_eq_false h40, decide_eq_false (by rcases hc2 with rfl | rfl | rfl; exact h34; exact h39; exact h41)]
    rfl
  have e : ttl (q :: (s ++ c :: t)) = if cls (q :: (s ++ c :: t)) = 0 then ([], 0) else
      match (s ++ c :: t).drop (eachL (pTit (cls (q :: (s ++ c :: t)))) (s ++ c :: t)) with
      | [] => ([], 0)
      | y :: _ => if y = cls (q :: (s ++ c :: t)) then (if gp false ((s ++ c :: t).take (eachL (pTit (cls (q :: (s ++ c :: t)))) (s ++ c :: t))) = true then ([], 0) else (une ((s ++ c :: t).take (eachL (pTit (cls (q :: (s ++ c :: t)))) (s ++ c :: t))), eachL (pTit (cls (q :: (s ++ c :: t)))) (s ++ c :: t) + 2)) else ([], 0) := rfl
  rw [e, hcl, if_neg hc0, he, List.drop_left' rfl, List.take_left' rfl]
  simp only
  rw [if_pos trivial, gp_none s false (fun h10 => (okA_all (h 10 h10)).2.2.2.2.2.2.2.1 rfl), if_neg (by decide), une_okA s h]
end Go.Proofs.YtjobchgncdgfaaaGreatDoor.Pure
