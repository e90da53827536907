/-
  Texts of the proof of RefsPlain, part 3 of 6: contracts and plain laws. Conditions: see each statement.
-/
import Derived.Test.YtekifcbokdidlaaGreatDoorSRefsPlain2
import Derived.OneCell
import Derived.Test.YtekifcbokdidlaaGreatDoorSRefsPlain1
import Derived.Lib.SplitLaws
import Derived.Great.BuildSlice
import Derived.WalkLawsBesides
import Derived.BigQuiet
import Derived.Deep.QuietTactic
import Derived.Deep.RegionHeld3
import Derived.Lib.DecodeN
import Derived.Shelf.Unicode.DecodeSlow
import Derived.WalkKit
import Derived.BigCall
import Derived.Lib.BufferWrite
import Derived.Laws.IdiomStrings
import Derived.Lib.Hide
import Derived.Lib.FrozenHead
import Derived.Lib.OthersKept
import Derived.Lib.MapLaws
import Derived.Lib.QuoteLoop
import Derived.Lib.RuneCountTail
import Derived.Laws.Cover4
import Derived.Lib.Join
import Derived.Lib.FieldsP
set_option linter.unusedVariables false
namespace Go.Proofs.YtekifcbokdidlaaGreatDoor.PA
open Go.RowKit Go.Proofs.YtekifcbokdidlaaGreatDoor.Pl Go.Proofs.YtekifcbokdidlaaGreatDoor.Pure Go.Proofs.YtekifcbokdidlaaGreatDoorW.PrintWords Go.Proofs.YtekifcbokdidlaaGreatDoorW.PrintLast Go.Proofs.YtekifcbokdidlaaGreatDoorW.PrintMore
set_option linter.unusedVariables false

/-- The title's end. -/
def pTit (en x : UInt8) : Bool := decide (x = en) || (decide (x = 40) && decide (en = 41))
theorem tit1 (x en : UInt8) (b : Nat) (w : World) (hc : w.cell? ⟨b,0,none⟩ = some (.int .u8 (en.toNat : Int))) : Calls Tryz.prog 79 #[.int .u8 (x.toNat : Int),.pointer (some ⟨b,0,none⟩)] w fun e w' => e = .returned (.bool (pTit en x)) ∧ w = w' := by
  have e0 : ((x.toNat : Int) = (en.toNat : Int)) ↔ x = en := ⟨fun h => UInt8.toNat_inj.1 (by omega),fun h => by rw [h]⟩
  have e1 : ((x.toNat : Int) = 40) ↔ x = 40 := u8_eq _ 40 (by omega)
  have e2 : ((en.toNat : Int) = 41) ↔ en = 41 := u8_eq _ 41 (by omega)
  by_cases h0 : x = en
  · have HD := Lib.hid (show pTit en x = true by unfold pTit;rw [decide_eq_true h0];rfl)
    have q0 : ((x.toNat : Int) == (en.toNat : Int)) = true := beq_iff_eq.2 (e0.2 h0)
    clear h0
    clear e0 e1 e2
    go_enter Tryz.func79,Tryz.ntmps79
    go_wp2
    go_ret
    exact ⟨congrArg (fun z => Ending.returned (.bool z)) HD.out.symm,rfl⟩
  · have q0 : ((x.toNat : Int) == (en.toNat : Int)) = false := beq_eq_false_iff_ne.2 (fun e => h0 (e0.1 e))
    by_cases h1 : x = 40
    · have q1 : ((x.toNat : Int) == 40) = true := beq_iff_eq.2 (e1.2 h1)
      by_cases h2 : en = 41
      · have HD := Lib.hid (show pTit en x = true by unfold pTit;rw [decide_eq_true h1,decide_eq_true h2,Bool.and_self,Bool.or_true])
        have q2 : ((en.toNat : Int) == 41) = true := beq_iff_eq.2 (e2.2 h2)
        clear h0 h1 h2
        clear e0 e1 e2
        go_enter Tryz.func79,Tryz.ntmps79
        go_wp2
        go_ret
        exact ⟨congrArg (fun z => Ending.returned (.bool z)) HD.out.symm,rfl⟩
      · have HD := Lib.hid (show pTit en x = false by unfold pTit;rw [decide_eq_false h0,decide_eq_false h2,Bool.and_false];rfl)
        have q2 : ((en.toNat : Int) == 41) = false := beq_eq_false_iff_ne.2 (fun e => h2 (e2.1 e))
        clear h0 h1 h2
        clear e0 e1 e2
        go_enter Tryz.func79,Tryz.ntmps79
        go_wp2
        go_ret
        exact ⟨congrArg (fun z => Ending.returned (.bool z)) HD.out.symm,rfl⟩
    · have HD := Lib.hid (show pTit en x = false by unfold pTit;rw [decide_eq_false h0,decide_eq_false h1];rfl)
      have q1 : ((x.toNat : Int) == 40) = false := beq_eq_false_iff_ne.2 (fun e => h1 (e1.1 e))
      clear h0 h1
      clear e0 e1 e2
      go_enter Tryz.func79,Tryz.ntmps79
      go_wp2
      go_ret
      exact ⟨congrArg (fun z => Ending.returned (.bool z)) HD.out.symm,rfl⟩
set_option maxHeartbeats 4000000 in
set_option maxRecDepth 100000 in
theorem each_tit (s : List UInt8) (hs : s.length ≤ 1099511627776) (f : Nat) (hf : f ≤ s.length) (b : Nat) (en : UInt8) (w : World) (hbx : b < w.heap.size) (hcx : w.cell? ⟨b,0,none⟩ = some (.int .u8 (en.toNat : Int))) : Calls Tryz.prog 45 #[.string (B s),.int .i64 f,.func (.func 79) #[] #[.pointer (some ⟨b,0,none⟩)]] w fun e w' => e = .returned (.int .i64 ((f + eachL (pTit en) (s.drop f) : Nat) : Int)) ∧ Below w.heap.size w w' := by
  have hsz : (B s).size = s.length := B_size s
  obtain ⟨R,hR⟩ : ∃ R,f + eachL (pTit en) (s.drop f) = R := ⟨_,rfl⟩
  rw [hR]
  go_enter Tryz.func45,Tryz.ntmps45
  go_wp2
  go_loopw [7] (fun vi wr => ∃ k : Nat,vi = .int .i64 k ∧ k ≤ s.length ∧ Hid (k + eachL (pTit en) (s.drop k) = R) ∧ Hid (Below w.heap.size w wr))
    (fun vi _ => s.length - (intOf vi).toNat)
  case atStart => exact ⟨f,rfl,hf,hR,Below.refl _ _⟩
  case round =>
    obtain ⟨k,rfl,hk,HA,HB⟩ := hrel
    by_cases hkn : k < s.length
    · have hks : k < (B s).size := by omega
      have hi : (B s)[k]'hks = s[k] := List.getElem_toArray hkn
      obtain ⟨x,hx⟩ : ∃ x,s[k] = x := ⟨_,rfl⟩
      have hdr : s.drop k = x :: s.drop (k + 1) := by rw [← hx];exact List.drop_eq_getElem_cons hkn
      rw [hx] at hi
      have hA := HA.out
      rw [hdr] at hA
      have hsz2 := HB.out.size
      by_cases h92 : x = 92
      · have q : (((x.toNat : Nat) : Int) == 92) = true := by rw [h92];rfl
        by_cases hk1 : k + 1 < s.length
        · have hks1 : k + 1 < (B s).size := by omega
          have hi1 : (B s)[k + 1]'hks1 = s[k + 1] := List.getElem_toArray hk1
          have q1 : decide ((k : Int) + 1 < (s.length : Int)) = true := decide_eq_true (by omega)
          obtain ⟨y,hy⟩ : ∃ y,s[k + 1] = y := ⟨_,rfl⟩
          have hdr2 : s.drop (k + 1) = y :: s.drop (k + 2) := by rw [← hy];exact List.drop_eq_getElem_cons hk1
          rw [hy] at hi1
          rw [hdr2] at hA
          have HS := Lib.hid (sign_any y wr)
          cases hsg : sgn y with
          | true =>
            rw [each_esc (pTit en) x y _ h92 hsg] at hA
            have HR := Lib.hid (show (k + 2) + eachL (pTit en) (s.drop (k + 2)) = R by omega)
            clear hA hdr hdr2 h92 hx hy
            go_wp2_with fail
            refine HS.out.mono ?_
            rintro e w2 ⟨rfl,hb2⟩
            rw [hsg]
            have HB2 := Lib.hid (HB.out.trans (hb2.mono hsz2))
            clear hb2 HS hsg HB
            go_wp2
            go_roundw
            case rel => exact ⟨k + 2,by go_num,by omega,HR,HB2⟩
            case measure => simp [intOf];omega
          | false =>
            rw [each_one (pTit en) x _ (fun _ y' u e => by cases e;exact hsg),← hdr2] at hA
            clear hdr hdr2 h92 hx hy
            go_wp2_with fail
            refine HS.out.mono ?_
            rintro e w2 ⟨rfl,hb2⟩
            rw [hsg]
            have HB2 := Lib.hid (HB.out.trans (hb2.mono hsz2))
            clear hb2 HS hsg HB
            go_wp2_with fail
            refine (tit1 x en b _ ((HB2.out.cell (p := ⟨b,0,none⟩) hbx).trans hcx)).mono ?_
            rintro e w3 ⟨rfl,rfl⟩
            cases hp : (pTit en) x with
            | true =>
              rw [hp,if_pos rfl] at hA
              have HR := Lib.hid hA
              clear hA hp
              go_wp2
              go_ret
              exact ⟨congrArg (fun z => Ending.returned (.int .i64 z)) (by have := HR.out;omega),HB2.out⟩
            | false =>
              rw [hp,if_neg (by decide)] at hA
              have HR := Lib.hid (show (k + 1) + eachL (pTit en) (s.drop (k + 1)) = R by omega)
              clear hA hp
              go_wp2
              go_roundw
              case rel => exact ⟨k + 1,by go_num,by omega,HR,HB2⟩
              case measure => simp [intOf];omega
        · have q1 : decide ((k : Int) + 1 < (s.length : Int)) = false := decide_eq_false (by omega)
          have hnil : s.drop (k + 1) = [] := List.drop_of_length_le (by omega)
          rw [each_one (pTit en) x _ (fun _ y' u e => by rw [hnil] at e;cases e)] at hA
          clear hdr h92 hx hnil
          go_wp2_with fail
          refine (tit1 x en b _ ((HB.out.cell (p := ⟨b,0,none⟩) hbx).trans hcx)).mono ?_
          rintro e w3 ⟨rfl,rfl⟩
          cases hp : (pTit en) x with
          | true =>
            rw [hp,if_pos rfl] at hA
            have HR := Lib.hid hA
            clear hA hp
            go_wp2
            go_ret
            exact ⟨congrArg (fun z => Ending.returned (.int .i64 z)) (by have := HR.out;omega),HB.out⟩
          | false =>
            rw [hp,if_neg (by decide)] at hA
            have HR := Lib.hid (show (k + 1) + eachL (pTit en) (s.drop (k + 1)) = R by omega)
            clear hA hp
            go_wp2
            go_roundw
            case rel => exact ⟨k + 1,by go_num,by omega,HR,HB⟩
            case measure => simp [intOf];omega
      · have q : (((x.toNat : Nat) : Int) == 92) = false := beq_eq_false_iff_ne.2 (fun e => h92 ((u8_eq x 92 (by omega)).1 e))
        rw [each_one (pTit en) x _ (fun e => absurd e h92)] at hA
        clear hdr h92 hx
        go_wp2_with fail
        refine (tit1 x en b _ ((HB.out.cell (p := ⟨b,0,none⟩) hbx).trans hcx)).mono ?_
        rintro e w3 ⟨rfl,rfl⟩
        cases hp : (pTit en) x with
        | true =>
          rw [hp,if_pos rfl] at hA
          have HR := Lib.hid hA
          clear hA hp
          go_wp2
          go_ret
          exact ⟨congrArg (fun z => Ending.returned (.int .i64 z)) (by have := HR.out;omega),HB.out⟩
        | false =>
          rw [hp,if_neg (by decide)] at hA
          have HR := Lib.hid (show (k + 1) + eachL (pTit en) (s.drop (k + 1)) = R by omega)
          clear hA hp
          go_wp2
          go_roundw
          case rel => exact ⟨k + 1,by go_num,by omega,HR,HB⟩
          case measure => simp [intOf];omega
    · have hnil : s.drop k = [] := List.drop_of_length_le (by omega)
      have HR := Lib.hid (show s.length = R by have := HA.out;rw [hnil] at this;simp [eachL] at this;omega)
      clear HA hnil
      go_wp2
      go_ret
      exact ⟨congrArg (fun z => Ending.returned (.int .i64 z)) (by have := HR.out;omega),HB.out⟩
end Go.Proofs.YtekifcbokdidlaaGreatDoor.PA

namespace Go.Proofs.YtekifcbokdidlaaGreatDoor.PA
open Go.RowKit Go.Proofs.YtekifcbokdidlaaGreatDoor.Pl Go.Proofs.YtekifcbokdidlaaGreatDoor.Pure Go.Proofs.YtekifcbokdidlaaGreatDoorW.PrintWords Go.Proofs.YtekifcbokdidlaaGreatDoorW.PrintLast Go.Proofs.YtekifcbokdidlaaGreatDoorW.PrintMore
set_option linter.unusedVariables false

/-- Does an address end at a byte? -/
def dstp (o : Nat) (x : UInt8) : Bool := decide (x.toNat ≤ 32) || (decide (x = 127) || (decide (x = 41) && decide (o = 0)))
/-- How many are open behind a byte. -/
def dsto (o : Nat) (x : UInt8) : Nat := if x = 41 then o - 1 else if x = 40 then o + 1 else o
/-- Were they too deep? -/
def dstd (o : Nat) (d : Bool) (x : UInt8) : Bool := if x = 40 then d || decide (32 < o + 1) else d
/-- How far an address goes, how many are open there, and whether they were too deep. -/
def dstL : List UInt8 → Nat → Bool → Nat × Nat × Bool
  | [],o,d => (0,o,d)
  | [x],o,d => if dstp o x = true then (0,o,d) else (1,dsto o x,dstd o d x)
  | x :: y :: t,o,d => if x = 92 ∧ sgn y = true then ((dstL t o d).1 + 2,(dstL t o d).2) else if dstp o x = true then (0,o,d) else ((dstL (y :: t) (dsto o x) (dstd o d x)).1 + 1,(dstL (y :: t) (dsto o x) (dstd o d x)).2)
theorem dst_esc (x y : UInt8) (t : List UInt8) (o : Nat) (d : Bool) (h : x = 92) (h2 : sgn y = true) : dstL (x :: y :: t) o d = ((dstL t o d).1 + 2,(dstL t o d).2) := by rw [dstL,if_pos ⟨h,h2⟩]
theorem dst_one (x : UInt8) (t : List UInt8) (o : Nat) (d : Bool) (h : x = 92 → ∀ y u,t = y :: u → sgn y = false) :
    dstL (x :: t) o d = if dstp o x = true then (0,o,d) else ((dstL t (dsto o x) (dstd o d x)).1 + 1,(dstL t (dsto o x) (dstd o d x)).2) := by
  cases t with
  | nil => rfl
  | cons y u =>
    rw [dstL,if_neg]
    rintro ⟨h1,h2⟩
    rw [h h1 y u rfl] at h2
    cases h2
/-- Two boxes. -/
def Box2 (b : Nat) (o : Nat) (d : Bool) (W : World) : Prop :=
  W.heap[b]? = some (.cells #[.int .i64 (o : Int)] 3 (0,0)) ∧ W.heap[b + 1]? = some (.cells #[.bool d] 4 (0,0))
theorem two_other {w : World} {b k : Nat} {u : Value} (h : k ≠ b) : (w.setCell ⟨b,0,none⟩ u).heap[k]? = w.heap[k]? := Below.heap_setCell _ _ _ _ h
theorem box2_o {b o : Nat} {d : Bool} {W : World} (v : Nat) (h : Box2 b o d W) : Box2 b v d (W.setCell ⟨b,0,none⟩ (.int .i64 (v : Int))) :=
  ⟨one_setCell h.1,(two_other (by omega)).trans h.2⟩
theorem box2_d {b o : Nat} {d : Bool} {W : World} (v : Bool) (h : Box2 b o d W) : Box2 b o v (W.setCell ⟨b + 1,0,none⟩ (.bool v)) :=
  ⟨(two_other (by omega)).trans h.1,one_setCell h.2⟩
theorem box2_lt {b o : Nat} {d : Bool} {W : World} (h : Box2 b o d W) : b + 1 < W.heap.size := by
  rcases Nat.lt_or_ge (b + 1) W.heap.size with h1 | h1
  · exact h1
  · have := h.2
    rw [Array.getElem?_eq_none h1] at this
    cases this
theorem box2_below {b o : Nat} {d : Bool} {W W' : World} (h : Box2 b o d W) (hb : Below W.heap.size W W') : Box2 b o d W' := by
  have hl := box2_lt h
  exact ⟨(hb.block b (by omega)).trans h.1,(hb.block (b + 1) hl).trans h.2⟩
theorem dst1_stop (x : UInt8) (o : Nat) (d : Bool) (b : Nat) (W : World) (h : Box2 b o d W) (hp : dstp o x = true) (ho : o ≤ 1099511627776) :
    Calls Tryz.prog 51 #[.int .u8 (x.toNat : Int),.pointer (some ⟨b,0,none⟩),.pointer (some ⟨b + 1,0,none⟩)] W fun e w' => e = .returned (.bool true) ∧ w' = W := by
  have c1 := cell_of_one h.1
  have e1 : ((x.toNat : Int) = 127) ↔ x = 127 := u8_eq _ 127 (by omega)
  have e2 : ((x.toNat : Int) = 41) ↔ x = 41 := u8_eq _ 41 (by omega)
  by_cases h0 : x.toNat ≤ 32
  · have q0 : decide ((x.toNat : Int) ≤ 32) = true := decide_eq_true (by omega)
    clear hp h e1 e2 h0
    go_enter Tryz.func51,Tryz.ntmps51
    go_wp2
    go_ret
    exact ⟨rfl,rfl⟩
  · have q0 : decide ((x.toNat : Int) ≤ 32) = false := decide_eq_false (by omega)
    by_cases h1 : x = 127
    · have q1 : ((x.toNat : Int) == 127) = true := beq_iff_eq.2 (e1.2 h1)
      clear hp h e1 e2 h0 h1
      go_enter Tryz.func51,Tryz.ntmps51
      go_wp2
      go_ret
      exact ⟨rfl,rfl⟩
    · have q1 : ((x.toNat : Int) == 127) = false := beq_eq_false_iff_ne.2 (fun e => h1 (e1.1 e))
      unfold dstp at hp
      rw [decide_eq_false h0,decide_eq_false h1,Bool.false_or,Bool.false_or,Bool.and_eq_true,decide_eq_true_eq,decide_eq_true_eq] at hp
      obtain ⟨h2,rfl⟩ := hp
      have q2 : ((x.toNat : Int) == 41) = true := beq_iff_eq.2 (e2.2 h2)
      have q3 : (((0 : Nat) : Int) == 0) = true := rfl
      clear h e1 e2 h0 h1 h2
      go_enter Tryz.func51,Tryz.ntmps51
      go_wp2
      go_ret
      exact ⟨rfl,rfl⟩
set_option maxHeartbeats 1000000 in
theorem dst1_go (x : UInt8) (o : Nat) (d : Bool) (b : Nat) (W : World) (h : Box2 b o d W) (hp : dstp o x = false) (ho : o ≤ 1099511627776) :
    Calls Tryz.prog 51 #[.int .u8 (x.toNat : Int),.pointer (some ⟨b,0,none⟩),.pointer (some ⟨b + 1,0,none⟩)] W
      fun e w' => e = .returned (.bool false) ∧ Box2 b (dsto o x) (dstd o d x) w' ∧ Below b W w' := by
  have HX := Aside0.mk h
  have c1 := cell_of_one h.1
  have f1 := free_of_one h.1
  have e1 : ((x.toNat : Int) = 127) ↔ x = 127 := u8_eq _ 127 (by omega)
  have e2 : ((x.toNat : Int) = 41) ↔ x = 41 := u8_eq _ 41 (by omega)
  have e3 : ((x.toNat : Int) = 40) ↔ x = 40 := u8_eq _ 40 (by omega)
  unfold dstp at hp
  simp only [Bool.or_eq_false_iff,Bool.and_eq_false_iff,decide_eq_false_iff_not] at hp
  obtain ⟨h0,h1,h4⟩ := hp
  have q0 : decide ((x.toNat : Int) ≤ 32) = false := decide_eq_false (by omega)
  have q1 : ((x.toNat : Int) == 127) = false := beq_eq_false_iff_ne.2 (fun e => h1 (e1.1 e))
  by_cases h2 : x = 41
  · have ho0 : o ≠ 0 := by rcases h4 with h4 | h4;exact absurd h2 h4;exact h4
    have q2 : ((x.toNat : Int) == 41) = true := beq_iff_eq.2 (e2.2 h2)
    have q3 : ((o : Int) == 0) = false := beq_eq_false_iff_ne.2 (by omega)
    have HO := Aside0.mk (show dsto o x = o - 1 ∧ dstd o d x = d ∧ (o : Int) - 1 = ((o - 1 : Nat) : Int) by subst h2;exact ⟨rfl,rfl,by omega⟩)
    clear h e1 e2 e3 h0 h1 h2 h4
    go_enter Tryz.func51,Tryz.ntmps51
    go_wp2
    go_ret
    rw [HO.out.1,HO.out.2.1,HO.out.2.2]
    exact ⟨rfl,box2_o _ HX.out,(Below.refl b W).setCell (p := ⟨b,0,none⟩) (Nat.le_refl _) _⟩
  · have q2 : ((x.toNat : Int) == 41) = false := beq_eq_false_iff_ne.2 (fun e => h2 (e2.1 e))
    by_cases h3 : x = 40
    · have q4 : ((x.toNat : Int) == 40) = true := beq_iff_eq.2 (e3.2 h3)
      have HO := Aside0.mk (show dsto o x = o + 1 ∧ dstd o d x = (d || decide (32 < o + 1)) by subst h3;exact ⟨rfl,rfl⟩)
      have B1 := Aside0.mk (box2_o (o + 1) h)
      have c2 := cell_of_one B1.out.2
      have f2 := free_of_one B1.out.2
      have c3 := cell_of_one B1.out.1
      rw [show ((o + 1 : Nat) : Int) = (o : Int) + 1 from rfl] at c2 f2 c3
      clear h e1 e2 e3 h0 h1 h2 h4 h3
      cases d with
      | true =>
        go_enter Tryz.func51,Tryz.ntmps51
        go_wp2
        go_ret
        rw [HO.out.1,HO.out.2]
        exact ⟨rfl,box2_d true (box2_o (o + 1) HX.out),((Below.refl b W).setCell (p := ⟨b,0,none⟩) (Nat.le_refl _) _).setCell (p := ⟨b + 1,0,none⟩) (Nat.le_succ _) _⟩
      | false =>
        have q5 : decide ((32 : Int) < (o : Int) + 1) = decide (32 < o + 1) := by
          by_cases hq : 32 < o + 1
          · rw [decide_eq_true hq];exact decide_eq_true (by omega)
          · rw [decide_eq_false hq];exact decide_eq_false (by omega)
        go_enter Tryz.func51,Tryz.ntmps51
        go_wp2
        go_ret
        rw [HO.out.1,HO.out.2]
        exact ⟨rfl,box2_d _ (box2_o (o + 1) HX.out),((Below.refl b W).setCell (p := ⟨b,0,none⟩) (Nat.le_refl _) _).setCell (p := ⟨b + 1,0,none⟩) (Nat.le_succ _) _⟩
    · have q4 : ((x.toNat : Int) == 40) = false := beq_eq_false_iff_ne.2 (fun e => h3 (e3.1 e))
      have HO := Aside0.mk (show dsto o x = o ∧ dstd o d x = d by unfold dsto dstd;rw [if_neg h2,if_neg h3,if_neg h3];exact ⟨rfl,rfl⟩)
      clear h e1 e2 e3 h0 h1 h2 h4 h3
      go_enter Tryz.func51,Tryz.ntmps51
      go_wp2
      go_ret
      rw [HO.out.1,HO.out.2]
      exact ⟨rfl,HX.out,Below.refl _ _⟩
theorem dsto_le (o : Nat) (x : UInt8) (k : Nat) (h : o ≤ k) : dsto o x ≤ k + 1 := by
  unfold dsto
  split
  · omega
  · split <;> omega
set_option maxHeartbeats 4000000 in
set_option maxRecDepth 100000 in
theorem each_dst (s : List UInt8) (hs : s.length ≤ 1099511627776) (b : Nat) (w : World) (hbx : Box2 b 0 false w) :
    Calls Tryz.prog 45 #[.string (B s),.int .i64 0,.func (.func 51) #[] #[.pointer (some ⟨b,0,none⟩),.pointer (some ⟨b + 1,0,none⟩)]] w
      fun e w' => e = .returned (.int .i64 (((dstL s 0 false).1 : Nat) : Int)) ∧ Box2 b (dstL s 0 false).2.1 (dstL s 0 false).2.2 w' ∧ Below b w w' := by
  have hsz : (B s).size = s.length := B_size s
  obtain ⟨R,hR⟩ : ∃ R,dstL s 0 false = R := ⟨_,rfl⟩
  rw [hR]
  have HX0 := Lib.hid hbx
  clear hbx
  go_enter Tryz.func45,Tryz.ntmps45
  go_wp2
  go_loopw [7] (fun vi wr => ∃ (k o : Nat) (d : Bool),vi = .int .i64 k ∧ k ≤ s.length ∧ Hid (o ≤ k) ∧ Hid ((k + (dstL (s.drop k) o d).1,(dstL (s.drop k) o d).2) = R) ∧ Hid (Box2 b o d wr) ∧ Hid (Below b w wr))
    (fun vi _ => s.length - (intOf vi).toNat)
  case atStart => exact ⟨0,0,false,rfl,by omega,Lib.hid (Nat.le_refl _),Lib.hid (by rw [List.drop_zero,hR];simp),HX0,Lib.hid (Below.refl _ _)⟩
  case round =>
    obtain ⟨k,o,d,rfl,hk,HO,HA,HX,HB⟩ := hrel
    have ho := HO.out
    by_cases hkn : k < s.length
    · have hks : k < (B s).size := by omega
      have hi : (B s)[k]'hks = s[k] := List.getElem_toArray hkn
      obtain ⟨x,hx⟩ : ∃ x,s[k] = x := ⟨_,rfl⟩
      have hdr : s.drop k = x :: s.drop (k + 1) := by rw [← hx];exact List.drop_eq_getElem_cons hkn
      rw [hx] at hi
      have hA := HA.out
      rw [hdr] at hA
      by_cases h92 : x = 92
      · have q : (((x.toNat : Nat) : Int) == 92) = true := by rw [h92];rfl
        by_cases hk1 : k + 1 < s.length
        · have hks1 : k + 1 < (B s).size := by omega
          have hi1 : (B s)[k + 1]'hks1 = s[k + 1] := List.getElem_toArray hk1
          have q1 : decide ((k : Int) + 1 < (s.length : Int)) = true := decide_eq_true (by omega)
          obtain ⟨y,hy⟩ : ∃ y,s[k + 1] = y := ⟨_,rfl⟩
          have hdr2 : s.drop (k + 1) = y :: s.drop (k + 2) := by rw [← hy];exact List.drop_eq_getElem_cons hk1
          rw [hy] at hi1
          rw [hdr2] at hA
          have HS := Lib.hid (sign_any y wr)
          have hlt := box2_lt HX.out
          cases hsg : sgn y with
          | true =>
            rw [dst_esc x y _ o d h92 hsg] at hA
            have HR := Lib.hid (show ((k + 2) + (dstL (s.drop (k + 2)) o d).1,(dstL (s.drop (k + 2)) o d).2) = R by rw [← hA];exact Prod.ext (by show _ = k + (_ + 2);omega) rfl)
            clear hA hdr hdr2 h92 hx hy
            go_wp2_with fail
            refine HS.out.mono ?_
            rintro e w2 ⟨rfl,hb2⟩
            rw [hsg]
            have HB2 := Lib.hid (HB.out.trans (hb2.mono (by omega)))
            have HX2 := Lib.hid (box2_below HX.out hb2)
            have HO2 := Lib.hid (show o ≤ k + 2 by omega)
            clear hb2 HS hsg HB hlt
            go_wp2
            go_roundw
            case rel => exact ⟨k + 2,o,d,by go_num,by omega,HO2,HR,HX2,HB2⟩
            case measure => simp [intOf];omega
          | false =>
            rw [dst_one x _ o d (fun _ y' u e => by cases e;exact hsg),← hdr2] at hA
            clear hdr hdr2 h92 hx hy
            go_wp2_with fail
            refine HS.out.mono ?_
            rintro e w2 ⟨rfl,hb2⟩
            rw [hsg]
            have HB2 := Lib.hid (HB.out.trans (hb2.mono (by omega)))
            have HX2 := Lib.hid (box2_below HX.out hb2)
            clear hb2 HS hsg HB hlt
            cases hp : dstp o x with
            | true =>
              rw [hp,if_pos rfl] at hA
              have HR := Lib.hid hA
              go_wp2_with fail
              refine (dst1_stop x o d b _ HX2.out hp (by omega)).mono ?_
              rintro e w3 ⟨rfl,rfl⟩
              clear hA hp
              go_wp2
              go_ret
              exact ⟨congrArg (fun z => Ending.returned (.int .i64 z)) (by have := HR.out;rw [← this];simp),by have := HR.out;rw [← this];exact HX2.out,HB2.out⟩
            | false =>
              rw [hp,if_neg (by decide)] at hA
              have HR := Lib.hid (show ((k + 1) + (dstL (s.drop (k + 1)) (dsto o x) (dstd o d x)).1,(dstL (s.drop (k + 1)) (dsto o x) (dstd o d x)).2) = R by rw [← hA];exact Prod.ext (by show _ = k + (_ + 1);omega) rfl)
              go_wp2_with fail
              refine (dst1_go x o d b _ HX2.out hp (by omega)).mono ?_
              rintro e w3 ⟨rfl,hx3,hb3⟩
              have HX3 := Lib.hid hx3
              have HB3 := Lib.hid (HB2.out.trans hb3)
              have HO3 := Lib.hid (dsto_le o x k ho)
              clear hA hp hx3 hb3
              go_wp2
              go_roundw
              case rel => exact ⟨k + 1,dsto o x,dstd o d x,by go_num,by omega,HO3,HR,HX3,HB3⟩
              case measure => simp [intOf];omega
        · have q1 : decide ((k : Int) + 1 < (s.length : Int)) = false := decide_eq_false (by omega)
          have hnil : s.drop (k + 1) = [] := List.drop_of_length_le (by omega)
          rw [dst_one x _ o d (fun _ y' u e => by rw [hnil] at e;cases e)] at hA
          clear hdr h92 hx hnil
          cases hp : dstp o x with
          | true =>
            rw [hp,if_pos rfl] at hA
            have HR := Lib.hid hA
            go_wp2_with fail
            refine (dst1_stop x o d b _ HX.out hp (by omega)).mono ?_
            rintro e w3 ⟨rfl,rfl⟩
            clear hA hp
            go_wp2
            go_ret
            exact ⟨congrArg (fun z => Ending.returned (.int .i64 z)) (by have := HR.out;rw [← this];simp),by have := HR.out;rw [← this];exact HX.out,HB.out⟩
          | false =>
            rw [hp,if_neg (by decide)] at hA
            have HR := Lib.hid (show ((k + 1) + (dstL (s.drop (k + 1)) (dsto o x) (dstd o d x)).1,(dstL (s.drop (k + 1)) (dsto o x) (dstd o d x)).2) = R by rw [← hA];exact Prod.ext (by show _ = k + (_ + 1);omega) rfl)
            go_wp2_with fail
            refine (dst1_go x o d b _ HX.out hp (by omega)).mono ?_
            rintro e w3 ⟨rfl,hx3,hb3⟩
            have HX3 := Lib.hid hx3
            have HB3 := Lib.hid (HB.out.trans hb3)
            have HO3 := Lib.hid (dsto_le o x k ho)
            clear hA hp hx3 hb3
            go_wp2
            go_roundw
            case rel => exact ⟨k + 1,dsto o x,dstd o d x,by go_num,by omega,HO3,HR,HX3,HB3⟩
            case measure => simp [intOf];omega
      · have q : (((x.toNat : Nat) : Int) == 92) = false := beq_eq_false_iff_ne.2 (fun e => h92 ((u8_eq x 92 (by omega)).1 e))
        rw [dst_one x _ o d (fun e => absurd e h92)] at hA
        clear hdr h92 hx
        cases hp : dstp o x with
        | true =>
          rw [hp,if_pos rfl] at hA
          have HR := Lib.hid hA
          go_wp2_with fail
          refine (dst1_stop x o d b _ HX.out hp (by omega)).mono ?_
          rintro e w3 ⟨rfl,rfl⟩
          clear hA hp
          go_wp2
          go_ret
          exact ⟨congrArg (fun z => Ending.returned (.int .i64 z)) (by have := HR.out;rw [← this];simp),by have := HR.out;rw [← this];exact HX.out,HB.out⟩
        | false =>
          rw [hp,if_neg (by decide)] at hA
          have HR := Lib.hid (show ((k + 1) + (dstL (s.drop (k + 1)) (dsto o x) (dstd o d x)).1,(dstL (s.drop (k + 1)) (dsto o x) (dstd o d x)).2) = R by rw [← hA];exact Prod.ext (by show _ = k + (_ + 1);omega) rfl)
          go_wp2_with fail
          refine (dst1_go x o d b _ HX.out hp (by omega)).mono ?_
          rintro e w3 ⟨rfl,hx3,hb3⟩
          have HX3 := Lib.hid hx3
          have HB3 := Lib.hid (HB.out.trans hb3)
          have HO3 := Lib.hid (dsto_le o x k ho)
          clear hA hp hx3 hb3
          go_wp2
          go_roundw
          case rel => exact ⟨k + 1,dsto o x,dstd o d x,by go_num,by omega,HO3,HR,HX3,HB3⟩
          case measure => simp [intOf];omega
    · have hnil : s.drop k = [] := List.drop_of_length_le (by omega)
      have HR := Lib.hid (show (s.length,o,d) = R by have := HA.out;rw [hnil] at this;rw [← this];exact Prod.ext (by show _ = k + 0;omega) rfl)
      clear HA hnil
      go_wp2
      go_ret
      exact ⟨congrArg (fun z => Ending.returned (.int .i64 z)) (by have := HR.out;rw [← this]),by have := HR.out;rw [← this];exact HX.out,HB.out⟩
end Go.Proofs.YtekifcbokdidlaaGreatDoor.PA

namespace Go.Proofs.YtekifcbokdidlaaGreatDoor.PA
open Go.RowKit Go.Proofs.YtekifcbokdidlaaGreatDoorW.PrintWords

def strings_TrimLeft.f (a0 a1 : ByteArray) : Option ByteArray := if a0.size ≤ 9223372036854775807 ∧ a1.size ≤ 4294967280 ∧ (a1.data.toList.all fun b => decide (b.toNat < 128)) = true then some ⟨(Lib.trimLeftS a0.data.toList a1.data.toList).toArray⟩ else none
theorem strings_TrimLeft.calls (a0 a1 : ByteArray) (r : ByteArray) (w : World) (h : strings_TrimLeft.f a0 a1 = some r) :
    Calls Tryz.prog 54 #[.string a0,.string a1] w fun e w' => e = .returned (.string r) ∧ Below w.heap.size w w' := by
  unfold strings_TrimLeft.f at h
  split at h
  · rename_i hc
    obtain ⟨h1,h2,h3⟩ := hc
    obtain rfl := Option.some.inj h
    exact Any.strings_TrimLeft_laid Tryz.lays161 (by kernel_rfl) a0 a1 w (by omega) (ascii_of_all h3)
  · cases h
def strings_Trim.f (a0 a1 : ByteArray) : Option ByteArray := if a0.size ≤ 9223372036854775807 ∧ a1.size ≤ 4294967280 ∧ (a1.data.toList.all fun b => decide (b.toNat < 128)) = true then some ⟨(Lib.trimS a0.data.toList a1.data.toList).toArray⟩ else none
theorem strings_Trim.calls (a0 a1 : ByteArray) (r : ByteArray) (w : World) (h : strings_Trim.f a0 a1 = some r) :
    Calls Tryz.prog 101 #[.string a0,.string a1] w fun e w' => e = .returned (.string r) ∧ Below w.heap.size w w' := by
  unfold strings_Trim.f at h
  split at h
  · rename_i hc
    obtain ⟨h1,h2,h3⟩ := hc
    obtain rfl := Option.some.inj h
    exact Any.strings_Trim_laid Tryz.lays160 (by kernel_rfl) a0 a1 w h1 (by omega) (ascii_of_all h3)
  · cases h
end Go.Proofs.YtekifcbokdidlaaGreatDoor.PA

namespace Go.Proofs.YtekifcbokdidlaaGreatDoor.Pure
open Go.RowKit Go.Proofs.YtekifcbokdidlaaGreatDoorW.PrintWords Go.Proofs.YtekifcbokdidlaaGreatDoorW.PrintMore Go.Proofs.YtekifcbokdidlaaGreatDoor.Pl Go.Proofs.YtekifcbokdidlaaGreatDoor.PA

/-- How much white a text begins with. -/
def wht (s : List UInt8) : Nat := s.length - (Lib.trimLeftS s [32,9,10]).length
theorem trim_le (s c : List UInt8) : (Lib.trimLeftS s c).length ≤ s.length := by
  unfold Lib.trimLeftS
  exact (List.dropWhile_suffix _).length_le
theorem wht_le (s : List UInt8) : wht s ≤ s.length := Nat.sub_le _ _
theorem wht_int (s : List UInt8) : (s.length : Int) - ((Lib.trimLeftS s [32,9,10]).length : Int) = (wht s : Int) := by
  have := trim_le s [32,9,10]
  unfold wht
  omega
/-- The label a text begins with, and how long it is. -/
def lab : List UInt8 → List UInt8 × Nat
  | [] => ([],0)
  | x :: t => if x = 91 then
      match t.drop (eachL pLab t) with
      | [] => ([],0)
      | y :: _ => if y = 91 ∨ 999 < eachL pLab t ∨ wht (t.take (eachL pLab t)) = eachL pLab t then ([],0) else (t.take (eachL pLab t),eachL pLab t + 2)
    else ([],0)
/-- An address in brackets, behind the first one. -/
def ang (t : List UInt8) : List UInt8 × Nat × Bool :=
  match t.drop (eachL pAng t) with
  | [] => ([],0,false)
  | y :: _ => if y = 62 then (une (t.take (eachL pAng t)),eachL pAng t + 2,true) else ([],0,false)
/-- The address a text begins with, and how long it is. -/
def dst (s : List UInt8) : List UInt8 × Nat × Bool :=
  if s.head? = some 60 then ang (s.drop 1)
  else if (dstL s 0 false).1 = 0 ∨ 0 < (dstL s 0 false).2.1 ∨ (dstL s 0 false).2.2 = true then ([],0,false)
  else (une (s.take (dstL s 0 false).1),(dstL s 0 false).1,true)
/-- What a title ends with. -/
def cls : List UInt8 → UInt8
  | [] => 0
  | x :: _ => if x = 34 then x else if x = 39 then x else if x = 40 then 41 else 0
/-- Is a text blank? -/
def blk (s : List UInt8) : Bool := s.all fun x => decide (x = 32) || decide (x = 9)
/-- A text cut at its LF: what has come of this line, what is left. -/
def lf : List UInt8 → List UInt8 → List (List UInt8)
  | cur,[] => [cur]
  | cur,x :: t => if x = 10 then cur :: lf [] t else lf (cur ++ [x]) t
theorem lf_none : ∀ (t cur : List UInt8),(10 : UInt8) ∉ t → lf cur t = [cur ++ t]
  | [],cur,_ => by simp [lf]
  | x :: t,cur,h => by
    rw [List.mem_cons,not_or] at h
    rw [lf,if_neg (fun e => h.1 e.symm),lf_none t _ h.2,List.append_assoc]
    rfl
theorem lf_cut : ∀ (p cur r : List UInt8),(10 : UInt8) ∉ p → lf cur (p ++ 10 :: r) = (cur ++ p) :: lf [] r
  | [],cur,r,_ => by simp [lf]
  | x :: p,cur,r,h => by
    rw [List.mem_cons,not_or] at h
    rw [List.cons_append,lf,if_neg (fun e => h.1 e.symm),lf_cut p _ r h.2,List.append_assoc]
    rfl
theorem lf_pos : ∀ (t cur : List UInt8),lf cur t ≠ []
  | [],_ => by simp [lf]
  | x :: t,cur => by
    rw [lf]
    split
    · simp
    · exact lf_pos t _
theorem ib_first : ∀ (p r : List UInt8) (c : UInt8),c ∉ p → Lib.indexByte (p ++ c :: r) c = p.length
  | [],r,c,_ => by simp [Lib.indexByte]
  | x :: p,r,c,h => by
    rw [List.mem_cons,not_or] at h
    have ih := ib_first p r c h.2
    simp only [List.cons_append,Lib.indexByte]
    rw [if_neg (by simpa using fun e => h.1 e.symm),ih,if_neg (by rw [beq_iff_eq];omega)]
    simp
theorem mem_split (c : UInt8) : ∀ s : List UInt8,c ∈ s → ∃ p r,s = p ++ c :: r ∧ c ∉ p
  | [],h => by cases h
  | x :: t,h => by
    by_cases hx : x = c
    · exact ⟨[],t,by rw [hx];rfl,by simp⟩
    · obtain ⟨p,r,e,hp⟩ := mem_split c t (by rcases List.mem_cons.1 h with e | e;exact absurd e.symm hx;exact e)
      exact ⟨x :: p,r,by rw [e];rfl,by rw [List.mem_cons,not_or];exact ⟨fun e => hx e.symm,hp⟩⟩
theorem split_lf : ∀ (n : Nat) (s : List UInt8),s.length ≤ n → Lib.splitB ⟨#[10]⟩ 0 (Lib.countB (B s) ⟨#[10]⟩) (B s) = (lf [] s).map B := by
  intro n
  induction n with
  | zero =>
    intro s h
    obtain rfl := List.length_eq_zero_iff.1 (Nat.le_zero.1 h)
    rfl
  | succ n ih =>
    intro s h
    by_cases hm : (10 : UInt8) ∈ s
    · obtain ⟨p,r,rfl,hp⟩ := mem_split 10 s hm
      rw [List.length_append,List.length_cons] at h
      have hc : Lib.countB (B (p ++ 10 :: r)) ⟨#[10]⟩ = Lib.countB (B r) ⟨#[10]⟩ + 1 := by
        show Lib.count (B (p ++ 10 :: r)).data.toList [10] = Lib.count (B r).data.toList [10] + 1
        rw [Lib.count_one,Lib.count_one,B_data,B_data,List.count_append,List.count_eq_zero.2 hp,List.count_cons_self]
        omega
      have hi : Lib.indexB (B (p ++ 10 :: r)) ⟨#[10]⟩ = (p.length : Int) := by
        show Lib.index (B (p ++ 10 :: r)).data.toList [10] = _
        rw [Lib.index_one,B_data,ib_first p r 10 hp]
      have e1 : (B (p ++ 10 :: r)).extract 0 (p.length + 0) = B p := by
        rw [Nat.add_zero,B_to,List.take_left']
        rfl
      have e2 : (B (p ++ 10 :: r)).extract (p.length + 1) (B (p ++ 10 :: r)).size = B r := by
        rw [B_from _ _ _ (B_size _),← List.drop_drop,List.drop_left' rfl]
        rfl
      rw [lf_cut p [] r hp,List.map_cons,List.nil_append,hc,Lib.splitB,hi,if_neg (by rw [beq_iff_eq];omega),Int.toNat_natCast,e1]
      congr 1
      rw [← ih r (by omega)]
      exact congrArg _ e2
    · have hc : Lib.countB (B s) ⟨#[10]⟩ = 0 := by
        show Lib.count (B s).data.toList [10] = 0
        rw [Lib.count_one,B_data]
        exact List.count_eq_zero.2 hm
      rw [hc,Lib.splitB_zero,lf_none s [] hm]
      rfl
/-- A text's lines. -/
def lns (s : List UInt8) : List (List UInt8) := lf [] s
theorem split_f (s : List UInt8) (h : s.length ≤ 1048576) : strings_Split.f (B s) ⟨#[10]⟩ = some ((lns s).map B) := by
  unfold strings_Split.f
  rw [if_pos ⟨by rw [B_size];omega,by decide⟩,split_lf _ s (Nat.le_refl _)]
  rfl
theorem lf_len : ∀ (t cur : List UInt8),(lf cur t).length ≤ t.length + 1
  | [],_ => by simp [lf]
  | x :: t,cur => by
    rw [lf]
    split
    · have := lf_len t []
      simp only [List.length_cons]
      omega
    · have := lf_len t (cur ++ [x])
      simp only [List.length_cons]
      omega
theorem lf_size : ∀ (t cur : List UInt8),∀ p ∈ lf cur t,p.length ≤ cur.length + t.length
  | [],cur,p,hp => by
    rw [lf,List.mem_singleton] at hp
    rw [hp]
    simp
  | x :: t,cur,p,hp => by
    rw [lf] at hp
    split at hp
    · rcases List.mem_cons.1 hp with rfl | hp
      · simp
      · have := lf_size t [] p hp
        simp at this ⊢
        omega
    · have := lf_size t (cur ++ [x]) p hp
      simp at this ⊢
      omega
theorem blk_snoc (c : List UInt8) (x : UInt8) : blk (c ++ [x]) = (blk c && (decide (x = 32) || decide (x = 9))) := by
  unfold blk
  rw [List.all_append]
  simp
/-- Is one of some lines, other than the last one (and the first one, unless it counts), of blanks alone? -/
def mid : Bool → List (List UInt8) → Bool
  | _,[] => false
  | _,[_] => false
  | b,x :: y :: r => (b && blk x) || mid true (y :: r)
/-- Has a text a line of blanks alone, other than its first and last? -/
def gp : Bool → List UInt8 → Bool
  | _,[] => false
  | b,x :: t => if x = 10 then b || gp true t else gp (b && (decide (x = 32) || decide (x = 9))) t
theorem mid_gp : ∀ (t cur : List UInt8) (b : Bool),mid b (lf cur t) = gp (b && blk cur) t
  | [],cur,b => rfl
  | x :: t,cur,b => by
    rw [lf,gp]
    by_cases h : x = 10
    · rw [if_pos h,if_pos h]
      have ih := mid_gp t [] true
      rw [show (true && blk []) = true from rfl] at ih
      rw [← ih]
      cases hl : lf [] t with
      | nil => exact absurd hl (lf_pos t [])
      | cons y r => rw [mid]
    · rw [if_neg h,if_neg h,mid_gp t _ b,blk_snoc,Bool.and_assoc]
theorem gp_lns (s : List UInt8) : mid true ((lns s).drop 1) = gp false s := by
  have h := mid_gp s [] false
  rw [Bool.false_and] at h
  rw [← h]
  unfold lns
  cases hl : lf [] s with
  | nil => exact absurd hl (lf_pos s [])
  | cons y r =>
    cases r with
    | nil => rfl
    | cons z r => rw [mid,Bool.false_and,Bool.false_or];rfl
theorem dw_nil (p : UInt8 → Bool) : ∀ l : List UInt8,l.dropWhile p = [] ↔ ∀ x ∈ l,p x = true
  | [] => by simp
  | x :: t => by
    rw [List.dropWhile_cons]
    split
    · rename_i h
      rw [dw_nil p t,List.forall_mem_cons]
      exact ⟨fun e => ⟨h,e⟩,fun e => e.2⟩
    · rename_i h
      exact ⟨fun e => (by cases e),fun e => absurd (e x List.mem_cons_self) h⟩
theorem tw_mem (p : UInt8 → Bool) : ∀ (l : List UInt8) (x : UInt8),x ∈ l.takeWhile p → p x = true
  | [],x,h => by cases h
  | y :: t,x,h => by
    rw [List.takeWhile_cons] at h
    split at h
    · rename_i hy
      rcases List.mem_cons.1 h with rfl | h
      · exact hy
      · exact tw_mem p t x h
    · cases h
theorem trim_nil (p : List UInt8) : (Lib.trimS p [32,9] = []) ↔ blk p = true := by
  have h : ∀ x : UInt8,([32,9] : List UInt8).contains x = (decide (x = 32) || decide (x = 9)) := by
    intro x
    have := (by decide +kernel : ∀ y : Fin 256,([32,9] : List UInt8).contains (UInt8.ofNat y.val) = (decide (UInt8.ofNat y.val = 32) || decide (UInt8.ofNat y.val = 9))) ⟨x.toNat,x.toNat_lt⟩
    rwa [show UInt8.ofNat x.toNat = x from UInt8.ofNat_toNat] at this
  have hd : ∀ l : List UInt8,Lib.trimLeftS l [32,9] = [] ↔ blk l = true := by
    intro l
    unfold Lib.trimLeftS blk
    rw [List.all_eq_true]
    constructor
    · intro e x hx
      have := (dw_nil _ _).1 e x hx
      rw [← h x]
      exact this
    · intro e
      refine (dw_nil _ _).2 (fun x hx => ?_)
      rw [h x]
      exact e x hx
  have hr : blk (Lib.trimRightS p [32,9]) = true ↔ blk p = true := by
    have e : Lib.trimRightS p [32,9] = (Lib.trimLeftS p.reverse [32,9]).reverse := rfl
    rw [e]
    have hrev : ∀ l : List UInt8,blk l.reverse = blk l := fun l => by unfold blk;rw [List.all_reverse]
    rw [hrev]
    constructor
    · intro h1
      rw [← hrev p]
      unfold blk at h1 ⊢
      rw [List.all_eq_true] at h1 ⊢
      intro x hx
      rw [← List.takeWhile_append_dropWhile (p := fun y => ([32,9] : List UInt8).contains y) (l := p.reverse)] at hx
      rcases List.mem_append.1 hx with hx | hx
      · rw [← h x]
        exact tw_mem _ _ _ hx
      · exact h1 x hx
    · intro h1
      have : Lib.trimLeftS p.reverse [32,9] = [] := (hd _).2 (by rw [hrev];exact h1)
      rw [this]
      rfl
  unfold Lib.trimS
  rw [hd,hr]
/-- The title a text begins with, and how long it is. -/
def ttl : List UInt8 → List UInt8 × Nat
  | [] => ([],0)
  | x :: t => if cls (x :: t) = 0 then ([],0) else
      match t.drop (eachL (pTit (cls (x :: t))) t) with
      | [] => ([],0)
      | y :: _ => if y = cls (x :: t) then (if gp false (t.take (eachL (pTit (cls (x :: t))) t)) = true then ([],0) else (une (t.take (eachL (pTit (cls (x :: t))) t)),eachL (pTit (cls (x :: t))) t + 2)) else ([],0)
end Go.Proofs.YtekifcbokdidlaaGreatDoor.Pure

namespace Go.Proofs.YtekifcbokdidlaaGreatDoor.Pure
open Go.RowKit Go.Proofs.YtekifcbokdidlaaGreatDoorW.PrintWords Go.Proofs.YtekifcbokdidlaaGreatDoorW.PrintMore Go.Proofs.YtekifcbokdidlaaGreatDoor.Pl Go.Proofs.YtekifcbokdidlaaGreatDoor.PA

theorem lab_cons (x : UInt8) (t : List UInt8) : lab (x :: t) = if x = 91 then
      match t.drop (eachL pLab t) with
      | [] => ([],0)
      | y :: _ => if y = 91 ∨ 999 < eachL pLab t ∨ wht (t.take (eachL pLab t)) = eachL pLab t then ([],0) else (t.take (eachL pLab t),eachL pLab t + 2)
    else ([],0) := rfl
theorem ttl_cons (x : UInt8) (t : List UInt8) : ttl (x :: t) = if cls (x :: t) = 0 then ([],0) else
      match t.drop (eachL (pTit (cls (x :: t))) t) with
      | [] => ([],0)
      | y :: _ => if y = cls (x :: t) then (if gp false (t.take (eachL (pTit (cls (x :: t))) t)) = true then ([],0) else (une (t.take (eachL (pTit (cls (x :: t))) t)),eachL (pTit (cls (x :: t))) t + 2)) else ([],0) := rfl
theorem each_st (p : UInt8 → Bool) (hp : p 92 = false) : ∀ (l : List UInt8) (j : Nat) (m : List UInt8),eachL p l < j → j ≤ l.length → eachL p (l.take j ++ m) = eachL p l
  | [],j,m,h1,h2 => by simp at h2;omega
  | [x],j,m,h1,h2 => by
    obtain rfl : j = 1 := by simp at h2;omega
    have hx : p x = true := by
      cases h : p x with
      | true => rfl
      | false => unfold eachL at h1;rw [h,if_neg (by decide)] at h1;omega
    have h92 : x ≠ 92 := fun e => by rw [e,hp] at hx;cases hx
    show eachL p (x :: m) = eachL p [x]
    rw [each_one p x m (fun e => absurd e h92),if_pos hx]
    unfold eachL
    rw [if_pos hx]
  | x :: y :: t,j,m,h1,h2 => by
    simp only [List.length_cons] at h2
    by_cases he : x = 92 ∧ sgn y = true
    · rw [each_esc p x y t he.1 he.2] at h1 ⊢
      obtain ⟨j,rfl⟩ : ∃ i,j = i + 2 := ⟨j - 2,by omega⟩
      rw [List.take_succ_cons,List.take_succ_cons,List.cons_append,List.cons_append,each_esc p x y _ he.1 he.2,each_st p hp t j m (by omega) (by omega)]
    · have h3 : x = 92 → ∀ y' u,y :: t = y' :: u → sgn y' = false := by
        rintro e y' u e2
        cases e2
        cases h : sgn y with
        | false => rfl
        | true => exact absurd ⟨e,h⟩ he
      obtain ⟨j,rfl⟩ : ∃ i,j = i + 1 := ⟨j - 1,by omega⟩
      rw [each_one p x (y :: t) h3] at h1 ⊢
      rw [List.take_succ_cons,List.cons_append]
      by_cases hx : p x = true
      · have h92 : x ≠ 92 := fun e => by rw [e,hp] at hx;cases hx
        rw [each_one p x _ (fun e => absurd e h92),if_pos hx,if_pos hx]
      · rw [if_neg hx] at h1 ⊢
        have ih := each_st p hp (y :: t) j m (by omega) (by simp only [List.length_cons];omega)
        obtain ⟨i,rfl⟩ : ∃ i,j = i + 1 := ⟨j - 1,by omega⟩
        rw [each_one p x _ (fun e y' u e2 => by rw [List.take_succ_cons,List.cons_append] at e2;cases e2;exact h3 e y t rfl),if_neg hx,ih]
theorem each_self (p : UInt8 → Bool) : ∀ (l : List UInt8),eachL p l ≤ l.length → eachL p (l.take (eachL p l)) = eachL p l
  | [],_ => rfl
  | [x],_ => by
    have e : eachL p [x] = if p x = true then 0 else 1 := rfl
    by_cases h : p x = true
    · rw [e,if_pos h];rfl
    · rw [e,if_neg h]
      show eachL p [x] = 1
      rw [e,if_neg h]
  | x :: y :: t,hl => by
    by_cases he : x = 92 ∧ sgn y = true
    · rw [each_esc p x y t he.1 he.2] at hl ⊢
      simp only [List.length_cons] at hl
      rw [List.take_succ_cons,List.take_succ_cons,each_esc p x y _ he.1 he.2,each_self p t (by omega)]
    · have h3 : x = 92 → ∀ y' u,y :: t = y' :: u → sgn y' = false := by
        rintro e y' u e2
        cases e2
        cases h : sgn y with
        | false => rfl
        | true => exact absurd ⟨e,h⟩ he
      rw [each_one p x (y :: t) h3] at hl ⊢
      by_cases hx : p x = true
      · rw [if_pos hx]
        rfl
      · rw [if_neg hx] at hl ⊢
        simp only [List.length_cons] at hl
        have ih := each_self p (y :: t) (by simp only [List.length_cons];omega)
        rw [List.take_succ_cons,each_one p x _ (fun e y' u e2 => ?_),if_neg hx,ih]
        cases hE : eachL p (y :: t) with
        | zero => rw [hE] at e2;cases e2
        | succ i => rw [hE,List.take_succ_cons] at e2;cases e2;exact h3 e y t rfl
theorem each_at (p : UInt8 → Bool) : ∀ (l : List UInt8) (y : UInt8) (u : List UInt8),l.drop (eachL p l) = y :: u → p y = true
  | [],y,u,h => by cases h
  | [x],y,u,h => by
    by_cases hx : p x = true
    · unfold eachL at h
      rw [if_pos hx] at h
      cases h
      exact hx
    · unfold eachL at h
      rw [if_neg hx] at h
      cases h
  | x :: z :: t,y,u,h => by
    by_cases he : x = 92 ∧ sgn z = true
    · rw [each_esc p x z t he.1 he.2,List.drop_succ_cons,List.drop_succ_cons] at h
      exact each_at p t y u h
    · rw [each_one p x (z :: t) (by
        rintro e y' u e2
        cases e2
        cases h : sgn z with
        | false => rfl
        | true => exact absurd ⟨e,h⟩ he)] at h
      by_cases hx : p x = true
      · rw [if_pos hx] at h
        cases h
        exact hx
      · rw [if_neg hx,List.drop_succ_cons] at h
        exact each_at p (z :: t) y u h
theorem dstp_92 (o : Nat) : dstp o 92 = false := by
  unfold dstp
  simp
/-- Is a byte white? -/
def wsp (x : UInt8) : Bool := decide (x = 32) || (decide (x = 9) || decide (x = 10))
theorem wsp_eq (x : UInt8) : ([32,9,10] : List UInt8).contains x = wsp x := by
  have h : ∀ y : Fin 256,([32,9,10] : List UInt8).contains (UInt8.ofNat y.val) = wsp (UInt8.ofNat y.val) := by decide +kernel
  have := h ⟨x.toNat,x.toNat_lt⟩
  rwa [show UInt8.ofNat x.toNat = x from UInt8.ofNat_toNat] at this
theorem wht_cons (x : UInt8) (t : List UInt8) : wht (x :: t) = if wsp x = true then wht t + 1 else 0 := by
  have h1 := trim_le t [32,9,10]
  unfold wht Lib.trimLeftS at *
  rw [List.dropWhile_cons,wsp_eq]
  split
  · simp only [List.length_cons];omega
  · simp only [List.length_cons];omega
end Go.Proofs.YtekifcbokdidlaaGreatDoor.Pure

namespace Go.Proofs.YtekifcbokdidlaaGreatDoor.PA
open Go.RowKit Go.Proofs.YtekifcbokdidlaaGreatDoor.Pl Go.Proofs.YtekifcbokdidlaaGreatDoorW.PrintWords Go.Proofs.YtekifcbokdidlaaGreatDoorW.PrintLast Go.Proofs.YtekifcbokdidlaaGreatDoorW.PrintMore
set_option linter.unusedVariables false

end Go.Proofs.YtekifcbokdidlaaGreatDoor.PA

namespace Go.Proofs.YtekifcbokdidlaaGreatDoor.PA
open Go.RowKit Go.Proofs.YtekifcbokdidlaaGreatDoor.Pl Go.Proofs.YtekifcbokdidlaaGreatDoorW.PrintWords Go.Proofs.YtekifcbokdidlaaGreatDoorW.PrintLast Go.Proofs.YtekifcbokdidlaaGreatDoorW.PrintMore Go.Proofs.YtekifcbokdidlaaGreatDoor.Pure
set_option linter.unusedVariables false

theorem pre_one (c : UInt8) (s : List UInt8) (w : World) : Calls Tryz.prog 44 #[.string (B s),.string ⟨#[c]⟩] w fun e w' => e = .returned (.bool (decide (s.head? = some c))) ∧ Drawn0 w w' := by
  refine strings_HasPrefix.calls (B s) ⟨#[c]⟩ _ w ?_
  unfold strings_HasPrefix.f
  rw [B_data,show (⟨#[c]⟩ : ByteArray).data.toList = [c] from rfl]
  congr 1
  cases s with
  | nil => rfl
  | cons x t =>
    by_cases hx : x = c
    · subst hx
      simp [Lib.hasPrefix,List.isPrefixOf]
    · simp [Lib.hasPrefix,List.isPrefixOf,hx]
      exact fun e => hx e.symm
theorem white_walk (s : List UInt8) (hs : s.length ≤ 1048576) (w : World) : Calls Tryz.prog 47 #[.string (B s)] w fun e w' => e = .returned (.int .i64 (wht s : Int)) ∧ Below w.heap.size w w' := by
  have hsz : (B s).size = s.length := B_size s
  have ht : strings_TrimLeft.f (B s) ⟨#[32,9,10]⟩ = some (B (Lib.trimLeftS s [32,9,10])) := by
    unfold strings_TrimLeft.f
    rw [if_pos ⟨by omega,by decide,by decide⟩,B_data]
    rfl
  have HT := Lib.hid (fun W => strings_TrimLeft.calls (B s) ⟨#[32,9,10]⟩ _ W ht)
  have hz2 : (B (Lib.trimLeftS s [32,9,10])).size = (Lib.trimLeftS s [32,9,10]).length := B_size _
  have HW := Lib.hid (wht_int s)
  have hl := trim_le s [32,9,10]
  clear ht
  go_enter Tryz.func47,Tryz.ntmps47
  go_wp2_with (first | (go_at_call 54;refine (HT.out _).mono ?_;rintro e w' ⟨rfl,hb⟩;have HB := Lib.hid hb;clear hb))
  go_ret
  exact ⟨congrArg (fun z => Ending.returned (.int .i64 z)) HW.out,HB.out⟩
set_option maxHeartbeats 4000000 in
set_option maxRecDepth 100000 in
theorem lab_walk (s : List UInt8) (hs : s.length ≤ 1048576) (w : World) :
    Calls Tryz.prog 26 #[.string (B s)] w fun e w' => e = .returned (.tuple #[.string (B (lab s).1),.int .i64 ((lab s).2 : Int)]) ∧ Below w.heap.size w w' := by
  have HP := Lib.hid (fun W => pre_one 91 s W)
  by_cases h91 : s.head? = some 91
  · rw [decide_eq_true h91] at HP
    obtain ⟨t,rfl⟩ : ∃ t,s = 91 :: t := by
      cases s with
      | nil => cases h91
      | cons x t => exact ⟨t,by rw [Option.some.inj h91]⟩
    rw [List.length_cons] at hs
    have HE := Lib.hid (fun W => each_lab (91 :: t) (by rw [List.length_cons];omega) 1 (by simp) W)
    rw [show List.drop 1 ((91 : UInt8) :: t) = t from rfl,show ((1 : Nat) : Int) = 1 from rfl] at HE
    have hEl := eachL_le pLab t
    obtain ⟨E,hE⟩ : ∃ E,eachL pLab t = E := ⟨_,rfl⟩
    have hlab : lab (91 :: t) = match t.drop E with
      | [] => ([],0)
      | y :: _ => if y = 91 ∨ 999 < E ∨ wht (t.take E) = E then ([],0) else (t.take E,E + 2) := by subst hE;rfl
    rw [hE] at HE hEl
    have HW := Lib.hid (fun W => white_walk (t.take E) (by rw [List.length_take];omega) W)
    obtain ⟨k,hk⟩ : ∃ k,1 + E = k := ⟨_,rfl⟩
    rw [hk] at HE
    have hk1 : 1 ≤ k := by omega
    have hk2 : k ≤ 1048577 := by omega
    have hex : (B (91 :: t)).extract 1 k = B (t.take E) := by rw [B_extract,show k - 1 = E by omega];rfl
    have hn : (B (91 :: t)).size = t.length + 1 := B_size _
    have hget : ∀ y u,t.drop E = y :: u → ∃ h : k < (B (91 :: t)).size,(B (91 :: t))[k]'h = y := by
      intro y u e
      have hlt : E < t.length := by
        rcases Nat.lt_or_ge E t.length with h | h
        · exact h
        · rw [List.drop_eq_nil_of_le h] at e;cases e
      refine ⟨by omega,?_⟩
      have e2 : (91 :: t).drop k = y :: u := by rw [← hk,Nat.add_comm,List.drop_succ_cons];exact e
      have hk3 : k < (91 :: t).length := by rw [List.length_cons];omega
      rw [List.drop_eq_getElem_cons hk3] at e2
      exact (List.getElem_toArray hk3).trans (List.cons.inj e2).1
    generalize B (91 :: t) = S at *
    cases ht : t.drop E with
    | nil =>
      rw [ht] at hlab
      have HL := Lib.hid hlab
      have hEt : t.length ≤ E := List.drop_eq_nil_iff.1 ht
      obtain rfl : k = t.length + 1 := by omega
      generalize t.length + 1 = n at *
      clear hlab hget ht hex hE h91 HW
      go_enter Tryz.func26,Tryz.ntmps26
      go_wp2_with fail
      refine (HP.out _).mono ?_
      rintro e w1 ⟨rfl,hd⟩
      have HB1 := Lib.hid hd.below
      clear hd
      go_wp2_with fail
      with_reducible refine (HE.out _).mono ?_
      rintro e w2 ⟨rfl,hb2⟩
      have HB2 := Lib.hid (HB1.out.trans (hb2.mono HB1.out.size))
      clear hb2
      go_wp2
      go_ret2
      rw [HL.out]
      exact ⟨rfl,HB2.out⟩
    | cons y u =>
      obtain ⟨hks,hi⟩ := hget y u ht
      rw [ht] at hlab
      simp only at hlab
      have hkn : k < t.length + 1 := by omega
      have hkn2 : (1 : Int) ≤ (k : Int) := by omega
      have hkn3 : (k : Int) ≤ (t.length : Int) + 1 := by omega
      have hkn4 : k ≤ t.length + 1 := by omega
      have q1 : ((k : Int) == ((t.length + 1 : Nat) : Int)) = false := beq_eq_false_iff_ne.2 (by omega)
      have q1b : ((k : Int) == ((t.length : Int) + 1)) = false := beq_eq_false_iff_ne.2 (by omega)
      have e91 : ((y.toNat : Int) = 91) ↔ y = 91 := u8_eq y 91 (by omega)
      by_cases h1 : y = 91
      · rw [if_pos (.inl h1)] at hlab
        have HL := Lib.hid hlab
        have q2 : ((y.toNat : Int) == 91) = true := beq_iff_eq.2 (e91.2 h1)
        clear hlab hget ht hex hE h91 HW e91 h1
        go_enter Tryz.func26,Tryz.ntmps26
        go_wp2_with fail
        refine (HP.out _).mono ?_
        rintro e w1 ⟨rfl,hd⟩
        have HB1 := Lib.hid hd.below
        clear hd
        go_wp2_with fail
        with_reducible refine (HE.out _).mono ?_
        rintro e w2 ⟨rfl,hb2⟩
        have HB2 := Lib.hid (HB1.out.trans (hb2.mono HB1.out.size))
        clear hb2
        go_wp2
        go_ret2
        rw [HL.out]
        exact ⟨rfl,HB2.out⟩
      · have q2 : ((y.toNat : Int) == 91) = false := beq_eq_false_iff_ne.2 (fun e => h1 (e91.1 e))
        by_cases h2 : 999 < E
        · rw [if_pos (.inr (.inl h2))] at hlab
          have HL := Lib.hid hlab
          have q3 : decide ((999 : Int) < (k : Int) - 1) = true := decide_eq_true (by omega)
          clear hlab hget ht hex hE h91 HW e91 h1
          go_enter Tryz.func26,Tryz.ntmps26
          go_wp2_with fail
          refine (HP.out _).mono ?_
          rintro e w1 ⟨rfl,hd⟩
          have HB1 := Lib.hid hd.below
          clear hd
          go_wp2_with fail
          with_reducible refine (HE.out _).mono ?_
          rintro e w2 ⟨rfl,hb2⟩
          have HB2 := Lib.hid (HB1.out.trans (hb2.mono HB1.out.size))
          clear hb2
          go_wp2
          go_ret2
          rw [HL.out]
          exact ⟨rfl,HB2.out⟩
        · have q3 : decide ((999 : Int) < (k : Int) - 1) = false := decide_eq_false (by omega)
          by_cases h3 : wht (t.take E) = E
          · rw [if_pos (.inr (.inr h3))] at hlab
            have HL := Lib.hid hlab
            have q4 : ((wht (t.take E) : Int) == (k : Int) - 1) = true := beq_iff_eq.2 (by omega)
            clear hlab hget ht hE h91 e91 h1 h3
            go_enter Tryz.func26,Tryz.ntmps26
            go_wp2_with fail
            refine (HP.out _).mono ?_
            rintro e w1 ⟨rfl,hd⟩
            have HB1 := Lib.hid hd.below
            clear hd
            go_wp2_with fail
            with_reducible refine (HE.out _).mono ?_
            rintro e w2 ⟨rfl,hb2⟩
            have HB2 := Lib.hid (HB1.out.trans (hb2.mono HB1.out.size))
            clear hb2
            go_wp2_with fail
            with_reducible refine (HW.out _).mono ?_
            rintro e w3 ⟨rfl,hb3⟩
            have HB3 := Lib.hid (HB2.out.trans (hb3.mono HB2.out.size))
            clear hb3
            go_wp2
            go_ret2
            rw [HL.out]
            exact ⟨rfl,HB3.out⟩
          · rw [if_neg (by rintro (h | h | h);exact h1 h;exact h2 h;exact h3 h)] at hlab
            have HL := Lib.hid hlab
            have q4 : ((wht (t.take E) : Int) == (k : Int) - 1) = false := beq_eq_false_iff_ne.2 (by omega)
            have HK := Lib.hid (show ((k : Int) + 1) = ((E + 2 : Nat) : Int) by omega)
            clear hlab hget ht hE h91 e91 h1 h3
            go_enter Tryz.func26,Tryz.ntmps26
            go_wp2_with fail
            refine (HP.out _).mono ?_
            rintro e w1 ⟨rfl,hd⟩
            have HB1 := Lib.hid hd.below
            clear hd
            go_wp2_with fail
            with_reducible refine (HE.out _).mono ?_
            rintro e w2 ⟨rfl,hb2⟩
            have HB2 := Lib.hid (HB1.out.trans (hb2.mono HB1.out.size))
            clear hb2
            go_wp2_with fail
            with_reducible refine (HW.out _).mono ?_
            rintro e w3 ⟨rfl,hb3⟩
            have HB3 := Lib.hid (HB2.out.trans (hb3.mono HB2.out.size))
            clear hb3
            go_wp2
            go_ret2
            rw [HL.out]
            exact ⟨by first | rfl | (rw [HK.out];rfl) | (rw [← HK.out];rfl),HB3.out⟩
  · rw [decide_eq_false h91] at HP
    have hrd : lab s = ([],0) := by
      cases s with
      | nil => rfl
      | cons x t => rw [lab,if_neg (fun e => h91 (by rw [e];rfl))]
    rw [hrd]
    clear hrd h91
    go_enter Tryz.func26,Tryz.ntmps26
    go_wp2_with fail
    refine (HP.out _).mono ?_
    rintro e w1 ⟨rfl,hd⟩
    have HB1 := Lib.hid hd.below
    clear hd
    go_wp2
    go_ret2
    exact ⟨rfl,HB1.out⟩
set_option maxHeartbeats 4000000 in
set_option maxRecDepth 100000 in
theorem ang_walk (x : UInt8) (t : List UInt8) (hs : t.length ≤ 1048575) (w : World) (hLd : Laid w) :
    Calls Tryz.prog 50 #[.string (B (x :: t))] w fun e w' => e = .returned (.tuple #[.string (B (ang t).1),.int .i64 ((ang t).2.1 : Int),.bool (ang t).2.2]) ∧ Below w.heap.size w w' := by
  have HLd := Lib.hid hLd
  clear hLd
  have HE := Lib.hid (fun W => each_ang (x :: t) (by rw [List.length_cons];omega) 1 (by simp) W)
  rw [show List.drop 1 (x :: t) = t from rfl,show ((1 : Nat) : Int) = 1 from rfl] at HE
  have hEl := eachL_le pAng t
  obtain ⟨E,hE⟩ : ∃ E,eachL pAng t = E := ⟨_,rfl⟩
  have hlab : ang t = match t.drop E with
    | [] => ([],0,false)
    | y :: _ => if y = 62 then (une (t.take E),E + 2,true) else ([],0,false) := by unfold ang;subst hE;rfl
  rw [hE] at HE hEl
  have HW := Lib.hid (fun W => unesc_walk (t.take E) (by rw [List.length_take];omega) W)
  obtain ⟨k,hk⟩ : ∃ k,1 + E = k := ⟨_,rfl⟩
  rw [hk] at HE
  have hk1 : 1 ≤ k := by omega
  have hk2 : k ≤ 1048577 := by omega
  have hex : (B (x :: t)).extract 1 k = B (t.take E) := by rw [B_extract,show k - 1 = E by omega];rfl
  have hn : (B (x :: t)).size = t.length + 1 := B_size _
  have hget : ∀ y u,t.drop E = y :: u → ∃ h : k < (B (x :: t)).size,(B (x :: t))[k]'h = y := by
    intro y u e
    have hlt : E < t.length := by
      rcases Nat.lt_or_ge E t.length with h | h
      · exact h
      · rw [List.drop_eq_nil_of_le h] at e;cases e
    refine ⟨by omega,?_⟩
    have e2 : (x :: t).drop k = y :: u := by rw [← hk,Nat.add_comm,List.drop_succ_cons];exact e
    have hk3 : k < (x :: t).length := by rw [List.length_cons];omega
    rw [List.drop_eq_getElem_cons hk3] at e2
    exact (List.getElem_toArray hk3).trans (List.cons.inj e2).1
  generalize B (x :: t) = S at *
  cases ht : t.drop E with
  | nil =>
    rw [ht] at hlab
    have HL := Lib.hid hlab
    have hEt : t.length ≤ E := List.drop_eq_nil_iff.1 ht
    obtain rfl : k = t.length + 1 := by omega
    generalize t.length + 1 = n at *
    clear hlab hget ht hex hE HW
    go_enter Tryz.func50,Tryz.ntmps50
    go_wp2_with fail
    with_reducible refine (HE.out _).mono ?_
    rintro e w2 ⟨rfl,hb2⟩
    have HB2 := Lib.hid hb2
    clear hb2
    go_wp2
    go_ret3
    rw [HL.out]
    exact ⟨rfl,HB2.out⟩
  | cons y u =>
    obtain ⟨hks,hi⟩ := hget y u ht
    rw [ht] at hlab
    simp only at hlab
    have hkn : k < t.length + 1 := by omega
    have hkn2 : (1 : Int) ≤ (k : Int) := by omega
    have hkn3 : (k : Int) ≤ (t.length : Int) + 1 := by omega
    have hkn4 : k ≤ t.length + 1 := by omega
    have q1 : ((k : Int) == ((t.length + 1 : Nat) : Int)) = false := beq_eq_false_iff_ne.2 (by omega)
    have q1b : ((k : Int) == ((t.length : Int) + 1)) = false := beq_eq_false_iff_ne.2 (by omega)
    have e62 : ((y.toNat : Int) = 62) ↔ y = 62 := u8_eq y 62 (by omega)
    by_cases h1 : y = 62
    · rw [if_pos h1] at hlab
      have HL := Lib.hid hlab
      have q2 : ((y.toNat : Int) == 62) = true := beq_iff_eq.2 (e62.2 h1)
      have q2b : ((y.toNat : Int) != 62) = false := by rw [bne,q2];rfl
      have HK := Lib.hid (show ((k : Int) + 1) = ((E + 2 : Nat) : Int) by omega)
      clear hlab hget ht hE e62 h1
      go_enter Tryz.func50,Tryz.ntmps50
      go_wp2_with fail
      with_reducible refine (HE.out _).mono ?_
      rintro e w2 ⟨rfl,hb2⟩
      have HB2 := Lib.hid hb2
      clear hb2
      go_wp2_with fail
      with_reducible refine (HW.out _ (HLd.out.go HB2.out)).mono ?_
      rintro e w3 ⟨rfl,hb3⟩
      have HB3 := Lib.hid (HB2.out.trans (hb3.mono HB2.out.size))
      clear hb3
      go_wp2
      go_ret3
      rw [HL.out]
      exact ⟨by first | rfl | (rw [HK.out];rfl),HB3.out⟩
    · rw [if_neg h1] at hlab
      have HL := Lib.hid hlab
      have q2 : ((y.toNat : Int) == 62) = false := beq_eq_false_iff_ne.2 (fun e => h1 (e62.1 e))
      have q2b : ((y.toNat : Int) != 62) = true := by rw [bne,q2];rfl
      clear hlab hget ht hE e62 h1
      go_enter Tryz.func50,Tryz.ntmps50
      go_wp2_with fail
      with_reducible refine (HE.out _).mono ?_
      rintro e w2 ⟨rfl,hb2⟩
      have HB2 := Lib.hid hb2
      clear hb2
      go_wp2
      go_ret3
      rw [HL.out]
      exact ⟨rfl,HB2.out⟩
theorem dstL_le : ∀ (l : List UInt8) (o : Nat) (d : Bool),(dstL l o d).1 ≤ l.length ∧ (dstL l o d).2.1 ≤ o + l.length
  | [],o,d => ⟨Nat.le_refl _,Nat.le_refl _⟩
  | [x],o,d => by
    have := dsto_le o x o (Nat.le_refl _)
    unfold dstL
    split
    · exact ⟨Nat.zero_le _,Nat.le_add_right _ _⟩
    · exact ⟨Nat.le_refl _,this⟩
  | x :: y :: t,o,d => by
    have h1 := dstL_le t o d
    have h2 := dstL_le (y :: t) (dsto o x) (dstd o d x)
    have h3 := dsto_le o x o (Nat.le_refl _)
    unfold dstL
    simp only [List.length_cons] at h2 ⊢
    split
    · exact ⟨by show _ + 2 ≤ _;omega,by show (dstL t o d).2.1 ≤ _;omega⟩
    · split
      · exact ⟨Nat.zero_le _,Nat.le_add_right _ _⟩
      · exact ⟨by show _ + 1 ≤ _;omega,by show (dstL (y :: t) _ _).2.1 ≤ _;omega⟩
end Go.Proofs.YtekifcbokdidlaaGreatDoor.PA

namespace Go.Proofs.YtekifcbokdidlaaGreatDoor.PA
open Go.RowKit Go.Proofs.YtekifcbokdidlaaGreatDoor.Pl Go.Proofs.YtekifcbokdidlaaGreatDoorW.PrintWords Go.Proofs.YtekifcbokdidlaaGreatDoorW.PrintLast Go.Proofs.YtekifcbokdidlaaGreatDoorW.PrintMore Go.Proofs.YtekifcbokdidlaaGreatDoor.Pure
set_option linter.unusedVariables false

theorem al2_old (w : World) (o : Obj) (k : Nat) (h : k < w.heap.size) : (w.alloc o).heap[k]? = w.heap[k]? := ((Below.refl w.heap.size w).alloc (Nat.le_refl _) o).block k h
theorem al2_size (w : World) (o : Obj) : (w.alloc o).heap.size = w.heap.size + 1 := Array.size_push _
theorem al_two (w : World) (a b : Obj) : ((w.alloc a).alloc b).heap[w.heap.size]? = some a ∧ ((w.alloc a).alloc b).heap[w.heap.size + 1]? = some b ∧ Below w.heap.size w ((w.alloc a).alloc b) := by
  refine ⟨?_,?_,?_⟩
  · rw [al2_old _ _ _ (by rw [al2_size];omega)];exact heap_alloc_new w a
  · rw [← al2_size w a];exact heap_alloc_new _ b
  · exact ((Below.refl _ w).alloc (Nat.le_refl _) a).alloc (by rw [al2_size];omega) b
set_option maxHeartbeats 4000000 in
set_option maxRecDepth 100000 in
theorem dst_walk (s : List UInt8) (hs : s.length ≤ 1048576) (w : World) (hLd : Laid w) :
    Calls Tryz.prog 29 #[.string (B s)] w fun e w' => e = .returned (.tuple #[.string (B (dst s).1),.int .i64 ((dst s).2.1 : Int),.bool (dst s).2.2]) ∧ Below w.heap.size w w' := by
  have HP := Lib.hid (fun W => pre_one 60 s W)
  by_cases h60 : s.head? = some 60
  · rw [decide_eq_true h60] at HP
    obtain ⟨t,rfl⟩ : ∃ t,s = 60 :: t := by
      cases s with
      | nil => cases h60
      | cons x t => exact ⟨t,by rw [Option.some.inj h60]⟩
    rw [List.length_cons] at hs
    have HA := Lib.hid (ang_walk 60 t (by omega))
    have HD := Lib.hid (show dst (60 :: t) = ang t by unfold dst;exact if_pos rfl)
    have HLd := Lib.hid hLd
    generalize B (60 :: t) = S at *
    clear h60 hLd
    go_enter Tryz.func29,Tryz.ntmps29
    go_wp2_with fail
    refine (HP.out _).mono ?_
    rintro e w1 ⟨rfl,hd⟩
    have HB1 := Lib.hid hd.below
    clear hd
    go_wp2_with fail
    with_reducible refine (HA.out _ (HLd.out.go HB1.out)).mono ?_
    rintro e w2 ⟨rfl,hb2⟩
    have HB2 := Lib.hid (HB1.out.trans (hb2.mono HB1.out.size))
    clear hb2
    go_wp2
    go_ret3
    rw [HD.out]
    exact ⟨rfl,HB2.out⟩
  · rw [decide_eq_false h60] at HP
    have hD : dst s = if (dstL s 0 false).1 = 0 ∨ 0 < (dstL s 0 false).2.1 ∨ (dstL s 0 false).2.2 = true then ([],0,false) else (une (s.take (dstL s 0 false).1),(dstL s 0 false).1,true) := by unfold dst;rw [if_neg h60]
    have HLd := Lib.hid hLd
    have hle := dstL_le s 0 false
    have HE := Lib.hid (each_dst s (by omega))
    have HW := Lib.hid (fun W => unesc_walk (s.take (dstL s 0 false).1) (by rw [List.length_take];omega) W)
    have hex : (B s).extract 0 (dstL s 0 false).1 = B (s.take (dstL s 0 false).1) := B_to s _
    have hn : (B s).size = s.length := B_size _
    obtain ⟨k,hk⟩ : ∃ x,(dstL s 0 false).1 = x := ⟨_,rfl⟩
    obtain ⟨o,ho⟩ : ∃ x,(dstL s 0 false).2.1 = x := ⟨_,rfl⟩
    obtain ⟨d,hd⟩ : ∃ x,(dstL s 0 false).2.2 = x := ⟨_,rfl⟩
    rw [hk,ho,hd] at HE hD
    rw [hk] at HW hex
    rw [hk,ho] at hle
    obtain ⟨hle1,hle2⟩ := hle
    clear hk ho hd h60 hLd
    generalize B (s.take k) = T at *
    generalize B s = S at *
    go_enter Tryz.func29,Tryz.ntmps29
    go_wp2_with fail
    refine (HP.out _).mono ?_
    rintro e w1 ⟨rfl,hd⟩
    have HB1 := Lib.hid hd.below
    clear hd
    go_wp2_with fail
    obtain ⟨h1,h2,h3⟩ := al_two w1 (.cells #[.int .i64 0] 3 (0,0)) (.cells #[.bool false] 4 (0,0))
    obtain ⟨w2,hw2⟩ : ∃ w2,w2 = (w1.alloc (.cells #[.int .i64 0] 3 (0,0))).alloc (.cells #[.bool false] 4 (0,0)) := ⟨_,rfl⟩
    rw [← hw2] at h1 h2 h3
    rw [show ((w1.alloc (Obj.cells #[Value.int IntKind.i64 0] 3)).alloc (Obj.cells #[Value.bool false] 4)) = w2 from hw2.symm]
    clear hw2
    have HB2 := Lib.hid (HB1.out.trans (h3.mono HB1.out.size))
    have hsz := HB1.out.size
    clear h3
    obtain ⟨b,hb⟩ : ∃ b,w1.heap.size = b := ⟨_,rfl⟩
    rw [hb] at h1 h2 hsz ⊢
    clear hb
    have hbx : Box2 b 0 false w2 := ⟨h1,h2⟩
    with_reducible refine (HE.out b w2 hbx).mono ?_
    rintro e w3 ⟨rfl,hx3,hb3⟩
    have HB3 := Lib.hid (HB2.out.trans (hb3.mono hsz))
    have c1 := cell_of_one hx3.1
    have c2 := cell_of_one hx3.2
    clear h1 h2 hx3 hb3 HB2 HB1 hsz HE HP
    by_cases hk0 : k = 0
    · subst hk0
      rw [if_pos (.inl rfl)] at hD
      have HD := Lib.hid hD
      clear hD
      go_wp2_with fail
      go_wp2
      go_ret3
      rw [HD.out]
      exact ⟨rfl,HB3.out⟩
    · have q1 : ((k : Int) == 0) = false := beq_eq_false_iff_ne.2 (by omega)
      by_cases ho0 : 0 < o
      · have q2 : decide ((0 : Int) < (o : Int)) = true := decide_eq_true (by omega)
        rw [if_pos (.inr (.inl ho0))] at hD
        have HD := Lib.hid hD
        clear hD
        go_wp2
        go_ret3
        rw [HD.out]
        exact ⟨rfl,HB3.out⟩
      · have q2 : decide ((0 : Int) < (o : Int)) = false := decide_eq_false (by omega)
        cases d with
        | true =>
          rw [if_pos (.inr (.inr rfl))] at hD
          have HD := Lib.hid hD
          clear hD
          go_wp2
          go_ret3
          rw [HD.out]
          exact ⟨rfl,HB3.out⟩
        | false =>
          rw [if_neg (by rintro (h | h | h);exact hk0 h;exact ho0 h;cases h)] at hD
          have HD := Lib.hid hD
          have hks : k ≤ s.length := hle1
          clear hD
          go_wp2_with fail
          with_reducible refine (HW.out _ (HLd.out.go HB3.out)).mono ?_
          rintro e w4 ⟨rfl,hb4⟩
          have HB4 := Lib.hid (HB3.out.trans (hb4.mono HB3.out.size))
          clear hb4
          go_wp2
          go_ret3
          rw [HD.out]
          exact ⟨rfl,HB4.out⟩
end Go.Proofs.YtekifcbokdidlaaGreatDoor.PA

namespace Go.Proofs.YtekifcbokdidlaaGreatDoor.PA
open Go.RowKit Go.Proofs.YtekifcbokdidlaaGreatDoorW.PrintWords Go.Proofs.YtekifcbokdidlaaGreatDoorW.PrintLast Go.Proofs.YtekifcbokdidlaaGreatDoorW.PrintMore
attribute [local go_sem] max2_int min2_int max_two min_two max_three min_three max_four min_four   -- for this text's walks alone
set_option linter.unusedVariables false
set_option linter.unusedSimpArgs false







/-! ### link_gap: function 80 -/
def link_gap.l0 : Nat → List ByteArray → Int → Option (Bool)
  | 0,_,_ => none
  | k + 1,x3,x4 => if x4 < (wrap64 ((x3.length : Int) - 1)) then (if 0 ≤ x4 then (if x4 < (x3.length : Int) then ((strings_Trim.f (rdOf ByteArray.empty x3 x4) (⟨#[32,9]⟩ : ByteArray)).bind fun t193 => (if t193.toList = ([] : List UInt8) then (some true) else (link_gap.l0 k x3 (wrap64 (x4 + 1))))) else (none)) else (none)) else (some false)
def link_gap.f (k : Nat) (a0 : ByteArray) : Option (Bool) := (strings_Split.f a0 (⟨#[10]⟩ : ByteArray)).bind fun t189 => (link_gap.l0 k t189 1)
set_option maxHeartbeats 8000000 in
set_option maxRecDepth 100000 in
theorem link_gap.calls (k : Nat) (a0 : ByteArray) (r : Bool) (w : World) (hLd : Laid w) (h : link_gap.f k a0 = some r) :
    Calls Tryz.prog 80 #[.string a0] w fun e w' => e = .returned (.bool r) ∧ Below w.heap.size w w' := by
  have HB := Aside0.mk (Below.refl w.heap.size w)
  have H : ((strings_Split.f a0 (⟨#[10]⟩ : ByteArray)).bind fun t189 => (link_gap.l0 k t189 1)) = some r := h
  clear h
  replace H := Option.bind_eq_some_iff.mp H
  obtain ⟨t189,A20,H⟩ := H
  replace H : (link_gap.l0 k t189 1) = some r := H
  have A2 := Aside0.mk A20
  clear A20
  have H' := Aside0.mk H
  clear H
  go_enter Tryz.func80,Tryz.ntmps80
  go_wp2_with (first | ((with_reducible refine gate_callee (f := 100) rfl ?_);refine goesL_ (some 6) rfl rfl Tryz.func100 (by kernel_rfl) rfl #[.string a0,.string (⟨#[10]⟩ : ByteArray)] rfl (by (try simp only [List.map_toArray,List.map_cons,List.map_nil]);first | done | rfl | (simp only [List.length_drop,List.length_take];rfl)) ?_;(with_reducible refine (strings_Split.calls a0 (⟨#[10]⟩ : ByteArray) t189 _ ?side1 A2.out).mono ?_);(case side1 => exact Laid.go hLd (by repeat (first | (with_reducible first | exact HB.out | apply below_alloc | apply pw_below_drewN | apply below_drew1) | exact HB.out)));rintro e w3 ⟨v190,rfl,ho0,hb⟩;refine ⟨_,rfl,?_⟩;have n0_ := Aside0.mk (Kd.R_lower ho0 (below_size (by repeat (first | (with_reducible first | exact HB.out | apply below_alloc | apply pw_below_drewN | apply below_drew1) | exact HB.out))));have n1_ := Aside0.mk (below_step (by repeat (first | (with_reducible first | exact HB.out | apply below_alloc | apply pw_below_drewN | apply below_drew1) | exact HB.out)) hb);clear HB;have HO191 := n0_;have HB := n1_;clear n0_ n1_;(try clear hb);(try clear hb2);(try clear hk);(try clear hi);(try clear ho0)))
  go_loopg [4] k (fun kq v4 w' => ∃ (x4_1 : Int),v4 = .int .i64 x4_1 ∧ Aside0 (link_gap.l0 kq t189 x4_1 = some r) ∧ Aside0 (kq ≤ k) ∧ Aside0 (Kd.R Kd.string 9 w' w.heap.size (fun _ => True) v190 t189) ∧ Aside0 (Below w.heap.size w w'))
  case atStart => exact ⟨(1),(by first | rfl | (simp;done) | (simp [*];done)),H',⟨Nat.le_refl _⟩,⟨by (with_reducible repeat (first | apply Kd.R_alloc | apply Kd.R_drewN | apply Kd.R_drew));exact HO191.out⟩,⟨by repeat (first | (with_reducible first | exact HB.out | apply below_alloc | apply pw_below_drewN | apply below_drew1) | exact HB.out)⟩⟩
  case round =>
    clear H'
    try clear c1
    try clear p2
    obtain ⟨x4_1,rfl,HA,HK1,HO_3,HB⟩ := hrel
    cases gk with
    | zero => exact absurd HA.out (by simp [link_gap.l0])
    | succ k1 =>
      have H := HA.out
      clear HA
      simp only [link_gap.l0] at H
      by_cases c4 : x4_1 < (wrap64 ((t189.length : Int) - 1))
      · rw [if_pos c4] at H
        have c4b0 : decide (x4_1 < (wrap64 ((t189.length : Int) - 1))) = true := decide_eq_true c4
        clear c4
        by_cases c5 : 0 ≤ x4_1
        · rw [if_pos c5] at H
          have c5b0 : decide (0 ≤ x4_1) = true := decide_eq_true c5
          clear c5
          by_cases c6 : x4_1 < (t189.length : Int)
          · rw [if_pos c6] at H
            have c6b0 : decide (x4_1 < (t189.length : Int)) = true := decide_eq_true c6
            clear c6
            replace H := Option.bind_eq_some_iff.mp H
            obtain ⟨t193,A70,H⟩ := H
            replace H : (if t193.toList = ([] : List UInt8) then (some true) else (link_gap.l0 k1 t189 (wrap64 (x4_1 + 1)))) = some r := H
            have A7 := Aside0.mk A70
            clear A70
            by_cases c8 : t193.toList = ([] : List UInt8)
            · rw [if_pos c8] at H
              have c8b0 : (t193.toList == ([] : List UInt8)) = true := beq_iff_eq.mpr c8
              have c8b1 : (t193.toList != ([] : List UInt8)) = false := bne_eq_false_iff_eq.mpr c8
              clear c8
              obtain rfl := Option.some.inj H
              obtain ⟨Ao9,co9,eo9⟩ := Kd.R_slice HO_3.out
              subst eo9
              have p192 : 0 ≤ (x4_1 : Int) := of_decide_eq_true (by first | (with_reducible assumption) | assumption)
              have q192 : x4_1 < (t189.length : Int) := of_decide_eq_true (by first | (with_reducible assumption) | assumption)
              obtain ⟨ad192,e192,hx192_0⟩ := Kd.at_string (Kd.R_reads' HO_3.out).2.2 x4_1 p192 q192
              cases e192
              replace p192 := eq_true p192
              replace q192 := eq_true q192
              go_wp2_with (first | ((with_reducible refine gate_callee (f := 101) rfl ?_);refine goesL_ (some 18) rfl rfl Tryz.func101 (by kernel_rfl) rfl #[.string (rdOf ByteArray.empty t189 x4_1),.string (⟨#[32,9]⟩ : ByteArray)] rfl (by (try simp only [List.map_toArray,List.map_cons,List.map_nil]);first | done | rfl | (simp only [List.length_drop,List.length_take];rfl)) ?_;(with_reducible refine (strings_Trim.calls (rdOf ByteArray.empty t189 x4_1) (⟨#[32,9]⟩ : ByteArray) t193 _ A7.out).mono ?_);rintro e w10 ⟨rfl,hb⟩;refine ⟨_,rfl,?_⟩;have n0_ := Aside0.mk (Kd.R_below (by (with_reducible repeat (first | apply Kd.R_alloc | apply Kd.R_drewN | apply Kd.R_drew));exact HO_3.out) hb);have n1_ := Aside0.mk (below_step (by repeat (first | (with_reducible first | exact HB.out | apply below_alloc | apply pw_below_drewN | apply below_drew1) | exact HB.out)) hb);clear HO_3;clear HB;have HO_3 := n0_;have HB := n1_;clear n0_ n1_;(try clear hb);(try clear hb2);(try clear hk);(try clear hi)))
              go_ret
              exact ⟨by first | rfl | exact retNe _ | (simp [errW_none,errW_some] <;> rfl) | (simp [*,errW_none,errW_some] <;> rfl),by repeat (first | (with_reducible first | exact HB.out | apply below_alloc | apply pw_below_drewN | apply below_drew1) | exact HB.out)⟩
            · rw [if_neg c8] at H
              have c8b0 : (t193.toList == ([] : List UInt8)) = false := beq_eq_false_iff_ne.mpr c8
              have c8b1 : (t193.toList != ([] : List UInt8)) = true := bne_iff_ne.mpr c8
              have H' := Aside0.mk H
              clear H
              obtain ⟨Ao11,co11,eo11⟩ := Kd.R_slice HO_3.out
              subst eo11
              have p192 : 0 ≤ (x4_1 : Int) := of_decide_eq_true (by first | (with_reducible assumption) | assumption)
              have q192 : x4_1 < (t189.length : Int) := of_decide_eq_true (by first | (with_reducible assumption) | assumption)
              obtain ⟨ad192,e192,hx192_0⟩ := Kd.at_string (Kd.R_reads' HO_3.out).2.2 x4_1 p192 q192
              cases e192
              replace p192 := eq_true p192
              replace q192 := eq_true q192
              go_wp2_with (first | ((with_reducible refine gate_callee (f := 101) rfl ?_);refine goesL_ (some 18) rfl rfl Tryz.func101 (by kernel_rfl) rfl #[.string (rdOf ByteArray.empty t189 x4_1),.string (⟨#[32,9]⟩ : ByteArray)] rfl (by (try simp only [List.map_toArray,List.map_cons,List.map_nil]);first | done | rfl | (simp only [List.length_drop,List.length_take];rfl)) ?_;(with_reducible refine (strings_Trim.calls (rdOf ByteArray.empty t189 x4_1) (⟨#[32,9]⟩ : ByteArray) t193 _ A7.out).mono ?_);rintro e w12 ⟨rfl,hb⟩;refine ⟨_,rfl,?_⟩;have n0_ := Aside0.mk (Kd.R_below (by (with_reducible repeat (first | apply Kd.R_alloc | apply Kd.R_drewN | apply Kd.R_drew));exact HO_3.out) hb);have n1_ := Aside0.mk (below_step (by repeat (first | (with_reducible first | exact HB.out | apply below_alloc | apply pw_below_drewN | apply below_drew1) | exact HB.out)) hb);clear HO_3;clear HB;have HO_3 := n0_;have HB := n1_;clear n0_ n1_;(try clear hb);(try clear hb2);(try clear hk);(try clear hi)))
              go_roundg k1
              case measure => have := HK1.out;omega
              case rel => exact ⟨(wrap64 (x4_1 + 1)),(by first | rfl | (simp;done) | (simp [*];done)),H',⟨by have := HK1.out;omega⟩,⟨by (with_reducible repeat (first | apply Kd.R_alloc | apply Kd.R_drewN | apply Kd.R_drew));exact HO_3.out⟩,⟨by repeat (first | (with_reducible first | exact HB.out | apply below_alloc | apply pw_below_drewN | apply below_drew1) | exact HB.out)⟩⟩
          · rw [if_neg c6] at H
            exact absurd H (by simp)
        · rw [if_neg c5] at H
          exact absurd H (by simp)
      · rw [if_neg c4] at H
        have c4b0 : decide (x4_1 < (wrap64 ((t189.length : Int) - 1))) = false := decide_eq_false c4
        clear c4
        obtain rfl := Option.some.inj H
        obtain ⟨Ao13,co13,eo13⟩ := Kd.R_slice HO_3.out
        subst eo13
        go_wp2
        go_ret
        exact ⟨by first | rfl | exact retNe _ | (simp [errW_none,errW_some] <;> rfl) | (simp [*,errW_none,errW_some] <;> rfl),by repeat (first | (with_reducible first | exact HB.out | apply below_alloc | apply pw_below_drewN | apply below_drew1) | exact HB.out)⟩







end Go.Proofs.YtekifcbokdidlaaGreatDoor.PA

namespace Go.Proofs.YtekifcbokdidlaaGreatDoor.PA
open Go.RowKit Go.Proofs.YtekifcbokdidlaaGreatDoor.Pl Go.Proofs.YtekifcbokdidlaaGreatDoorW.PrintWords Go.Proofs.YtekifcbokdidlaaGreatDoorW.PrintLast Go.Proofs.YtekifcbokdidlaaGreatDoorW.PrintMore Go.Proofs.YtekifcbokdidlaaGreatDoor.Pure
set_option linter.unusedVariables false

theorem gap_l (s : List UInt8) (hs : s.length ≤ 1048576) : ∀ (d i : Nat),1 ≤ i → i + d = (lns s).length → Ev (fun k => link_gap.l0 k ((lns s).map B) (i : Int)) (mid true ((lns s).drop i)) := by
  have hln : (lns s).length ≤ s.length + 1 := lf_len s []
  intro d
  induction d with
  | zero =>
    intro i h1 hi
    rw [List.drop_eq_nil_of_le (by omega)]
    refine Ev.step (f := fun _ => some false) (fun k => ?_) (Ev.now _)
    simp only [link_gap.l0]
    rw [w64 (by rw [List.length_map];omega) (by rw [List.length_map];omega),if_neg (by rw [List.length_map];omega)]
  | succ d ih =>
    intro i h1 hi
    have hil : i < (lns s).length := by omega
    have hd : (lns s).drop i = (lns s)[i] :: (lns s).drop (i + 1) := List.drop_eq_getElem_cons hil
    by_cases he : i + 1 = (lns s).length
    · rw [hd,List.drop_eq_nil_of_le (by omega)]
      refine Ev.step (f := fun _ => some false) (fun k => ?_) (Ev.now _)
      simp only [link_gap.l0]
      rw [w64 (by rw [List.length_map];omega) (by rw [List.length_map];omega),if_neg (by rw [List.length_map];omega)]
    · have hil2 : i + 1 < (lns s).length := by omega
      have hd2 : (lns s).drop (i + 1) = (lns s)[i + 1] :: (lns s).drop (i + 2) := List.drop_eq_getElem_cons hil2
      have hm : mid true ((lns s).drop i) = (blk (lns s)[i] || mid true ((lns s).drop (i + 1))) := by rw [hd,hd2,mid,Bool.true_and]
      have hsz : ((lns s)[i]).length ≤ s.length := by
        have := lf_size s [] _ (List.getElem_mem hil)
        simpa using this
      have htr : strings_Trim.f (B (lns s)[i]) ⟨#[32,9]⟩ = some (B (Lib.trimS (lns s)[i] [32,9])) := by
        unfold strings_Trim.f
        rw [if_pos ⟨by rw [B_size];omega,by decide,by decide⟩,B_data]
        rfl
      have hw : wrap64 ((i : Int) + 1) = ((i + 1 : Nat) : Int) := w64 (by omega) (by omega)
      have hstep : ∀ k,link_gap.l0 (k + 1) ((lns s).map B) (i : Int) = if blk (lns s)[i] = true then some true else link_gap.l0 k ((lns s).map B) ((i + 1 : Nat) : Int) := by
        intro k
        simp only [link_gap.l0]
        rw [w64 (by rw [List.length_map];omega) (by rw [List.length_map];omega),if_pos (by rw [List.length_map];omega),if_pos (by omega),if_pos (by rw [List.length_map];omega),getD_B i hil,htr,Option.bind_some,B_toList,hw]
        by_cases hb : blk (lns s)[i] = true
        · rw [if_pos hb,if_pos ((trim_nil _).2 hb)]
        · rw [if_neg hb,if_neg (fun e => hb ((trim_nil _).1 e))]
      rw [hm]
      by_cases hb : blk (lns s)[i] = true
      · rw [hb,Bool.true_or]
        refine Ev.step (f := fun _ => some true) (fun k => ?_) (Ev.now _)
        rw [hstep,if_pos hb]
      · rw [show blk (lns s)[i] = false by simpa using hb,Bool.false_or]
        refine Ev.step (fun k => ?_) (ih (i + 1) (by omega) (by omega))
        rw [hstep,if_neg hb]
theorem gap_ev (s : List UInt8) (hs : s.length ≤ 1048576) : Ev (fun k => link_gap.f k (B s)) (gp false s) := by
  have hp : (lns s).length ≠ 0 := fun e => lf_pos s [] (List.length_eq_zero_iff.1 e)
  have h := gap_l s hs ((lns s).length - 1) 1 (Nat.le_refl _) (by omega)
  rw [gp_lns] at h
  unfold link_gap.f
  rw [split_f s hs]
  exact h
theorem gap_walk (s : List UInt8) (hs : s.length ≤ 1048576) (w : World) (hLd : Laid w) : Calls Tryz.prog 80 #[.string (B s)] w fun e w' => e = .returned (.bool (gp false s)) ∧ Below w.heap.size w w' := by
  obtain ⟨k,hk⟩ := Ev.rounds (gap_ev s hs)
  exact link_gap.calls k (B s) _ w hLd hk
theorem cls_walk (s : List UInt8) (w : World) : Calls Tryz.prog 78 #[.string (B s)] w fun e w' => e = .returned (.int .u8 ((cls s).toNat : Int)) ∧ Drawn0 w w' := by
  cases s with
  | nil =>
    have hne : (B []).toList.isEmpty = true := by rw [B_toList];rfl
    generalize B [] = S at *
    go_enter Tryz.func78,Tryz.ntmps78
    go_wp2
    go_ret
    exact ⟨rfl,Drawn0.refl _⟩
  | cons x t =>
    have hsz : (B (x :: t)).size = t.length + 1 := B_size _
    have hks : 0 < (B (x :: t)).size := by omega
    have hi : (B (x :: t))[0]'hks = x := rfl
    have e1 : ((x.toNat : Int) = 34) ↔ x = 34 := u8_eq x 34 (by omega)
    have e2 : ((x.toNat : Int) = 39) ↔ x = 39 := u8_eq x 39 (by omega)
    have e3 : ((x.toNat : Int) = 40) ↔ x = 40 := u8_eq x 40 (by omega)
    have hne : (B (x :: t)).toList.isEmpty = false := by rw [B_toList];rfl
    have hc : cls (x :: t) = if x = 34 then x else if x = 39 then x else if x = 40 then 41 else 0 := rfl
    generalize B (x :: t) = S at *
    by_cases h1 : x = 34
    · rw [if_pos h1] at hc
      have HC := Lib.hid hc
      have q1 : ((x.toNat : Int) == 34) = true := beq_iff_eq.2 (e1.2 h1)
      clear hc e1 e2 e3 h1
      go_enter Tryz.func78,Tryz.ntmps78
      go_wp2
      go_ret
      rw [HC.out]
      exact ⟨rfl,Drawn0.refl _⟩
    · rw [if_neg h1] at hc
      have q1 : ((x.toNat : Int) == 34) = false := beq_eq_false_iff_ne.2 (fun e => h1 (e1.1 e))
      by_cases h2 : x = 39
      · rw [if_pos h2] at hc
        have HC := Lib.hid hc
        have q2 : ((x.toNat : Int) == 39) = true := beq_iff_eq.2 (e2.2 h2)
        clear hc e1 e2 e3 h1 h2
        go_enter Tryz.func78,Tryz.ntmps78
        go_wp2
        go_ret
        rw [HC.out]
        exact ⟨rfl,Drawn0.refl _⟩
      · rw [if_neg h2] at hc
        have q2 : ((x.toNat : Int) == 39) = false := beq_eq_false_iff_ne.2 (fun e => h2 (e2.1 e))
        by_cases h3 : x = 40
        · rw [if_pos h3] at hc
          have HC := Lib.hid hc
          have q3 : ((x.toNat : Int) == 40) = true := beq_iff_eq.2 (e3.2 h3)
          clear hc e1 e2 e3 h1 h2 h3
          go_enter Tryz.func78,Tryz.ntmps78
          go_wp2
          go_ret
          rw [HC.out]
          exact ⟨rfl,Drawn0.refl _⟩
        · rw [if_neg h3] at hc
          have HC := Lib.hid hc
          have q3 : ((x.toNat : Int) == 40) = false := beq_eq_false_iff_ne.2 (fun e => h3 (e3.1 e))
          clear hc e1 e2 e3 h1 h2 h3
          go_enter Tryz.func78,Tryz.ntmps78
          go_wp2
          go_ret
          rw [HC.out]
          exact ⟨rfl,Drawn0.refl _⟩
theorem ti_keep {w w5 w0 : World} {b : Nat} {x : Value} (hb5 : Below w.heap.size w w5)
    (h : w.cell? ⟨b,0,none⟩ = some x ∧ Below w0.heap.size w0 w ∧ b + 1 ≤ w.heap.size) :
    w5.cell? ⟨b,0,none⟩ = some x ∧ Below w0.heap.size w0 w5 ∧ b + 1 ≤ w5.heap.size := by
  obtain ⟨h1,h2,h3⟩ := h
  exact ⟨(hb5.cell (p := ⟨b,0,none⟩) (by show b < _;omega)).trans h1,h2.trans (hb5.mono h2.size),Nat.le_trans h3 hb5.size⟩
set_option maxHeartbeats 4000000 in
set_option maxRecDepth 100000 in
theorem ttl_walk (s : List UInt8) (hs : s.length ≤ 1048576) (w : World) (hLd : Laid w) :
    Calls Tryz.prog 53 #[.string (B s)] w fun e w' => e = .returned (.tuple #[.string (B (ttl s).1),.int .i64 ((ttl s).2 : Int)]) ∧ Below w.heap.size w w' := by
  have HC := Lib.hid (fun W => cls_walk s W)
  have HLd := Lib.hid hLd
  clear hLd
  by_cases h0 : cls s = 0
  · have hT : ttl s = ([],0) := by
      cases s with
      | nil => rfl
      | cons x t => unfold ttl;exact if_pos h0
    have HT := Lib.hid hT
    rw [h0] at HC
    clear hT h0
    go_enter Tryz.func53,Tryz.ntmps53
    go_wp2_with fail
    refine (HC.out _).mono ?_
    rintro e w1 ⟨rfl,hd⟩
    have HB1 := Lib.hid (hd.below.alloc hd.below.size (.cells #[.int .u8 (((0 : UInt8).toNat : Nat) : Int)] 5 (0,0)))
    have hcell : (w1.alloc (.cells #[.int .u8 (((0 : UInt8).toNat : Nat) : Int)] 5 (0,0))).cell? ⟨w1.heap.size,0,none⟩ = some (.int .u8 (((0 : UInt8).toNat : Nat) : Int)) := cell_of_one (heap_alloc_new w1 _)
    have hz : (((0 : UInt8).toNat : Nat) : Int) = 0 := rfl
    rw [hz] at hcell HB1
    clear hd
    go_wp2
    go_ret2
    rw [HT.out]
    exact ⟨rfl,HB1.out⟩
  · obtain ⟨x,t,rfl⟩ : ∃ x t,s = x :: t := by
      cases s with
      | nil => exact absurd rfl h0
      | cons x t => exact ⟨x,t,rfl⟩
    rw [List.length_cons] at hs
    obtain ⟨en,hen⟩ : ∃ y,cls (x :: t) = y := ⟨_,rfl⟩
    have HE := Lib.hid (fun b W => each_tit (x :: t) (by rw [List.length_cons];omega) 1 (by simp) b en W)
    rw [show List.drop 1 (x :: t) = t from rfl,show ((1 : Nat) : Int) = 1 from rfl] at HE
    have hEl := eachL_le (pTit en) t
    obtain ⟨E,hE⟩ : ∃ E,eachL (pTit en) t = E := ⟨_,rfl⟩
    have hlab : ttl (x :: t) = match t.drop E with
      | [] => ([],0)
      | y :: _ => if y = en then (if gp false (t.take E) = true then ([],0) else (une (t.take E),E + 2)) else ([],0) := by subst hE;subst hen;exact if_neg h0
    rw [hE] at HE hEl
    rw [hen] at HC h0
    have HG := Lib.hid (fun W hW => gap_walk (t.take E) (by rw [List.length_take];omega) W hW)
    have HW := Lib.hid (fun W => unesc_walk (t.take E) (by rw [List.length_take];omega) W)
    obtain ⟨k,hk⟩ : ∃ k,1 + E = k := ⟨_,rfl⟩
    rw [hk] at HE
    have hk1 : 1 ≤ k := by omega
    have hk2 : k ≤ 1048577 := by omega
    have hex : (B (x :: t)).extract 1 k = B (t.take E) := by rw [B_extract,show k - 1 = E by omega];rfl
    have hn : (B (x :: t)).size = t.length + 1 := B_size _
    have hen0 : (((en.toNat : Nat) : Int) == 0) = false := beq_eq_false_iff_ne.2 (fun e => h0 ((u8_eq en 0 (by omega)).1 e))
    have hget : ∀ y u,t.drop E = y :: u → ∃ h : k < (B (x :: t)).size,(B (x :: t))[k]'h = y := by
      intro y u e
      have hlt : E < t.length := by
        rcases Nat.lt_or_ge E t.length with h | h
        · exact h
        · rw [List.drop_eq_nil_of_le h] at e;cases e
      refine ⟨by omega,?_⟩
      have e2 : (x :: t).drop k = y :: u := by rw [← hk,Nat.add_comm,List.drop_succ_cons];exact e
      have hk3 : k < (x :: t).length := by rw [List.length_cons];omega
      rw [List.drop_eq_getElem_cons hk3] at e2
      exact (List.getElem_toArray hk3).trans (List.cons.inj e2).1
    generalize B (x :: t) = S at *
    cases ht : t.drop E with
    | nil =>
      rw [ht] at hlab
      have HL := Lib.hid hlab
      have hEt : t.length ≤ E := List.drop_eq_nil_iff.1 ht
      obtain rfl : k = t.length + 1 := by omega
      generalize t.length + 1 = n at *
      clear hlab hget ht hex hE HW HG hen h0
      go_enter Tryz.func53,Tryz.ntmps53
      go_wp2_with fail
      refine (HC.out _).mono ?_
      rintro e w1 ⟨rfl,hd⟩
      have hcell : (w1.alloc (.cells #[.int .u8 ((en.toNat : Nat) : Int)] 5 (0,0))).cell? ⟨w1.heap.size,0,none⟩ = some (.int .u8 ((en.toNat : Nat) : Int)) := cell_of_one (heap_alloc_new w1 _)
      have hlt : w1.heap.size < (w1.alloc (.cells #[.int .u8 ((en.toNat : Nat) : Int)] 5 (0,0))).heap.size := by rw [al2_size];omega
      have HB1 := Lib.hid (hd.below.alloc hd.below.size (.cells #[.int .u8 ((en.toNat : Nat) : Int)] 5 (0,0)))
      clear hd
      go_wp2_with fail
      obtain ⟨w2,hw2⟩ : ∃ w2,w2 = w1.alloc (.cells #[.int .u8 ((en.toNat : Nat) : Int)] 5 (0,0)) := ⟨_,rfl⟩
      rw [← hw2] at hcell hlt HB1
      rw [show (w1.alloc (Obj.cells #[Value.int IntKind.u8 ((en.toNat : Nat) : Int)] 5)) = w2 from hw2.symm]
      clear hw2
      obtain ⟨b,hb⟩ : ∃ b,w1.heap.size = b := ⟨_,rfl⟩
      rw [hb] at hcell hlt ⊢
      clear hb
      with_reducible refine (HE.out b w2 hlt hcell).mono ?_
      rintro e w3 ⟨rfl,hb3⟩
      have HB3 := Lib.hid (HB1.out.trans (hb3.mono HB1.out.size))
      have hc3 : w3.cell? ⟨b,0,none⟩ = some (.int .u8 ((en.toNat : Nat) : Int)) := (hb3.cell (p := ⟨b,0,none⟩) hlt).trans hcell
      clear hb3 hcell hlt HB1 HE HC
      go_wp2_with fail
      go_quiet (fail)
      go_wp2
      go_ret2
      rw [HL.out]
      exact ⟨rfl,pw_below_drewN HB3.out _⟩
    | cons y u =>
      obtain ⟨hks,hi⟩ := hget y u ht
      rw [ht] at hlab
      simp only at hlab
      have hkn : k < t.length + 1 := by omega
      have hkn2 : (1 : Int) ≤ (k : Int) := by omega
      have hkn3 : (k : Int) ≤ (t.length : Int) + 1 := by omega
      have hkn4 : k ≤ t.length + 1 := by omega
      have q1 : ((k : Int) == ((t.length + 1 : Nat) : Int)) = false := beq_eq_false_iff_ne.2 (by omega)
      have q1b : ((k : Int) == ((t.length : Int) + 1)) = false := beq_eq_false_iff_ne.2 (by omega)
      have eye : ((y.toNat : Int) = (en.toNat : Int)) ↔ y = en := ⟨fun h => UInt8.toNat_inj.1 (by omega),fun h => by rw [h]⟩
      by_cases h1 : y = en
      · rw [if_pos h1] at hlab
        have q2 : ((y.toNat : Int) == (en.toNat : Int)) = true := beq_iff_eq.2 (eye.2 h1)
        have q2b : ((y.toNat : Int) != (en.toNat : Int)) = false := by rw [bne,q2];rfl
        cases hg : gp false (t.take E) with
        | true =>
          rw [if_pos hg] at hlab
          rw [hg] at HG
          have HL := Lib.hid hlab
          clear hlab hget ht hE eye h1 hg hen h0 HW
          go_enter Tryz.func53,Tryz.ntmps53
          go_wp2_with fail
          refine (HC.out _).mono ?_
          rintro e w1 ⟨rfl,hd⟩
          have hcell : (w1.alloc (.cells #[.int .u8 ((en.toNat : Nat) : Int)] 5 (0,0))).cell? ⟨w1.heap.size,0,none⟩ = some (.int .u8 ((en.toNat : Nat) : Int)) := cell_of_one (heap_alloc_new w1 _)
          have hlt : w1.heap.size < (w1.alloc (.cells #[.int .u8 ((en.toNat : Nat) : Int)] 5 (0,0))).heap.size := by rw [al2_size];omega
          have HB1 := Lib.hid (hd.below.alloc hd.below.size (.cells #[.int .u8 ((en.toNat : Nat) : Int)] 5 (0,0)))
          clear hd
          go_wp2_with fail
          obtain ⟨w2,hw2⟩ : ∃ w2,w2 = w1.alloc (.cells #[.int .u8 ((en.toNat : Nat) : Int)] 5 (0,0)) := ⟨_,rfl⟩
          rw [← hw2] at hcell hlt HB1
          rw [show (w1.alloc (Obj.cells #[Value.int IntKind.u8 ((en.toNat : Nat) : Int)] 5)) = w2 from hw2.symm]
          clear hw2
          obtain ⟨b,hb⟩ : ∃ b,w1.heap.size = b := ⟨_,rfl⟩
          rw [hb] at hcell hlt ⊢
          clear hb
          with_reducible refine (HE.out b w2 hlt hcell).mono ?_
          rintro e w3 ⟨rfl,hb3⟩
          have HB3 := Lib.hid (HB1.out.trans (hb3.mono HB1.out.size))
          have hc3 : w3.cell? ⟨b,0,none⟩ = some (.int .u8 ((en.toNat : Nat) : Int)) := (hb3.cell (p := ⟨b,0,none⟩) hlt).trans hcell
          have hlt3 : b + 1 ≤ w3.heap.size := Nat.le_trans hlt hb3.size
          have HS3 : w3.cell? ⟨b,0,none⟩ = some (.int .u8 ((en.toNat : Nat) : Int)) ∧ Below w.heap.size w w3 ∧ b + 1 ≤ w3.heap.size := ⟨hc3,HB3.out,hlt3⟩
          have HG2 := Lib.hid (fun W (hS : W.cell? ⟨b,0,none⟩ = some (.int .u8 ((en.toNat : Nat) : Int)) ∧ Below w.heap.size w W ∧ b + 1 ≤ W.heap.size) => HG.out W (HLd.out.go hS.2.1))
          clear hb3 hcell hlt hlt3 HB1 HB3 hc3 HE HC HG
          go_wp2_with fail
          go_region_held3 (fun W => W.cell? ⟨b,0,none⟩ = some (.int .u8 ((en.toNat : Nat) : Int)) ∧ Below w.heap.size w W ∧ b + 1 ≤ W.heap.size)
            (first | (refine ti_keep hb5 ?_;assumption) | (refine ti_keep (pw_below_drewN (Below.refl _ _) _) ?_;assumption) | (refine ti_keep (Below.drew (Below.refl _ _)) ?_;assumption))
            (first | (go_at_call 80;refine (HG2.out _ (by assumption)).mono ?_;rintro e w5 ⟨rfl,hb5⟩))
          rename_i hh
          have HB4 := Lib.hid hh.2.1
          clear hh
          go_wp2
          go_ret2
          rw [HL.out]
          exact ⟨rfl,HB4.out⟩
        | false =>
          rw [if_neg (by rw [hg];decide)] at hlab
          rw [hg] at HG
          have HL := Lib.hid hlab
          have HK := Lib.hid (show ((k : Int) + 1) = ((E + 2 : Nat) : Int) by omega)
          clear hlab hget ht hE eye h1 hg hen h0
          go_enter Tryz.func53,Tryz.ntmps53
          go_wp2_with fail
          refine (HC.out _).mono ?_
          rintro e w1 ⟨rfl,hd⟩
          have hcell : (w1.alloc (.cells #[.int .u8 ((en.toNat : Nat) : Int)] 5 (0,0))).cell? ⟨w1.heap.size,0,none⟩ = some (.int .u8 ((en.toNat : Nat) : Int)) := cell_of_one (heap_alloc_new w1 _)
          have hlt : w1.heap.size < (w1.alloc (.cells #[.int .u8 ((en.toNat : Nat) : Int)] 5 (0,0))).heap.size := by rw [al2_size];omega
          have HB1 := Lib.hid (hd.below.alloc hd.below.size (.cells #[.int .u8 ((en.toNat : Nat) : Int)] 5 (0,0)))
          clear hd
          go_wp2_with fail
          obtain ⟨w2,hw2⟩ : ∃ w2,w2 = w1.alloc (.cells #[.int .u8 ((en.toNat : Nat) : Int)] 5 (0,0)) := ⟨_,rfl⟩
          rw [← hw2] at hcell hlt HB1
          rw [show (w1.alloc (Obj.cells #[Value.int IntKind.u8 ((en.toNat : Nat) : Int)] 5)) = w2 from hw2.symm]
          clear hw2
          obtain ⟨b,hb⟩ : ∃ b,w1.heap.size = b := ⟨_,rfl⟩
          rw [hb] at hcell hlt ⊢
          clear hb
          with_reducible refine (HE.out b w2 hlt hcell).mono ?_
          rintro e w3 ⟨rfl,hb3⟩
          have HB3 := Lib.hid (HB1.out.trans (hb3.mono HB1.out.size))
          have hc3 : w3.cell? ⟨b,0,none⟩ = some (.int .u8 ((en.toNat : Nat) : Int)) := (hb3.cell (p := ⟨b,0,none⟩) hlt).trans hcell
          have hlt3 : b + 1 ≤ w3.heap.size := Nat.le_trans hlt hb3.size
          have HS3 : w3.cell? ⟨b,0,none⟩ = some (.int .u8 ((en.toNat : Nat) : Int)) ∧ Below w.heap.size w w3 ∧ b + 1 ≤ w3.heap.size := ⟨hc3,HB3.out,hlt3⟩
          have HG2 := Lib.hid (fun W (hS : W.cell? ⟨b,0,none⟩ = some (.int .u8 ((en.toNat : Nat) : Int)) ∧ Below w.heap.size w W ∧ b + 1 ≤ W.heap.size) => HG.out W (HLd.out.go hS.2.1))
          clear hb3 hcell hlt hlt3 HB1 HB3 hc3 HE HC HG
          go_wp2_with fail
          go_region_held3 (fun W => W.cell? ⟨b,0,none⟩ = some (.int .u8 ((en.toNat : Nat) : Int)) ∧ Below w.heap.size w W ∧ b + 1 ≤ W.heap.size)
            (first | (refine ti_keep hb5 ?_;assumption) | (refine ti_keep (pw_below_drewN (Below.refl _ _) _) ?_;assumption) | (refine ti_keep (Below.drew (Below.refl _ _)) ?_;assumption))
            (first | (go_at_call 80;refine (HG2.out _ (by assumption)).mono ?_;rintro e w5 ⟨rfl,hb5⟩))
          rename_i hh
          have HB4 := Lib.hid hh.2.1
          clear hh
          go_wp2_with fail
          with_reducible refine (HW.out _ (HLd.out.go HB4.out)).mono ?_
          rintro e w5 ⟨rfl,hb5⟩
          have HB5 := Lib.hid (HB4.out.trans (hb5.mono HB4.out.size))
          clear hb5
          go_wp2
          go_ret2
          rw [HL.out]
          exact ⟨by first | rfl | (rw [HK.out];rfl),HB5.out⟩
      · rw [if_neg h1] at hlab
        have HL := Lib.hid hlab
        have q2 : ((y.toNat : Int) == (en.toNat : Int)) = false := beq_eq_false_iff_ne.2 (fun e => h1 (eye.1 e))
        have q2b : ((y.toNat : Int) != (en.toNat : Int)) = true := by rw [bne,q2];rfl
        clear hlab hget ht hE eye h1 hen h0 HW HG
        go_enter Tryz.func53,Tryz.ntmps53
        go_wp2_with fail
        refine (HC.out _).mono ?_
        rintro e w1 ⟨rfl,hd⟩
        have hcell : (w1.alloc (.cells #[.int .u8 ((en.toNat : Nat) : Int)] 5 (0,0))).cell? ⟨w1.heap.size,0,none⟩ = some (.int .u8 ((en.toNat : Nat) : Int)) := cell_of_one (heap_alloc_new w1 _)
        have hlt : w1.heap.size < (w1.alloc (.cells #[.int .u8 ((en.toNat : Nat) : Int)] 5 (0,0))).heap.size := by rw [al2_size];omega
        have HB1 := Lib.hid (hd.below.alloc hd.below.size (.cells #[.int .u8 ((en.toNat : Nat) : Int)] 5 (0,0)))
        clear hd
        go_wp2_with fail
        obtain ⟨w2,hw2⟩ : ∃ w2,w2 = w1.alloc (.cells #[.int .u8 ((en.toNat : Nat) : Int)] 5 (0,0)) := ⟨_,rfl⟩
        rw [← hw2] at hcell hlt HB1
        rw [show (w1.alloc (Obj.cells #[Value.int IntKind.u8 ((en.toNat : Nat) : Int)] 5)) = w2 from hw2.symm]
        clear hw2
        obtain ⟨b,hb⟩ : ∃ b,w1.heap.size = b := ⟨_,rfl⟩
        rw [hb] at hcell hlt ⊢
        clear hb
        with_reducible refine (HE.out b w2 hlt hcell).mono ?_
        rintro e w3 ⟨rfl,hb3⟩
        have HB3 := Lib.hid (HB1.out.trans (hb3.mono HB1.out.size))
        have hc3 : w3.cell? ⟨b,0,none⟩ = some (.int .u8 ((en.toNat : Nat) : Int)) := (hb3.cell (p := ⟨b,0,none⟩) hlt).trans hcell
        clear hb3 hcell hlt HB1 HE HC
        go_wp2_with fail
        go_quiet (fail)
        go_wp2
        go_ret2
        rw [HL.out]
        exact ⟨rfl,pw_below_drewN HB3.out _⟩
end Go.Proofs.YtekifcbokdidlaaGreatDoor.PA

namespace Go.Proofs.YtekifcbokdidlaaGreatDoor.PA
open Go.RowKit Go.Proofs.YtekifcbokdidlaaGreatDoor.Pl Go.Proofs.YtekifcbokdidlaaGreatDoorW.PrintWords Go.Proofs.YtekifcbokdidlaaGreatDoorW.PrintLast Go.Proofs.YtekifcbokdidlaaGreatDoorW.PrintMore Go.Proofs.YtekifcbokdidlaaGreatDoor.Pure
set_option linter.unusedVariables false

def link_Label.f (a0 : ByteArray) : Option (ByteArray × Int) := if a0.size ≤ 1048576 then some (B (lab a0.data.toList).1,((lab a0.data.toList).2 : Int)) else none
theorem link_Label.calls (a0 : ByteArray) (r1 : ByteArray) (r2 : Int) (w : World) (h : link_Label.f a0 = some (r1,r2)) :
    Calls Tryz.prog 26 #[.string a0] w fun e w' => e = .returned (.tuple #[.string r1,.int .i64 r2]) ∧ Below w.heap.size w w' := by
  unfold link_Label.f at h
  split at h
  · rename_i hc
    have h2 := Option.some.inj h
    obtain ⟨rfl,rfl⟩ := Prod.mk.inj h2
    exact lab_walk a0.data.toList (by rw [Array.length_toList];exact hc) w
  · cases h
def link_Dest.f (a0 : ByteArray) : Option (ByteArray × Int × Bool) := if a0.size ≤ 1048576 then some (B (dst a0.data.toList).1,((dst a0.data.toList).2.1 : Int),(dst a0.data.toList).2.2) else none
theorem link_Dest.calls (a0 : ByteArray) (r1 : ByteArray) (r2 : Int) (r3 : Bool) (w : World) (hLd : Laid w) (h : link_Dest.f a0 = some (r1,r2,r3)) :
    Calls Tryz.prog 29 #[.string a0] w fun e w' => e = .returned (.tuple #[.string r1,.int .i64 r2,.bool r3]) ∧ Below w.heap.size w w' := by
  unfold link_Dest.f at h
  split at h
  · rename_i hc
    have h2 := Option.some.inj h
    obtain ⟨rfl,h3⟩ := Prod.mk.inj h2
    obtain ⟨rfl,rfl⟩ := Prod.mk.inj h3
    exact dst_walk a0.data.toList (by rw [Array.length_toList];exact hc) w hLd
  · cases h
def link_Title.f (a0 : ByteArray) : Option (ByteArray × Int) := if a0.size ≤ 1048576 then some (B (ttl a0.data.toList).1,((ttl a0.data.toList).2 : Int)) else none
theorem link_Title.calls (a0 : ByteArray) (r1 : ByteArray) (r2 : Int) (w : World) (hLd : Laid w) (h : link_Title.f a0 = some (r1,r2)) :
    Calls Tryz.prog 53 #[.string a0] w fun e w' => e = .returned (.tuple #[.string r1,.int .i64 r2]) ∧ Below w.heap.size w w' := by
  unfold link_Title.f at h
  split at h
  · rename_i hc
    have h2 := Option.some.inj h
    obtain ⟨rfl,rfl⟩ := Prod.mk.inj h2
    exact ttl_walk a0.data.toList (by rw [Array.length_toList];exact hc) w hLd
  · cases h
end Go.Proofs.YtekifcbokdidlaaGreatDoor.PA

namespace Go.Proofs.YtekifcbokdidlaaGreatDoor.Pl
/-- Numbers as bytes. -/
def u8s (l : List Int) : List UInt8 := l.map fun x => x.toNat.toUInt8
def okB (l : List Int) : Bool := l.all fun x => decide (0 ≤ x ∧ x < 256)
/-- The decoder's answer at a list's head: the character and its length. -/
def dec (l : List UInt8) : Nat × Nat := Lib.decodeGo ⟨l.toArray⟩
/-- Clean, by at most so many steps. -/
def cleanF : Nat → List UInt8 → List UInt8
  | 0,_ => []
  | _ + 1,[] => []
  | f + 1,x :: t => if x = 0 ∨ ((dec (x :: t)).2 = 1 ∧ 128 ≤ x.toNat) then 239 :: 191 :: 189 :: cleanF f t else (x :: t).take (dec (x :: t)).2 ++ cleanF f ((x :: t).drop (dec (x :: t)).2)
def clean (l : List UInt8) : List UInt8 := cleanF l.length l

theorem dn_cont (n b0 b1 b2 b3 : Nat) : (1 < (Lib.decodeN n b0 b1 b2 b3).2 → 1 < n ∧ b1 / 64 = 2) ∧ (2 < (Lib.decodeN n b0 b1 b2 b3).2 → 2 < n ∧ b2 / 64 = 2) ∧ (3 < (Lib.decodeN n b0 b1 b2 b3).2 → 3 < n ∧ b3 / 64 = 2) ∧ (Lib.decodeN n b0 b1 b2 b3).2 ≤ 4 ∧ 1 ≤ (Lib.decodeN n b0 b1 b2 b3).2 := by
  unfold Lib.decodeN
  split
  · simp
  · split
    · rename_i h
      split <;> simp [h.2.1,h.2.2]
    · split
      · rename_i h
        split <;> simp [h.2.1.1,h.2.1.2,h.2.2.1,h.2.2.2]
      · split
        · rename_i h
          split <;> simp [h.2.1.1,h.2.1.2,h.2.2.1.1,h.2.2.1.2,h.2.2.2.1,h.2.2.2.2]
        · simp
theorem get_list (l : List UInt8) (i : Nat) : (ByteArray.mk l.toArray).get! i = l.getD i 0 := by
  show l.toArray[i]! = l.getD i 0
  simp [List.getD_eq_getElem?_getD]
  rfl
theorem dec_eq (l : List UInt8) (h : l ≠ []) : dec l = Lib.decodeN l.length (l.getD 0 0).toNat (l.getD 1 0).toNat (l.getD 2 0).toNat (l.getD 3 0).toNat := by
  have h0 : (ByteArray.mk l.toArray).size ≠ 0 := by
    show l.toArray.size ≠ 0
    simpa using h
  unfold dec Lib.decodeGo
  rw [if_neg h0,Lib.decode_at,get_list,get_list,get_list,get_list]
  rfl
theorem dec_len (l : List UInt8) (h : l ≠ []) : 1 ≤ (dec l).2 ∧ (dec l).2 ≤ l.length := by
  rw [dec_eq l h]
  obtain ⟨a1,a2,a3,a4,a5⟩ := dn_cont l.length (l.getD 0 0).toNat (l.getD 1 0).toNat (l.getD 2 0).toNat (l.getD 3 0).toNat
  have : 0 < l.length := List.length_pos_iff.2 h
  omega
theorem cleanF_more : ∀ (f g : Nat) (l : List UInt8),l.length ≤ f → l.length ≤ g → cleanF f l = cleanF g l
  | 0,g,l,hf,hg => by
    have : l = [] := List.length_eq_zero_iff.1 (by omega)
    subst this
    cases g <;> rfl
  | f + 1,0,l,hf,hg => by
    have : l = [] := List.length_eq_zero_iff.1 (by omega)
    subst this
    rfl
  | f + 1,g + 1,[],hf,hg => rfl
  | f + 1,g + 1,x :: t,hf,hg => by
    have hd := dec_len (x :: t) (by simp)
    unfold cleanF
    simp only [List.length_cons] at hf hg hd
    rw [cleanF_more f g t (by omega) (by omega),cleanF_more f g ((x :: t).drop (dec (x :: t)).2) (by simp;omega) (by simp;omega)]
theorem clean_bad (x : UInt8) (t : List UInt8) (h : x = 0 ∨ ((dec (x :: t)).2 = 1 ∧ 128 ≤ x.toNat)) : clean (x :: t) = [239,191,189] ++ clean t := by
  show cleanF (t.length + 1) (x :: t) = _
  rw [cleanF,if_pos h]
  rfl
theorem clean_good (x : UInt8) (t : List UInt8) (h : ¬ (x = 0 ∨ ((dec (x :: t)).2 = 1 ∧ 128 ≤ x.toNat))) : clean (x :: t) = (x :: t).take (dec (x :: t)).2 ++ clean ((x :: t).drop (dec (x :: t)).2) := by
  have hd := dec_len (x :: t) (by simp)
  simp only [List.length_cons] at hd
  show cleanF (t.length + 1) (x :: t) = _
  rw [cleanF,if_neg h]
  congr 1
  exact cleanF_more _ _ _ (by simp;omega) (Nat.le_refl _)
theorem clean_le (l : List UInt8) : (clean l).length ≤ 3 * l.length := by
  suffices ∀ f (l : List UInt8),(cleanF f l).length ≤ 3 * l.length from this _ l
  intro f
  induction f with
  | zero => intro l;simp [cleanF]
  | succ f ih =>
    intro l
    cases l with
    | nil => simp [cleanF]
    | cons x t =>
      have hd := dec_len (x :: t) (by simp)
      unfold cleanF
      split
      · have := ih t;simp;omega
      · have := ih ((x :: t).drop (dec (x :: t)).2)
        simp only [List.length_append,List.length_take,List.length_drop,List.length_cons] at this hd ⊢
        omega
end Go.Proofs.YtekifcbokdidlaaGreatDoor.Pl

namespace Go.Proofs.YtekifcbokdidlaaGreatDoor.PA
open Go.RowKit Go.Proofs.YtekifcbokdidlaaGreatDoorW.PrintWords Go.Proofs.YtekifcbokdidlaaGreatDoorW.PrintLast Go.Proofs.YtekifcbokdidlaaGreatDoorW.PrintMore Go.Proofs.YtekifcbokdidlaaGreatDoor.Pl
set_option linter.unusedVariables false

theorem ext240 : Builder.Extra Tryz.prog Tryz.lays240_ren := {
  sizeBuilder := by kernel_rfl,
  liesBuilder := by kernel_rfl,
  t5 := Tryz.underlying5,
  a5 := Tryz.isAgg5,
  z5 := Tryz.sizeOf5,
  v5 := Tryz.zeroValue5,
  infoByte := by kernel_rfl,
  cellsByte := by kernel_rfl,
  sizeByte := by kernel_rfl,
  neB5 := by decide }
theorem bWrite (B b : Nat) (bs : List Value) (ad : Addr) (m c : Nat) (news : List Value) (w : World) (h : Lib.IsBuilder 72 5 B b bs w)
    (hl : news.length = m) (hnews : ∀ j u,news[j]? = some u → w.cell? (ad.add j) = some u) (hadB : ad.block < B) (h1 : ∀ u ∈ news,u.oneCell' = true)
    (hlen : bs.length + m ≤ 140737488355328) (hBw : B ≤ w.heap.size) :
    Calls Tryz.prog 68 #[.pointer (some ⟨b,0,none⟩),.slice (some ad) m c] w fun e w' => e = .returned (.tuple #[.int .i64 m,.nilIface]) ∧ (Lib.BuilderAt 72 5 B b (.pointer (some ⟨b,0,none⟩)) (bs ++ news) w' ∧ Below B w w') :=
  Any7.Builder_Write Tryz.lays7_35 Tryz.lays240 ext240 rfl rfl rfl B b bs ad m c news w h hl hnews hadB h1 hlen hBw
theorem isB_below {T e B b : Nat} {bs : List Value} {w w' : World} (h : Lib.IsBuilder T e B b bs w) (hb : Below w.heap.size w w') : Lib.IsBuilder T e B b bs w' := by
  have go : ∀ p,Lib.BuilderAt T e B b p bs w → Lib.BuilderAt T e B b p bs w' := by
    intro p h
    have hlt := h.lt
    obtain ⟨h1,v,h2,h3,h4⟩ := h
    exact ⟨h1,v,(hb.block _ hlt).trans h2,pw_own_below h3 hb,h4⟩
  rcases h with h | h
  · exact .inl (go _ h)
  · exact .inr (go _ h)
/-- A row of bytes that is read: where it lies. -/
theorem bytes_lie {w : World} {A : Option Addr} {l : List Int} (h : Kd.C (Kd.int .u8) w A l.length l) (h0 : 0 < l.length) :
    ∃ b off,A = some ⟨b,off,none⟩ ∧ b < w.heap.size ∧ ∀ j,j < l.length → w.cell? ⟨b,off + j,none⟩ = some (.int .u8 (l.getD j 0)) := by
  obtain ⟨ad,rfl,hc⟩ := h.2.2 h0
  have hcell : ∀ j,j < l.length → w.cell? (ad.add j) = some (.int .u8 (l.getD j 0)) := by
    intro j hj
    obtain ⟨c,hl,hr,hx⟩ := hc j _ (List.getElem?_eq_getElem hj)
    have hr' : c = [.int .u8 l[j]] := hr
    subst hr'
    have := hx 0 (.int .u8 l[j]) rfl
    simp only [show (Kd.int .u8).sz = 1 from rfl,Nat.mul_one,Nat.add_zero] at this
    rw [this,List.getD_eq_getElem?_getD,List.getElem?_eq_getElem hj]
    rfl
  have h00 := hcell 0 h0
  obtain ⟨b,off,sp⟩ := ad
  have hsp : sp = none := by
    cases sp with
    | none => rfl
    | some q =>
      simp only [Addr.add,if_true,World.cell?] at h00
      split at h00 <;> simp at h00
  subst hsp
  refine ⟨b,off,rfl,World.block_lt_of_cell? w _ h00,fun j hj => ?_⟩
  rw [← hcell j hj]
  congr 1
  unfold Addr.add
  split
  · rename_i e;subst e;rfl
  · rfl
theorem u8s_get (l : List Int) (hok : okB l = true) (j : Nat) (hj : j < l.length) : ((u8s l).getD j 0).toNat = (l.getD j 0).toNat ∧ 0 ≤ l.getD j 0 ∧ l.getD j 0 < 256 := by
  have hx := List.all_eq_true.1 hok l[j] (List.getElem_mem hj)
  simp only [decide_eq_true_eq] at hx
  have e1 : l.getD j 0 = l[j] := by rw [List.getD_eq_getElem?_getD,List.getElem?_eq_getElem hj];rfl
  have e2 : (u8s l).getD j 0 = l[j].toNat.toUInt8 := by
    rw [List.getD_eq_getElem?_getD]
    simp [u8s,hj]
  rw [e1,e2]
  refine ⟨?_,hx.1,hx.2⟩
  rw [Nat.toUInt8,UInt8.toNat_ofNat']
  omega
theorem u8s_length (l : List Int) : (u8s l).length = l.length := by simp [u8s]
theorem okB_drop (l : List Int) (n : Nat) (h : okB l = true) : okB (l.drop n) = true := by
  unfold okB at *
  rw [List.all_eq_true] at *
  exact fun x hx => h x (List.mem_of_mem_drop hx)
/-- The decoder at a row of bytes. -/
theorem decode_row (l : List Int) (b off c : Nat) (w : World) (hL : Laid w) (hok : okB l = true) (hc : ∀ j,j < l.length → w.cell? ⟨b,off + j,none⟩ = some (.int .u8 (l.getD j 0))) :
    Calls Tryz.prog 67 #[.slice (some ⟨b,off,none⟩) l.length c] w fun e w' => e = .returned (.tuple #[.int .i32 (dec (u8s l)).1,.int .i64 (dec (u8s l)).2]) ∧ Below w.heap.size w w' := by
  have hs : (ByteArray.mk (u8s l).toArray).size = l.length := by
    show (u8s l).toArray.size = _
    simp [u8s]
  have := Any7.utf8_DecodeRune Tryz.lays7_32 ⟨(u8s l).toArray⟩ b off c w hL.tabs (by
    intro j hj
    rw [hs] at hj
    rw [hc j hj,get_list]
    obtain ⟨e1,e2,e3⟩ := u8s_get l hok j hj
    rw [e1,Int.toNat_of_nonneg e2])
  rw [hs] at this
  exact this
/-- A row that is cut in front, by a number. -/
theorem cutD {w : World} {A : Option Addr} {c : Nat} {l : List Int} (hr : Kd.C (Kd.int .u8) w A l.length l) (hc : l.length ≤ c) (j : Int) (h0 : 0 ≤ j) (hj : j ≤ l.length) :
    ∃ A1 c1,(∀ W,(Instr.slice 60 (.slice A l.length c) (some (.int .i64 j)) none none).run Tryz.prog W = .ok (.slice A1 (l.drop j.toNat).length c1) W) ∧ (l.drop j.toNat).length ≤ c1 ∧ Kd.C (Kd.int .u8) w A1 (l.drop j.toNat).length (l.drop j.toNat) := by
  obtain ⟨i0,hi0,_,hsz0,_⟩ := info_parts info5
  have hcut := cut_from (P := Tryz.prog) 60 5 .i64 Tryz.underlying60 hi0 1 hsz0 A l.length c j h0 hj
  have h1 := Kd.C_drop (m := j.toNat) hr (by omega) hc
  exact ⟨_,c - j.toNat,fun W => by rw [hcut W,List.length_drop];rfl,by rw [List.length_drop];omega,h1⟩
theorem cutT {A : Option Addr} {c : Nat} {l : List Int} (hc : l.length ≤ c) (j : Int) (h0 : 0 ≤ j) (hj : j ≤ l.length) :
    ∀ W,(Instr.slice 60 (.slice A l.length c) none (some (.int .i64 j)) none).run Tryz.prog W = .ok (.slice A j.toNat c) W := by
  obtain ⟨i0,hi0,_,hsz0,_⟩ := info_parts info5
  exact cut_to (P := Tryz.prog) 60 5 .i64 Tryz.underlying60 hi0 A l.length c j h0 hj hc
theorem row_cells {w : World} {b off nn : Nat} {l : List Int} (hok : okB l = true) (hn : nn ≤ l.length) (hc : ∀ j,j < l.length → w.cell? ⟨b,off + j,none⟩ = some (.int .u8 (l.getD j 0))) :
    ∀ j u,(Lib.byteCells (u8s (l.take nn)))[j]? = some u → w.cell? ((⟨b,off,none⟩ : Addr).add j) = some u := by
  intro j u hu
  have hj : j < (Lib.byteCells (u8s (l.take nn))).length := (List.getElem?_eq_some_iff.1 hu).1
  rw [Lib.byteCells_length,u8s_length,List.length_take] at hj
  have hj2 : j < l.length := by omega
  have e1 : (⟨b,off,none⟩ : Addr).add j = ⟨b,off + j,none⟩ := by
    unfold Addr.add
    split
    · rename_i e;subst e;rfl
    · rfl
  rw [e1,hc j hj2,← hu]
  obtain ⟨g1,g2,g3⟩ := u8s_get l hok j hj2
  have e2 : (u8s (l.take nn))[j]? = some ((u8s l).getD j 0) := by
    have : u8s (l.take nn) = (u8s l).take nn := by simp [u8s]
    rw [this,List.getElem?_take,if_pos (by omega),List.getD_eq_getElem?_getD,List.getElem?_eq_getElem (by rw [u8s_length];exact hj2)]
    rfl
  rw [Lib.byteCells,List.getElem?_map,e2,Option.map_some,g1,Int.toNat_of_nonneg g2]

set_option maxHeartbeats 2000000 in
set_option maxRecDepth 100000 in
theorem text_Clean.walk (A0 : Option Addr) (c0 : Nat) (l0 : List Int) (w : World) (hLd : Laid w) (hr0 : Kd.C (Kd.int .u8) w A0 l0.length l0) (hc0 : l0.length ≤ c0) (hok : okB l0 = true) (hn : l0.length ≤ 40000000000000) :
    Calls Tryz.prog 41 #[.slice A0 l0.length c0] w fun e w' => e = .returned (.string ⟨(clean (u8s l0)).toArray⟩) ∧ Below w.heap.size w w' := by
  have HR := Aside0.mk hr0
  have HC := Aside0.mk hc0
  have HO := Aside0.mk hok
  have HN := Aside0.mk hn
  clear hr0 hc0 hok hn
  go_enter Tryz.func41,Tryz.ntmps41
  go_wp2
  go_step3
  go_wp2
  go_step3
  go_wp2
  go_loopg [0] l0.length (fun g v0 wr => ∃ (l : List Int) (A : Option Addr) (c : Nat) (acc : List UInt8),v0 = .slice A l.length c ∧ Aside0 (l.length ≤ c) ∧ Aside0 (l.length ≤ g) ∧ Aside0 (Kd.C (Kd.int .u8) w A l.length l) ∧ Aside0 (okB l = true) ∧ Aside0 (Lib.IsBuilder 72 5 w.heap.size w.heap.size (Lib.byteCells acc) wr) ∧ Aside0 (Below w.heap.size w wr) ∧ Aside0 (acc ++ clean (u8s l) = clean (u8s l0)) ∧ Aside0 (acc.length + 3 * l.length ≤ 3 * l0.length))
  case atStart =>
    exact ⟨l0,A0,c0,[],rfl,HC,⟨Nat.le_refl _⟩,HR,HO,⟨Lib.fresh_isBuilder _ _ w⟩,⟨(Below.refl _ w).alloc (Nat.le_refl _) _⟩,⟨rfl⟩,⟨by simp⟩⟩
  case round =>
    obtain ⟨l,A,c,acc,rfl,HC1,HG,HR1,HO1,HI,HB,HE,HS⟩ := hrel
    clear HR HC HO
    by_cases hz : 0 < l.length
    · obtain ⟨b,off,rfl,hbl,hcell⟩ := bytes_lie HR1.out hz
      have hx0 := u8s_get l HO1.out 0 hz
      obtain ⟨x,hx⟩ : ∃ x : Int,l.getD 0 0 = x := ⟨_,rfl⟩
      obtain ⟨nn,hnn⟩ : ∃ nn : Nat,(dec (u8s l)).2 = nn := ⟨_,rfl⟩
      have hd := dec_len (u8s l) (by intro e;have := u8s_length l;rw [e] at this;simp at this;omega)
      rw [hnn,u8s_length] at hd
      have hbs := HB.out.size
      have hdec := fun W (hW : Below w.heap.size w W) => decode_row l b off c W (hLd.go hW) HO1.out (fun j hj => by rw [← hcell j hj];exact hW.cell hbl)
      rw [hx] at hx0
      have HX := Aside0.mk hx
      have HNN := Aside0.mk hnn
      have HCE := Aside0.mk hcell
      have HX0 := Aside0.mk hx0
      have HD := Aside0.mk hdec
      have hx1 := hx0.2.1
      have hx2 := hx0.2.2
      have hd1 := hd.1
      have hd2 := hd.2
      clear hx hnn hcell hx0 hdec hd
      go_wp2_with fail
      refine (HD.out _ HB.out).mono ?_
      rintro e w1 ⟨rfl,hb1⟩
      rw [HNN.out]
      have hB1 : Below w.heap.size w w1 := below_then HB.out hbs hb1
      have hI1 := isB_below HI.out hb1
      have hc00 : w1.cell? ⟨b,off,none⟩ = some (.int .u8 x) := by rw [hB1.cell hbl,← HX.out];exact HCE.out 0 hz
      have HB1 := Aside0.mk hB1
      have HI1 := Aside0.mk hI1
      clear hB1 hI1 hb1 hbs
      have hbs1 := HB1.out.size
      obtain ⟨y,t,hyt⟩ : ∃ y t,u8s l = y :: t := by
        cases e : u8s l with
        | nil => have := u8s_length l;rw [e] at this;simp at this;omega
        | cons y t => exact ⟨y,t,rfl⟩
      have hy : y.toNat = x.toNat := by rw [← HX0.out.1,hyt];rfl
      have HYT := Aside0.mk hyt
      by_cases hbad : y = 0 ∨ (nn = 1 ∧ 128 ≤ y.toNat)
      · have hq : (x == 0) = true ∨ ((x == 0) = false ∧ ((nn : Int) == 1) = true ∧ decide (128 ≤ x) = true) := by
          by_cases h0 : x = 0
          · exact .inl (beq_iff_eq.2 h0)
          · rcases hbad with e | ⟨e1,e2⟩
            · subst e
              have : x.toNat = 0 := hy.symm
              omega
            · exact .inr ⟨beq_eq_false_iff_ne.2 h0,beq_iff_eq.2 (by omega),decide_eq_true (by omega)⟩
        have he := clean_bad y t (by rw [← hyt,HNN.out];exact hbad)
        have hdr : u8s (l.drop 1) = t := by
          have : (u8s l).drop 1 = t := by rw [hyt];rfl
          rw [← this]
          simp [u8s]
        obtain ⟨A1,c1,k1,k2,k3⟩ := cutD HR1.out HC1.out 1 (by omega) (by omega)
        simp only [show (1 : Int).toNat = 1 from rfl] at k1 k2 k3
        have HEE : Aside0 ((acc ++ [239,191,189]) ++ clean (u8s (l.drop 1)) = clean (u8s l0)) := ⟨by rw [hdr,List.append_assoc,← he,← hyt];exact HE.out⟩
        have hlen : (l.drop 1).length + 1 = l.length := by rw [List.length_drop];omega
        have HOK : Aside0 (okB (l.drop 1) = true) := ⟨okB_drop l 1 HO1.out⟩
        have HL1 := Aside0.mk hlen
        generalize l.drop 1 = l1 at k1 k2 k3 HEE HL1 HOK
        have HK1 := Aside0.mk k1
        have HK2 := Aside0.mk k2
        have HK3 := Aside0.mk k3
        clear k1 k2 k3 he hdr hbad hy hyt hlen
        rcases hq with q1 | ⟨q1,q2,q3⟩
        all_goals
          go_wp2_with fail
          refine (Tryz.Builder_WriteString w.heap.size w.heap.size _ ⟨#[239,191,189]⟩ _ HI1.out (by rw [Lib.byteCells_length];have := HS.out;have := HN.out;show acc.length + 3 ≤ _;omega) hbs1).mono ?_
          rintro e w2 ⟨rfl,h2,b2⟩
          have H2 := Aside0.mk h2
          have HB2 := Aside0.mk (HB1.out.trans b2)
          clear h2 b2
          have hk := HK1.out
          go_wp2
          go_roundg (gk - 1)
          case measure => have := HG.out;omega
          case rel =>
            refine ⟨l1,A1,c1,acc ++ [239,191,189],rfl,HK2,⟨by have := HL1.out;have := HG.out;omega⟩,HK3,HOK,⟨?_⟩,HB2,HEE,⟨by have := HL1.out;have := HS.out;rw [List.length_append];show acc.length + 3 + _ ≤ _;omega⟩⟩
            rw [Lib.byteCells_append]
            exact .inr H2.out
      · have hq : ((x == 0) = false ∧ ((nn : Int) == 1) = false) ∨ ((x == 0) = false ∧ ((nn : Int) == 1) = true ∧ decide (128 ≤ x) = false) := by
          have h0 : x ≠ 0 := by
            intro e
            subst e
            exact hbad (.inl (UInt8.toNat_inj.1 (by rw [hy];rfl)))
          by_cases h1 : nn = 1
          · exact .inr ⟨beq_eq_false_iff_ne.2 h0,beq_iff_eq.2 (by omega),decide_eq_false (fun h => hbad (.inr ⟨h1,by omega⟩))⟩
          · exact .inl ⟨beq_eq_false_iff_ne.2 h0,beq_eq_false_iff_ne.2 (by omega)⟩
        have he := clean_good y t (by rw [← hyt,HNN.out];exact hbad)
        rw [← hyt,HNN.out] at he
        have htk : (u8s l).take nn = u8s (l.take nn) := by simp [u8s]
        have hdr : (u8s l).drop nn = u8s (l.drop nn) := by simp [u8s]
        rw [htk,hdr] at he
        obtain ⟨A1,c1,k1,k2,k3⟩ := cutD HR1.out HC1.out (nn : Int) (by omega) (by omega)
        have k4 := cutT (A := some ⟨b,off,none⟩) HC1.out (nn : Int) (by omega) (by omega)
        simp only [Int.toNat_natCast] at k1 k2 k3 k4
        have HEE : Aside0 ((acc ++ u8s (l.take nn)) ++ clean (u8s (l.drop nn)) = clean (u8s l0)) := ⟨by rw [List.append_assoc,← he];exact HE.out⟩
        have hlen : (l.drop nn).length + nn = l.length := by rw [List.length_drop];omega
        have HOK : Aside0 (okB (l.drop nn) = true) := ⟨okB_drop l nn HO1.out⟩
        have HL1 := Aside0.mk hlen
        have HLW : Aside0 (∀ j u,(Lib.byteCells (u8s (l.take nn)))[j]? = some u → w1.cell? ((⟨b,off,none⟩ : Addr).add j) = some u) := ⟨row_cells HO1.out hd2 (fun j hj => by rw [HB1.out.cell (p := ⟨b,off + j,none⟩) hbl];exact HCE.out j hj)⟩
        have HLT : Aside0 ((Lib.byteCells (u8s (l.take nn))).length = nn) := ⟨by rw [Lib.byteCells_length,u8s_length,List.length_take];omega⟩
        generalize l.drop nn = l1 at k1 k2 k3 HEE HL1 HOK
        generalize u8s (l.take nn) = tk at HEE HLW HLT
        have HK1 := Aside0.mk k1
        have HK2 := Aside0.mk k2
        have HK3 := Aside0.mk k3
        clear k1 k2 k3 he hdr htk hbad hy hyt hlen
        rcases hq with ⟨q1,q2⟩ | ⟨q1,q2,q3⟩
        all_goals
          go_wp2_with fail
          refine (bWrite w.heap.size w.heap.size _ _ nn c (Lib.byteCells tk) _ HI1.out HLT.out HLW.out hbl (Lib.byteCells_one tk) (by rw [Lib.byteCells_length];have := HS.out;have := HN.out;omega) hbs1).mono ?_
          rintro e w2 ⟨rfl,h2,b2⟩
          have H2 := Aside0.mk h2
          have HB2 := Aside0.mk (HB1.out.trans b2)
          clear h2 b2 k4
          have hk := HK1.out
          go_wp2
          go_roundg (gk - 1)
          case measure => have := HG.out;omega
          case rel =>
            refine ⟨l1,A1,c1,acc ++ tk,rfl,HK2,⟨by have := HL1.out;have := HG.out;omega⟩,HK3,HOK,⟨?_⟩,HB2,HEE,⟨by have := HL1.out;have := HS.out;have := HLT.out;rw [Lib.byteCells_length] at this;rw [List.length_append];omega⟩⟩
            rw [Lib.byteCells_append]
            exact .inr H2.out
    · have hl0 : l = [] := List.length_eq_zero_iff.1 (by omega)
      subst hl0
      have hbs := HB.out.size
      clear hz
      go_wp2_with (go_at_call 64;refine (Tryz.Builder_String_any w.heap.size w.heap.size acc _ HI.out hbs).mono ?_;rintro e w1 ⟨rfl,hb1⟩)
      repeat (first | refine ex_noGoto_ret ?_ | refine ex_block_ret ?_ | refine ex_then_ret ?_)
      go_ret
      have hne : acc = clean (u8s l0) := (List.append_nil acc).symm.trans HE.out
      exact ⟨congrArg (fun z : List UInt8 => Ending.returned (.string ⟨z.toArray⟩)) hne,HB.out.trans hb1⟩

def text_Clean.f (l0 : List Int) : Option ByteArray := if okB l0 = true ∧ l0.length ≤ 40000000000000 then some ⟨(clean (u8s l0)).toArray⟩ else none
theorem text_Clean.calls (A0 : Option Addr) (c0 : Nat) (l0 : List Int) (r : ByteArray) (w : World) (hLd : Laid w) (hr0 : Kd.C (Kd.int .u8) w A0 l0.length l0) (hc0 : l0.length ≤ c0) (h : text_Clean.f l0 = some r) :
    Calls Tryz.prog 41 #[.slice A0 l0.length c0] w fun e w' => e = .returned (.string r) ∧ Below w.heap.size w w' := by
  unfold text_Clean.f at h
  split at h
  · rename_i hc
    obtain ⟨h1,h2⟩ := hc
    obtain rfl := Option.some.inj h
    exact text_Clean.walk A0 c0 l0 w hLd hr0 hc0 h1 h2
  · cases h
end Go.Proofs.YtekifcbokdidlaaGreatDoor.PA

namespace Go.Proofs.YtekifcbokdidlaaGreatDoor.PA
open Go.RowKit Go.Proofs.YtekifcbokdidlaaGreatDoorW.PrintWords Go.Proofs.YtekifcbokdidlaaGreatDoorW.PrintLast Go.Proofs.YtekifcbokdidlaaGreatDoorW.PrintMore Go.Proofs.YtekifcbokdidlaaGreatDoor.Pl
set_option linter.unusedVariables false

/-- A text's characters, by at most so many steps. -/
def rnsF (s : ByteArray) : Nat → Nat → List Int
  | 0,_ => []
  | f + 1,i => if i < s.size then ((Utf8.decode s i).1 : Int) :: rnsF s f (i + (Utf8.decode s i).2) else []
def rns (s : ByteArray) : List Int := rnsF s s.size 0
theorem runesFrom_eq (s : ByteArray) : ∀ (f i : Nat) (acc : Array Value),Conv.runesFrom s f i acc = acc ++ ((rnsF s f i).map fun n => Value.int .i32 n).toArray
  | 0,_,acc => by simp [Conv.runesFrom,rnsF]
  | f + 1,i,acc => by
    unfold Conv.runesFrom rnsF
    split
    · have := runesFrom_eq s f (i + (Utf8.decode s i).2) (acc.push (.int .i32 (Int.ofNat (Utf8.decode s i).1)))
      refine Eq.trans (b := Conv.runesFrom s f (i + (Utf8.decode s i).2) (acc.push (.int .i32 (Int.ofNat (Utf8.decode s i).1)))) rfl ?_
      rw [this]
      simp
    · simp
theorem rnsF_len (s : ByteArray) : ∀ f i,(rnsF s f i).length ≤ f
  | 0,_ => Nat.le_refl _
  | f + 1,i => by
    unfold rnsF
    split
    · rw [List.length_cons]
      exact Nat.succ_le_succ (rnsF_len s f _)
    · exact Nat.zero_le _
theorem rns_len (s : ByteArray) : (rns s).length ≤ s.size := rnsF_len s _ _
/-- The world behind '[]rune(s)'. -/
def runesWorld (w : World) (s : ByteArray) : World :=
  w.drew.alloc (.cells (Conv.runesFrom s s.size 0 #[] ++ Array.replicate (grownCap w (rns s).length 0 21 - (rns s).length) (.int .i32 0)) 21)
theorem runes_size (s : ByteArray) : (Conv.runesFrom s s.size 0 #[]).size = (rns s).length := by
  rw [runesFrom_eq]
  simp [rns]
theorem runes_conv (s : ByteArray) (w : World) (h : s.size ≤ 70368744177664) :
    (convert 9 73 (.string s)).run Tryz.prog w = .ok (.slice (some ⟨w.heap.size,0,none⟩) (rns s).length (grownCap w (rns s).length 0 21)) (runesWorld w s) := by
  have h0 := rns_len s
  have := run_runes_of_string (P := Tryz.prog) w 9 73 21 s Tryz.underlying9 Tryz.underlying73 Tryz.underlying21 (by rw [runes_size];omega)
  rw [runes_size] at this
  exact this
theorem runes_own (s : ByteArray) (w : World) (base : Nat) (hb : base ≤ w.heap.size) (h : s.size ≤ 70368744177664) :
    Kd.R (Kd.int .i32) 21 (runesWorld w s) base (fun _ => True) (.slice (some ⟨w.heap.size,0,none⟩) (rns s).length (grownCap w (rns s).length 0 21)) (rns s) := by
  have h0 := rns_len s
  have hge := grownCap_ge w (rns s).length 0 21
  refine Kd.R_of_own ⟨by simp [encs],.inr ⟨w.heap.size,_,_,rfl,hb,heap_alloc_new w.drew _,hge,grownCap_le_maxLen w _ 0 _ (by unfold maxLen;omega),?_,?_⟩⟩ (fun _ _ => trivial)
  · rw [Array.size_append,runes_size,Array.size_replicate]
    omega
  · rw [runesFrom_eq]
    simp only [Array.toList_append,List.nil_append,List.take_append]
    rw [Nat.mul_one]
    have : ((rnsF s s.size 0).map fun n => Value.int .i32 n).length = (rns s).length := by rw [List.length_map];rfl
    rw [List.take_of_length_le (by rw [this];exact Nat.le_refl _),this,Nat.sub_self,List.take_zero,List.append_nil]
    rfl
theorem runes_below (s : ByteArray) (w : World) : Below w.heap.size w (runesWorld w s) := (Below.refl _ w).drew.alloc (Nat.le_refl _) _
set_option maxHeartbeats 1000000 in
set_option maxRecDepth 100000 in
theorem text_Runes.walk (s : ByteArray) (w : World) (hLd : Laid w) (hs : s.size ≤ 20000000000000) :
    Calls Tryz.prog 62 #[.string s] w fun e w' => ∃ v0_,e = .returned v0_ ∧ Kd.R (Kd.int .i32) 21 w' w.heap.size (fun _ => True) v0_ (rns (B (clean s.data.toList))) ∧ Below w.heap.size w w' := by
  have hbw := bytes_below (Below.refl w.heap.size w) (Nat.le_refl _) 5 s
  have hrd := bytes_reads w 5 s (by omega)
  have hL := hLd.go hbw
  have hcl := clean_le s.data.toList
  have hcs : s.data.toList.length = s.size := by rw [Array.length_toList];rfl
  have hcz : (B (clean s.data.toList)).size ≤ 70368744177664 := by rw [B_size];omega
  have hcap := grownCap_ge w s.size 0 5
  have hf : text_Clean.f (bytesOf s) = some (B (clean s.data.toList)) := by
    unfold text_Clean.f
    have h1 : okB (bytesOf s) = true := by
      unfold okB bytesOf
      rw [List.all_map,List.all_eq_true]
      intro x _
      have := x.toNat_lt
      simp
      omega
    have h2 : u8s (bytesOf s) = s.data.toList := by
      unfold u8s bytesOf
      rw [List.map_map]
      conv => rhs;rw [← List.map_id s.data.toList]
      refine List.map_congr_left (fun x _ => ?_)
      simp
    rw [if_pos ⟨h1,by rw [bytesOf_length];omega⟩,h2]
    rfl
  have hcall := fun (c : Nat) (hc : s.size ≤ c) => text_Clean.calls (some ⟨w.heap.size,0,none⟩) c (bytesOf s) (B (clean s.data.toList)) _ hL (by rw [bytesOf_length];exact Kd.C_of_reads (d := (0 : Int)) (h1 := fun _ => rfl) hrd) (by rw [bytesOf_length];exact hc) hf
  rw [bytesOf_length] at hcall
  have HC := Aside0.mk hcall
  have HBW := Aside0.mk hbw
  have hws : w.heap.size ≤ (Lib.bytesWorld w 5 s).heap.size := hbw.size
  clear hcall hrd hL hf hbw
  have kb := fun W => print_bytes (P := Tryz.prog) 9 60 5 Tryz.underlying9 Tryz.underlying60 Tryz.underlying5 s W
  go_enter Tryz.func62,Tryz.ntmps62
  go_wp2_with fail
  refine (HC.out _ hcap).mono ?_
  rintro e w1 ⟨rfl,hb1⟩
  have HB1 := Aside0.mk (HBW.out.trans (hb1.mono hws))
  have hsz := HB1.out.size
  clear hb1 HC kb
  have kr := runes_conv (B (clean s.data.toList)) w1 hcz
  have HO := Aside0.mk (runes_own (B (clean s.data.toList)) w1 w.heap.size hsz hcz)
  have HW := Aside0.mk (HB1.out.trans ((runes_below (B (clean s.data.toList)) w1).mono hsz))
  obtain ⟨r,hr⟩ : ∃ r,B (clean s.data.toList) = r := ⟨_,rfl⟩
  rw [hr] at kr HO HW hcz ⊢
  have HR := Aside0.mk hr
  clear hr
  go_wp2
  go_ret
  rw [HR.out]
  exact ⟨_,rfl,HO.out,HW.out⟩
def text_Runes.f (a0 : ByteArray) : Option (List Int) := if a0.size ≤ 20000000000000 then some (rns (B (clean a0.data.toList))) else none
theorem text_Runes.calls (a0 : ByteArray) (r : List Int) (w : World) (hLd : Laid w) (h : text_Runes.f a0 = some r) :
    Calls Tryz.prog 62 #[.string a0] w fun e w' => ∃ v0_,e = .returned v0_ ∧ Kd.R (Kd.int .i32) 21 w' w.heap.size (fun _ => True) v0_ r ∧ Below w.heap.size w w' := by
  unfold text_Runes.f at h
  split at h
  · rename_i hc
    obtain rfl := Option.some.inj h
    exact text_Runes.walk a0 w hLd hc
  · cases h
end Go.Proofs.YtekifcbokdidlaaGreatDoor.PA

namespace Go.Proofs.YtekifcbokdidlaaGreatDoor.PA
open Go.RowKit Go.Proofs.YtekifcbokdidlaaGreatDoorW.PrintWords Go.Proofs.YtekifcbokdidlaaGreatDoorW.PrintLast Go.Proofs.YtekifcbokdidlaaGreatDoorW.PrintMore Go.Proofs.YtekifcbokdidlaaGreatDoor.Pl
set_option linter.unusedVariables false

/-- A character without capitals. -/
def foldR (r : Int) : Int :=
  if r = 962 then 963
  else if (65 ≤ r ∧ r ≤ 90) ∨ (192 ≤ r ∧ r ≤ 222 ∧ r ≠ 215) ∨ (913 ≤ r ∧ r ≤ 939 ∧ r ≠ 930) ∨ (1040 ≤ r ∧ r ≤ 1071) then r + 32
  else if 1024 ≤ r ∧ r ≤ 1039 then r + 80 else r
/-- Its bytes. -/
def foldB (r : Int) : List UInt8 := if r = 223 ∨ r = 7838 then [115,115] else Lib.encodeRune (foldR r)
theorem foldB_ss {r : Int} (h : r = 223 ∨ r = 7838) : foldB r = [115,115] := if_pos h
theorem foldB_no {r n : Int} (h1 : r ≠ 223) (h2 : r ≠ 7838) (h3 : foldR r = n) : foldB r = Lib.encodeRune n := by unfold foldB;rw [if_neg (by rintro (e | e);exact h1 e;exact h2 e),h3]
def FoldGoal (B b : Nat) (l : List UInt8) (r : Int) (w : World) : Prop :=
  Calls Tryz.prog 63 #[.pointer (some ⟨b,0,none⟩),.int .i32 r] w fun e w' => e = .returned (.tuple #[]) ∧ Lib.IsBuilderF 72 5 B b (Lib.byteCells (l ++ foldB r)) w' ∧ Below B w w' ∧ Lib.OthersKept 5 (some b) w w'

set_option maxHeartbeats 1000000 in
set_option maxRecDepth 100000 in
theorem fold_0 (B b : Nat) (l : List UInt8) (r : Int) (h0 : 0 ≤ r) (h1 : r ≤ 64) (w : World) (h : Lib.IsBuilderF 72 5 B b (Lib.byteCells l) w) (hlen : l.length + 4 ≤ 140737488355328) (hBw : B ≤ w.heap.size) : FoldGoal B b l r w := by
  have HB := Lib.hid (foldB_no (r := r) (n := r) (by omega) (by omega) (by unfold foldR;rw [if_neg (by omega),if_neg (by omega),if_neg (by omega)]))
  have hz : (Lib.byteCells l).length = l.length := Lib.byteCells_length l
  have HW := Lib.hid (Tryz.Builder_WriteRune_k B b (Lib.byteCells l) (r) (by omega) (by omega) w h (by omega) hBw)
  have q0 : (r == 223) = false := beq_eq_false_iff_ne.2 (by omega)
  have q1 : (r == 7838) = false := beq_eq_false_iff_ne.2 (by omega)
  have q2 : (r == 962) = false := beq_eq_false_iff_ne.2 (by omega)
  have q3 : decide (65 ≤ r) = false := decide_eq_false (by omega)
  have q4 : decide (r ≤ 90) = true := decide_eq_true (by omega)
  have q5 : decide (192 ≤ r) = false := decide_eq_false (by omega)
  have q6 : decide (r ≤ 222) = true := decide_eq_true (by omega)
  have q7 : (r == 215) = false := beq_eq_false_iff_ne.2 (by omega)
  have q7b : (r != 215) = true := by rw [bne,q7];rfl
  have q8 : decide (913 ≤ r) = false := decide_eq_false (by omega)
  have q9 : decide (r ≤ 939) = true := decide_eq_true (by omega)
  have q10 : (r == 930) = false := beq_eq_false_iff_ne.2 (by omega)
  have q10b : (r != 930) = true := by rw [bne,q10];rfl
  have q11 : decide (1040 ≤ r) = false := decide_eq_false (by omega)
  have q12 : decide (r ≤ 1071) = true := decide_eq_true (by omega)
  have q13 : decide (1024 ≤ r) = false := decide_eq_false (by omega)
  have q14 : decide (r ≤ 1039) = true := decide_eq_true (by omega)
  clear hlen h0 h1 hz
  unfold FoldGoal
  rw [HB.out,Lib.byteCells_append]
  clear HB h hBw
  go_enter Tryz.func63,Tryz.ntmps63
  go_wp2_with fail
  refine HW.out.mono ?_
  rintro e w1 ⟨rfl,h1,h2,h3⟩
  rw [← Lib.byteCells_encodeRune] at h1
  go_wp2
  go_end0
  exact ⟨rfl,.inr h1,h2,h3⟩
set_option maxHeartbeats 1000000 in
set_option maxRecDepth 100000 in
theorem fold_1 (B b : Nat) (l : List UInt8) (r : Int) (h0 : 65 ≤ r) (h1 : r ≤ 90) (w : World) (h : Lib.IsBuilderF 72 5 B b (Lib.byteCells l) w) (hlen : l.length + 4 ≤ 140737488355328) (hBw : B ≤ w.heap.size) : FoldGoal B b l r w := by
  have HB := Lib.hid (foldB_no (r := r) (n := r + 32) (by omega) (by omega) (by unfold foldR;rw [if_neg (by omega),if_pos (by omega)]))
  have hz : (Lib.byteCells l).length = l.length := Lib.byteCells_length l
  have HW := Lib.hid (Tryz.Builder_WriteRune_k B b (Lib.byteCells l) (r + 32) (by omega) (by omega) w h (by omega) hBw)
  have q0 : (r == 223) = false := beq_eq_false_iff_ne.2 (by omega)
  have q1 : (r == 7838) = false := beq_eq_false_iff_ne.2 (by omega)
  have q2 : (r == 962) = false := beq_eq_false_iff_ne.2 (by omega)
  have q3 : decide (65 ≤ r) = true := decide_eq_true (by omega)
  have q4 : decide (r ≤ 90) = true := decide_eq_true (by omega)
  have q5 : decide (192 ≤ r) = false := decide_eq_false (by omega)
  have q6 : decide (r ≤ 222) = true := decide_eq_true (by omega)
  have q7 : (r == 215) = false := beq_eq_false_iff_ne.2 (by omega)
  have q7b : (r != 215) = true := by rw [bne,q7];rfl
  have q8 : decide (913 ≤ r) = false := decide_eq_false (by omega)
  have q9 : decide (r ≤ 939) = true := decide_eq_true (by omega)
  have q10 : (r == 930) = false := beq_eq_false_iff_ne.2 (by omega)
  have q10b : (r != 930) = true := by rw [bne,q10];rfl
  have q11 : decide (1040 ≤ r) = false := decide_eq_false (by omega)
  have q12 : decide (r ≤ 1071) = true := decide_eq_true (by omega)
  have q13 : decide (1024 ≤ r) = false := decide_eq_false (by omega)
  have q14 : decide (r ≤ 1039) = true := decide_eq_true (by omega)
  have s0 : -2147483648 ≤ r + 32 := by omega
  have s1 : r + 32 ≤ 2147483647 := by omega
  have s2 : IntKind.i32.wrap (r + 32) = r + 32 := by rw [IntKind.wrap_i32];omega
  clear hlen h0 h1 hz
  unfold FoldGoal
  rw [HB.out,Lib.byteCells_append]
  clear HB h hBw
  go_enter Tryz.func63,Tryz.ntmps63
  go_wp2_with fail
  refine HW.out.mono ?_
  rintro e w1 ⟨rfl,h1,h2,h3⟩
  rw [← Lib.byteCells_encodeRune] at h1
  go_wp2
  go_end0
  exact ⟨rfl,.inr h1,h2,h3⟩
set_option maxHeartbeats 1000000 in
set_option maxRecDepth 100000 in
theorem fold_2 (B b : Nat) (l : List UInt8) (r : Int) (h0 : 91 ≤ r) (h1 : r ≤ 191) (w : World) (h : Lib.IsBuilderF 72 5 B b (Lib.byteCells l) w) (hlen : l.length + 4 ≤ 140737488355328) (hBw : B ≤ w.heap.size) : FoldGoal B b l r w := by
  have HB := Lib.hid (foldB_no (r := r) (n := r) (by omega) (by omega) (by unfold foldR;rw [if_neg (by omega),if_neg (by omega),if_neg (by omega)]))
  have hz : (Lib.byteCells l).length = l.length := Lib.byteCells_length l
  have HW := Lib.hid (Tryz.Builder_WriteRune_k B b (Lib.byteCells l) (r) (by omega) (by omega) w h (by omega) hBw)
  have q0 : (r == 223) = false := beq_eq_false_iff_ne.2 (by omega)
  have q1 : (r == 7838) = false := beq_eq_false_iff_ne.2 (by omega)
  have q2 : (r == 962) = false := beq_eq_false_iff_ne.2 (by omega)
  have q3 : decide (65 ≤ r) = true := decide_eq_true (by omega)
  have q4 : decide (r ≤ 90) = false := decide_eq_false (by omega)
  have q5 : decide (192 ≤ r) = false := decide_eq_false (by omega)
  have q6 : decide (r ≤ 222) = true := decide_eq_true (by omega)
  have q7 : (r == 215) = false := beq_eq_false_iff_ne.2 (by omega)
  have q7b : (r != 215) = true := by rw [bne,q7];rfl
  have q8 : decide (913 ≤ r) = false := decide_eq_false (by omega)
  have q9 : decide (r ≤ 939) = true := decide_eq_true (by omega)
  have q10 : (r == 930) = false := beq_eq_false_iff_ne.2 (by omega)
  have q10b : (r != 930) = true := by rw [bne,q10];rfl
  have q11 : decide (1040 ≤ r) = false := decide_eq_false (by omega)
  have q12 : decide (r ≤ 1071) = true := decide_eq_true (by omega)
  have q13 : decide (1024 ≤ r) = false := decide_eq_false (by omega)
  have q14 : decide (r ≤ 1039) = true := decide_eq_true (by omega)
  clear hlen h0 h1 hz
  unfold FoldGoal
  rw [HB.out,Lib.byteCells_append]
  clear HB h hBw
  go_enter Tryz.func63,Tryz.ntmps63
  go_wp2_with fail
  refine HW.out.mono ?_
  rintro e w1 ⟨rfl,h1,h2,h3⟩
  rw [← Lib.byteCells_encodeRune] at h1
  go_wp2
  go_end0
  exact ⟨rfl,.inr h1,h2,h3⟩
set_option maxHeartbeats 1000000 in
set_option maxRecDepth 100000 in
theorem fold_3 (B b : Nat) (l : List UInt8) (r : Int) (h0 : 192 ≤ r) (h1 : r ≤ 214) (w : World) (h : Lib.IsBuilderF 72 5 B b (Lib.byteCells l) w) (hlen : l.length + 4 ≤ 140737488355328) (hBw : B ≤ w.heap.size) : FoldGoal B b l r w := by
  have HB := Lib.hid (foldB_no (r := r) (n := r + 32) (by omega) (by omega) (by unfold foldR;rw [if_neg (by omega),if_pos (by omega)]))
  have hz : (Lib.byteCells l).length = l.length := Lib.byteCells_length l
  have HW := Lib.hid (Tryz.Builder_WriteRune_k B b (Lib.byteCells l) (r + 32) (by omega) (by omega) w h (by omega) hBw)
  have q0 : (r == 223) = false := beq_eq_false_iff_ne.2 (by omega)
  have q1 : (r == 7838) = false := beq_eq_false_iff_ne.2 (by omega)
  have q2 : (r == 962) = false := beq_eq_false_iff_ne.2 (by omega)
  have q3 : decide (65 ≤ r) = true := decide_eq_true (by omega)
  have q4 : decide (r ≤ 90) = false := decide_eq_false (by omega)
  have q5 : decide (192 ≤ r) = true := decide_eq_true (by omega)
  have q6 : decide (r ≤ 222) = true := decide_eq_true (by omega)
  have q7 : (r == 215) = false := beq_eq_false_iff_ne.2 (by omega)
  have q7b : (r != 215) = true := by rw [bne,q7];rfl
  have q8 : decide (913 ≤ r) = false := decide_eq_false (by omega)
  have q9 : decide (r ≤ 939) = true := decide_eq_true (by omega)
  have q10 : (r == 930) = false := beq_eq_false_iff_ne.2 (by omega)
  have q10b : (r != 930) = true := by rw [bne,q10];rfl
  have q11 : decide (1040 ≤ r) = false := decide_eq_false (by omega)
  have q12 : decide (r ≤ 1071) = true := decide_eq_true (by omega)
  have q13 : decide (1024 ≤ r) = false := decide_eq_false (by omega)
  have q14 : decide (r ≤ 1039) = true := decide_eq_true (by omega)
  have s0 : -2147483648 ≤ r + 32 := by omega
  have s1 : r + 32 ≤ 2147483647 := by omega
  have s2 : IntKind.i32.wrap (r + 32) = r + 32 := by rw [IntKind.wrap_i32];omega
  clear hlen h0 h1 hz
  unfold FoldGoal
  rw [HB.out,Lib.byteCells_append]
  clear HB h hBw
  go_enter Tryz.func63,Tryz.ntmps63
  go_wp2_with fail
  refine HW.out.mono ?_
  rintro e w1 ⟨rfl,h1,h2,h3⟩
  rw [← Lib.byteCells_encodeRune] at h1
  go_wp2
  go_end0
  exact ⟨rfl,.inr h1,h2,h3⟩
set_option maxHeartbeats 1000000 in
set_option maxRecDepth 100000 in
theorem fold_4 (B b : Nat) (l : List UInt8) (r : Int) (h0 : 215 ≤ r) (h1 : r ≤ 215) (w : World) (h : Lib.IsBuilderF 72 5 B b (Lib.byteCells l) w) (hlen : l.length + 4 ≤ 140737488355328) (hBw : B ≤ w.heap.size) : FoldGoal B b l r w := by
  have HB := Lib.hid (foldB_no (r := r) (n := r) (by omega) (by omega) (by unfold foldR;rw [if_neg (by omega),if_neg (by omega),if_neg (by omega)]))
  have hz : (Lib.byteCells l).length = l.length := Lib.byteCells_length l
  have HW := Lib.hid (Tryz.Builder_WriteRune_k B b (Lib.byteCells l) (r) (by omega) (by omega) w h (by omega) hBw)
  have q0 : (r == 223) = false := beq_eq_false_iff_ne.2 (by omega)
  have q1 : (r == 7838) = false := beq_eq_false_iff_ne.2 (by omega)
  have q2 : (r == 962) = false := beq_eq_false_iff_ne.2 (by omega)
  have q3 : decide (65 ≤ r) = true := decide_eq_true (by omega)
  have q4 : decide (r ≤ 90) = false := decide_eq_false (by omega)
  have q5 : decide (192 ≤ r) = true := decide_eq_true (by omega)
  have q6 : decide (r ≤ 222) = true := decide_eq_true (by omega)
  have q7 : (r == 215) = true := beq_iff_eq.2 (by omega)
  have q7b : (r != 215) = false := by rw [bne,q7];rfl
  have q8 : decide (913 ≤ r) = false := decide_eq_false (by omega)
  have q9 : decide (r ≤ 939) = true := decide_eq_true (by omega)
  have q10 : (r == 930) = false := beq_eq_false_iff_ne.2 (by omega)
  have q10b : (r != 930) = true := by rw [bne,q10];rfl
  have q11 : decide (1040 ≤ r) = false := decide_eq_false (by omega)
  have q12 : decide (r ≤ 1071) = true := decide_eq_true (by omega)
  have q13 : decide (1024 ≤ r) = false := decide_eq_false (by omega)
  have q14 : decide (r ≤ 1039) = true := decide_eq_true (by omega)
  clear hlen h0 h1 hz
  unfold FoldGoal
  rw [HB.out,Lib.byteCells_append]
  clear HB h hBw
  go_enter Tryz.func63,Tryz.ntmps63
  go_wp2_with fail
  refine HW.out.mono ?_
  rintro e w1 ⟨rfl,h1,h2,h3⟩
  rw [← Lib.byteCells_encodeRune] at h1
  go_wp2
  go_end0
  exact ⟨rfl,.inr h1,h2,h3⟩
set_option maxHeartbeats 1000000 in
set_option maxRecDepth 100000 in
theorem fold_5 (B b : Nat) (l : List UInt8) (r : Int) (h0 : 216 ≤ r) (h1 : r ≤ 222) (w : World) (h : Lib.IsBuilderF 72 5 B b (Lib.byteCells l) w) (hlen : l.length + 4 ≤ 140737488355328) (hBw : B ≤ w.heap.size) : FoldGoal B b l r w := by
  have HB := Lib.hid (foldB_no (r := r) (n := r + 32) (by omega) (by omega) (by unfold foldR;rw [if_neg (by omega),if_pos (by omega)]))
  have hz : (Lib.byteCells l).length = l.length := Lib.byteCells_length l
  have HW := Lib.hid (Tryz.Builder_WriteRune_k B b (Lib.byteCells l) (r + 32) (by omega) (by omega) w h (by omega) hBw)
  have q0 : (r == 223) = false := beq_eq_false_iff_ne.2 (by omega)
  have q1 : (r == 7838) = false := beq_eq_false_iff_ne.2 (by omega)
  have q2 : (r == 962) = false := beq_eq_false_iff_ne.2 (by omega)
  have q3 : decide (65 ≤ r) = true := decide_eq_true (by omega)
  have q4 : decide (r ≤ 90) = false := decide_eq_false (by omega)
  have q5 : decide (192 ≤ r) = true := decide_eq_true (by omega)
  have q6 : decide (r ≤ 222) = true := decide_eq_true (by omega)
  have q7 : (r == 215) = false := beq_eq_false_iff_ne.2 (by omega)
  have q7b : (r != 215) = true := by rw [bne,q7];rfl
  have q8 : decide (913 ≤ r) = false := decide_eq_false (by omega)
  have q9 : decide (r ≤ 939) = true := decide_eq_true (by omega)
  have q10 : (r == 930) = false := beq_eq_false_iff_ne.2 (by omega)
  have q10b : (r != 930) = true := by rw [bne,q10];rfl
  have q11 : decide (1040 ≤ r) = false := decide_eq_false (by omega)
  have q12 : decide (r ≤ 1071) = true := decide_eq_true (by omega)
  have q13 : decide (1024 ≤ r) = false := decide_eq_false (by omega)
  have q14 : decide (r ≤ 1039) = true := decide_eq_true (by omega)
  have s0 : -2147483648 ≤ r + 32 := by omega
  have s1 : r + 32 ≤ 2147483647 := by omega
  have s2 : IntKind.i32.wrap (r + 32) = r + 32 := by rw [IntKind.wrap_i32];omega
  clear hlen h0 h1 hz
  unfold FoldGoal
  rw [HB.out,Lib.byteCells_append]
  clear HB h hBw
  go_enter Tryz.func63,Tryz.ntmps63
  go_wp2_with fail
  refine HW.out.mono ?_
  rintro e w1 ⟨rfl,h1,h2,h3⟩
  rw [← Lib.byteCells_encodeRune] at h1
  go_wp2
  go_end0
  exact ⟨rfl,.inr h1,h2,h3⟩
set_option maxHeartbeats 1000000 in
set_option maxRecDepth 100000 in
theorem fold_6 (B b : Nat) (l : List UInt8) (r : Int) (h0 : 223 ≤ r) (h1 : r ≤ 223) (w : World) (h : Lib.IsBuilderF 72 5 B b (Lib.byteCells l) w) (hlen : l.length + 4 ≤ 140737488355328) (hBw : B ≤ w.heap.size) : FoldGoal B b l r w := by
  have HB := Lib.hid (foldB_ss (r := r) (by omega))
  have hz : (Lib.byteCells l).length = l.length := Lib.byteCells_length l
  have HW := Lib.hid (Tryz.Builder_WriteString_k B b (Lib.byteCells l) ⟨#[115,115]⟩ w h (by show _ + 2 ≤ _;omega) hBw)
  have q0 : (r == 223) = true := beq_iff_eq.2 (by omega)
  have q1 : (r == 7838) = false := beq_eq_false_iff_ne.2 (by omega)
  have q2 : (r == 962) = false := beq_eq_false_iff_ne.2 (by omega)
  have q3 : decide (65 ≤ r) = true := decide_eq_true (by omega)
  have q4 : decide (r ≤ 90) = false := decide_eq_false (by omega)
  have q5 : decide (192 ≤ r) = true := decide_eq_true (by omega)
  have q6 : decide (r ≤ 222) = false := decide_eq_false (by omega)
  have q7 : (r == 215) = false := beq_eq_false_iff_ne.2 (by omega)
  have q7b : (r != 215) = true := by rw [bne,q7];rfl
  have q8 : decide (913 ≤ r) = false := decide_eq_false (by omega)
  have q9 : decide (r ≤ 939) = true := decide_eq_true (by omega)
  have q10 : (r == 930) = false := beq_eq_false_iff_ne.2 (by omega)
  have q10b : (r != 930) = true := by rw [bne,q10];rfl
  have q11 : decide (1040 ≤ r) = false := decide_eq_false (by omega)
  have q12 : decide (r ≤ 1071) = true := decide_eq_true (by omega)
  have q13 : decide (1024 ≤ r) = false := decide_eq_false (by omega)
  have q14 : decide (r ≤ 1039) = true := decide_eq_true (by omega)
  clear hlen h0 h1 hz
  unfold FoldGoal
  rw [HB.out,Lib.byteCells_append]
  clear HB h hBw
  go_enter Tryz.func63,Tryz.ntmps63
  go_wp2_with fail
  refine HW.out.mono ?_
  rintro e w1 ⟨rfl,h1,h2,h3⟩
  go_wp2
  repeat (first | refine ex_noGoto_ret ?_ | refine ex_block_ret ?_ | refine ex_then_ret ?_)
  refine bodyPost_ret (results_none rfl _ _ _) rfl ?_
  exact ⟨rfl,.inr h1,h2,h3⟩
set_option maxHeartbeats 1000000 in
set_option maxRecDepth 100000 in
theorem fold_7 (B b : Nat) (l : List UInt8) (r : Int) (h0 : 224 ≤ r) (h1 : r ≤ 912) (w : World) (h : Lib.IsBuilderF 72 5 B b (Lib.byteCells l) w) (hlen : l.length + 4 ≤ 140737488355328) (hBw : B ≤ w.heap.size) : FoldGoal B b l r w := by
  have HB := Lib.hid (foldB_no (r := r) (n := r) (by omega) (by omega) (by unfold foldR;rw [if_neg (by omega),if_neg (by omega),if_neg (by omega)]))
  have hz : (Lib.byteCells l).length = l.length := Lib.byteCells_length l
  have HW := Lib.hid (Tryz.Builder_WriteRune_k B b (Lib.byteCells l) (r) (by omega) (by omega) w h (by omega) hBw)
  have q0 : (r == 223) = false := beq_eq_false_iff_ne.2 (by omega)
  have q1 : (r == 7838) = false := beq_eq_false_iff_ne.2 (by omega)
  have q2 : (r == 962) = false := beq_eq_false_iff_ne.2 (by omega)
  have q3 : decide (65 ≤ r) = true := decide_eq_true (by omega)
  have q4 : decide (r ≤ 90) = false := decide_eq_false (by omega)
  have q5 : decide (192 ≤ r) = true := decide_eq_true (by omega)
  have q6 : decide (r ≤ 222) = false := decide_eq_false (by omega)
  have q7 : (r == 215) = false := beq_eq_false_iff_ne.2 (by omega)
  have q7b : (r != 215) = true := by rw [bne,q7];rfl
  have q8 : decide (913 ≤ r) = false := decide_eq_false (by omega)
  have q9 : decide (r ≤ 939) = true := decide_eq_true (by omega)
  have q10 : (r == 930) = false := beq_eq_false_iff_ne.2 (by omega)
  have q10b : (r != 930) = true := by rw [bne,q10];rfl
  have q11 : decide (1040 ≤ r) = false := decide_eq_false (by omega)
  have q12 : decide (r ≤ 1071) = true := decide_eq_true (by omega)
  have q13 : decide (1024 ≤ r) = false := decide_eq_false (by omega)
  have q14 : decide (r ≤ 1039) = true := decide_eq_true (by omega)
  clear hlen h0 h1 hz
  unfold FoldGoal
  rw [HB.out,Lib.byteCells_append]
  clear HB h hBw
  go_enter Tryz.func63,Tryz.ntmps63
  go_wp2_with fail
  refine HW.out.mono ?_
  rintro e w1 ⟨rfl,h1,h2,h3⟩
  rw [← Lib.byteCells_encodeRune] at h1
  go_wp2
  go_end0
  exact ⟨rfl,.inr h1,h2,h3⟩
set_option maxHeartbeats 1000000 in
set_option maxRecDepth 100000 in
theorem fold_8 (B b : Nat) (l : List UInt8) (r : Int) (h0 : 913 ≤ r) (h1 : r ≤ 929) (w : World) (h : Lib.IsBuilderF 72 5 B b (Lib.byteCells l) w) (hlen : l.length + 4 ≤ 140737488355328) (hBw : B ≤ w.heap.size) : FoldGoal B b l r w := by
  have HB := Lib.hid (foldB_no (r := r) (n := r + 32) (by omega) (by omega) (by unfold foldR;rw [if_neg (by omega),if_pos (by omega)]))
  have hz : (Lib.byteCells l).length = l.length := Lib.byteCells_length l
  have HW := Lib.hid (Tryz.Builder_WriteRune_k B b (Lib.byteCells l) (r + 32) (by omega) (by omega) w h (by omega) hBw)
  have q0 : (r == 223) = false := beq_eq_false_iff_ne.2 (by omega)
  have q1 : (r == 7838) = false := beq_eq_false_iff_ne.2 (by omega)
  have q2 : (r == 962) = false := beq_eq_false_iff_ne.2 (by omega)
  have q3 : decide (65 ≤ r) = true := decide_eq_true (by omega)
  have q4 : decide (r ≤ 90) = false := decide_eq_false (by omega)
  have q5 : decide (192 ≤ r) = true := decide_eq_true (by omega)
  have q6 : decide (r ≤ 222) = false := decide_eq_false (by omega)
  have q7 : (r == 215) = false := beq_eq_false_iff_ne.2 (by omega)
  have q7b : (r != 215) = true := by rw [bne,q7];rfl
  have q8 : decide (913 ≤ r) = true := decide_eq_true (by omega)
  have q9 : decide (r ≤ 939) = true := decide_eq_true (by omega)
  have q10 : (r == 930) = false := beq_eq_false_iff_ne.2 (by omega)
  have q10b : (r != 930) = true := by rw [bne,q10];rfl
  have q11 : decide (1040 ≤ r) = false := decide_eq_false (by omega)
  have q12 : decide (r ≤ 1071) = true := decide_eq_true (by omega)
  have q13 : decide (1024 ≤ r) = false := decide_eq_false (by omega)
  have q14 : decide (r ≤ 1039) = true := decide_eq_true (by omega)
  have s0 : -2147483648 ≤ r + 32 := by omega
  have s1 : r + 32 ≤ 2147483647 := by omega
  have s2 : IntKind.i32.wrap (r + 32) = r + 32 := by rw [IntKind.wrap_i32];omega
  clear hlen h0 h1 hz
  unfold FoldGoal
  rw [HB.out,Lib.byteCells_append]
  clear HB h hBw
  go_enter Tryz.func63,Tryz.ntmps63
  go_wp2_with fail
  refine HW.out.mono ?_
  rintro e w1 ⟨rfl,h1,h2,h3⟩
  rw [← Lib.byteCells_encodeRune] at h1
  go_wp2
  go_end0
  exact ⟨rfl,.inr h1,h2,h3⟩
set_option maxHeartbeats 1000000 in
set_option maxRecDepth 100000 in
theorem fold_9 (B b : Nat) (l : List UInt8) (r : Int) (h0 : 930 ≤ r) (h1 : r ≤ 930) (w : World) (h : Lib.IsBuilderF 72 5 B b (Lib.byteCells l) w) (hlen : l.length + 4 ≤ 140737488355328) (hBw : B ≤ w.heap.size) : FoldGoal B b l r w := by
  have HB := Lib.hid (foldB_no (r := r) (n := r) (by omega) (by omega) (by unfold foldR;rw [if_neg (by omega),if_neg (by omega),if_neg (by omega)]))
  have hz : (Lib.byteCells l).length = l.length := Lib.byteCells_length l
  have HW := Lib.hid (Tryz.Builder_WriteRune_k B b (Lib.byteCells l) (r) (by omega) (by omega) w h (by omega) hBw)
  have q0 : (r == 223) = false := beq_eq_false_iff_ne.2 (by omega)
  have q1 : (r == 7838) = false := beq_eq_false_iff_ne.2 (by omega)
  have q2 : (r == 962) = false := beq_eq_false_iff_ne.2 (by omega)
  have q3 : decide (65 ≤ r) = true := decide_eq_true (by omega)
  have q4 : decide (r ≤ 90) = false := decide_eq_false (by omega)
  have q5 : decide (192 ≤ r) = true := decide_eq_true (by omega)
  have q6 : decide (r ≤ 222) = false := decide_eq_false (by omega)
  have q7 : (r == 215) = false := beq_eq_false_iff_ne.2 (by omega)
  have q7b : (r != 215) = true := by rw [bne,q7];rfl
  have q8 : decide (913 ≤ r) = true := decide_eq_true (by omega)
  have q9 : decide (r ≤ 939) = true := decide_eq_true (by omega)
  have q10 : (r == 930) = true := beq_iff_eq.2 (by omega)
  have q10b : (r != 930) = false := by rw [bne,q10];rfl
  have q11 : decide (1040 ≤ r) = false := decide_eq_false (by omega)
  have q12 : decide (r ≤ 1071) = true := decide_eq_true (by omega)
  have q13 : decide (1024 ≤ r) = false := decide_eq_false (by omega)
  have q14 : decide (r ≤ 1039) = true := decide_eq_true (by omega)
  clear hlen h0 h1 hz
  unfold FoldGoal
  rw [HB.out,Lib.byteCells_append]
  clear HB h hBw
  go_enter Tryz.func63,Tryz.ntmps63
  go_wp2_with fail
  refine HW.out.mono ?_
  rintro e w1 ⟨rfl,h1,h2,h3⟩
  rw [← Lib.byteCells_encodeRune] at h1
  go_wp2
  go_end0
  exact ⟨rfl,.inr h1,h2,h3⟩
set_option maxHeartbeats 1000000 in
set_option maxRecDepth 100000 in
theorem fold_10 (B b : Nat) (l : List UInt8) (r : Int) (h0 : 931 ≤ r) (h1 : r ≤ 939) (w : World) (h : Lib.IsBuilderF 72 5 B b (Lib.byteCells l) w) (hlen : l.length + 4 ≤ 140737488355328) (hBw : B ≤ w.heap.size) : FoldGoal B b l r w := by
  have HB := Lib.hid (foldB_no (r := r) (n := r + 32) (by omega) (by omega) (by unfold foldR;rw [if_neg (by omega),if_pos (by omega)]))
  have hz : (Lib.byteCells l).length = l.length := Lib.byteCells_length l
  have HW := Lib.hid (Tryz.Builder_WriteRune_k B b (Lib.byteCells l) (r + 32) (by omega) (by omega) w h (by omega) hBw)
  have q0 : (r == 223) = false := beq_eq_false_iff_ne.2 (by omega)
  have q1 : (r == 7838) = false := beq_eq_false_iff_ne.2 (by omega)
  have q2 : (r == 962) = false := beq_eq_false_iff_ne.2 (by omega)
  have q3 : decide (65 ≤ r) = true := decide_eq_true (by omega)
  have q4 : decide (r ≤ 90) = false := decide_eq_false (by omega)
  have q5 : decide (192 ≤ r) = true := decide_eq_true (by omega)
  have q6 : decide (r ≤ 222) = false := decide_eq_false (by omega)
  have q7 : (r == 215) = false := beq_eq_false_iff_ne.2 (by omega)
  have q7b : (r != 215) = true := by rw [bne,q7];rfl
  have q8 : decide (913 ≤ r) = true := decide_eq_true (by omega)
  have q9 : decide (r ≤ 939) = true := decide_eq_true (by omega)
  have q10 : (r == 930) = false := beq_eq_false_iff_ne.2 (by omega)
  have q10b : (r != 930) = true := by rw [bne,q10];rfl
  have q11 : decide (1040 ≤ r) = false := decide_eq_false (by omega)
  have q12 : decide (r ≤ 1071) = true := decide_eq_true (by omega)
  have q13 : decide (1024 ≤ r) = false := decide_eq_false (by omega)
  have q14 : decide (r ≤ 1039) = true := decide_eq_true (by omega)
  have s0 : -2147483648 ≤ r + 32 := by omega
  have s1 : r + 32 ≤ 2147483647 := by omega
  have s2 : IntKind.i32.wrap (r + 32) = r + 32 := by rw [IntKind.wrap_i32];omega
  clear hlen h0 h1 hz
  unfold FoldGoal
  rw [HB.out,Lib.byteCells_append]
  clear HB h hBw
  go_enter Tryz.func63,Tryz.ntmps63
  go_wp2_with fail
  refine HW.out.mono ?_
  rintro e w1 ⟨rfl,h1,h2,h3⟩
  rw [← Lib.byteCells_encodeRune] at h1
  go_wp2
  go_end0
  exact ⟨rfl,.inr h1,h2,h3⟩
set_option maxHeartbeats 1000000 in
set_option maxRecDepth 100000 in
theorem fold_11 (B b : Nat) (l : List UInt8) (r : Int) (h0 : 940 ≤ r) (h1 : r ≤ 961) (w : World) (h : Lib.IsBuilderF 72 5 B b (Lib.byteCells l) w) (hlen : l.length + 4 ≤ 140737488355328) (hBw : B ≤ w.heap.size) : FoldGoal B b l r w := by
  have HB := Lib.hid (foldB_no (r := r) (n := r) (by omega) (by omega) (by unfold foldR;rw [if_neg (by omega),if_neg (by omega),if_neg (by omega)]))
  have hz : (Lib.byteCells l).length = l.length := Lib.byteCells_length l
  have HW := Lib.hid (Tryz.Builder_WriteRune_k B b (Lib.byteCells l) (r) (by omega) (by omega) w h (by omega) hBw)
  have q0 : (r == 223) = false := beq_eq_false_iff_ne.2 (by omega)
  have q1 : (r == 7838) = false := beq_eq_false_iff_ne.2 (by omega)
  have q2 : (r == 962) = false := beq_eq_false_iff_ne.2 (by omega)
  have q3 : decide (65 ≤ r) = true := decide_eq_true (by omega)
  have q4 : decide (r ≤ 90) = false := decide_eq_false (by omega)
  have q5 : decide (192 ≤ r) = true := decide_eq_true (by omega)
  have q6 : decide (r ≤ 222) = false := decide_eq_false (by omega)
  have q7 : (r == 215) = false := beq_eq_false_iff_ne.2 (by omega)
  have q7b : (r != 215) = true := by rw [bne,q7];rfl
  have q8 : decide (913 ≤ r) = true := decide_eq_true (by omega)
  have q9 : decide (r ≤ 939) = false := decide_eq_false (by omega)
  have q10 : (r == 930) = false := beq_eq_false_iff_ne.2 (by omega)
  have q10b : (r != 930) = true := by rw [bne,q10];rfl
  have q11 : decide (1040 ≤ r) = false := decide_eq_false (by omega)
  have q12 : decide (r ≤ 1071) = true := decide_eq_true (by omega)
  have q13 : decide (1024 ≤ r) = false := decide_eq_false (by omega)
  have q14 : decide (r ≤ 1039) = true := decide_eq_true (by omega)
  clear hlen h0 h1 hz
  unfold FoldGoal
  rw [HB.out,Lib.byteCells_append]
  clear HB h hBw
  go_enter Tryz.func63,Tryz.ntmps63
  go_wp2_with fail
  refine HW.out.mono ?_
  rintro e w1 ⟨rfl,h1,h2,h3⟩
  rw [← Lib.byteCells_encodeRune] at h1
  go_wp2
  go_end0
  exact ⟨rfl,.inr h1,h2,h3⟩
set_option maxHeartbeats 1000000 in
set_option maxRecDepth 100000 in
theorem fold_12 (B b : Nat) (l : List UInt8) (r : Int) (h0 : 962 ≤ r) (h1 : r ≤ 962) (w : World) (h : Lib.IsBuilderF 72 5 B b (Lib.byteCells l) w) (hlen : l.length + 4 ≤ 140737488355328) (hBw : B ≤ w.heap.size) : FoldGoal B b l r w := by
  have HB := Lib.hid (foldB_no (r := r) (n := 963) (by omega) (by omega) (by unfold foldR;rw [if_pos (by omega)]))
  have hz : (Lib.byteCells l).length = l.length := Lib.byteCells_length l
  have HW := Lib.hid (Tryz.Builder_WriteRune_k B b (Lib.byteCells l) (963) (by omega) (by omega) w h (by omega) hBw)
  have q0 : (r == 223) = false := beq_eq_false_iff_ne.2 (by omega)
  have q1 : (r == 7838) = false := beq_eq_false_iff_ne.2 (by omega)
  have q2 : (r == 962) = true := beq_iff_eq.2 (by omega)
  have q3 : decide (65 ≤ r) = true := decide_eq_true (by omega)
  have q4 : decide (r ≤ 90) = false := decide_eq_false (by omega)
  have q5 : decide (192 ≤ r) = true := decide_eq_true (by omega)
  have q6 : decide (r ≤ 222) = false := decide_eq_false (by omega)
  have q7 : (r == 215) = false := beq_eq_false_iff_ne.2 (by omega)
  have q7b : (r != 215) = true := by rw [bne,q7];rfl
  have q8 : decide (913 ≤ r) = true := decide_eq_true (by omega)
  have q9 : decide (r ≤ 939) = false := decide_eq_false (by omega)
  have q10 : (r == 930) = false := beq_eq_false_iff_ne.2 (by omega)
  have q10b : (r != 930) = true := by rw [bne,q10];rfl
  have q11 : decide (1040 ≤ r) = false := decide_eq_false (by omega)
  have q12 : decide (r ≤ 1071) = true := decide_eq_true (by omega)
  have q13 : decide (1024 ≤ r) = false := decide_eq_false (by omega)
  have q14 : decide (r ≤ 1039) = true := decide_eq_true (by omega)
  clear hlen h0 h1 hz
  unfold FoldGoal
  rw [HB.out,Lib.byteCells_append]
  clear HB h hBw
  go_enter Tryz.func63,Tryz.ntmps63
  go_wp2_with fail
  refine HW.out.mono ?_
  rintro e w1 ⟨rfl,h1,h2,h3⟩
  rw [← Lib.byteCells_encodeRune] at h1
  go_wp2
  go_end0
  exact ⟨rfl,.inr h1,h2,h3⟩
set_option maxHeartbeats 1000000 in
set_option maxRecDepth 100000 in
theorem fold_13 (B b : Nat) (l : List UInt8) (r : Int) (h0 : 963 ≤ r) (h1 : r ≤ 1023) (w : World) (h : Lib.IsBuilderF 72 5 B b (Lib.byteCells l) w) (hlen : l.length + 4 ≤ 140737488355328) (hBw : B ≤ w.heap.size) : FoldGoal B b l r w := by
  have HB := Lib.hid (foldB_no (r := r) (n := r) (by omega) (by omega) (by unfold foldR;rw [if_neg (by omega),if_neg (by omega),if_neg (by omega)]))
  have hz : (Lib.byteCells l).length = l.length := Lib.byteCells_length l
  have HW := Lib.hid (Tryz.Builder_WriteRune_k B b (Lib.byteCells l) (r) (by omega) (by omega) w h (by omega) hBw)
  have q0 : (r == 223) = false := beq_eq_false_iff_ne.2 (by omega)
  have q1 : (r == 7838) = false := beq_eq_false_iff_ne.2 (by omega)
  have q2 : (r == 962) = false := beq_eq_false_iff_ne.2 (by omega)
  have q3 : decide (65 ≤ r) = true := decide_eq_true (by omega)
  have q4 : decide (r ≤ 90) = false := decide_eq_false (by omega)
  have q5 : decide (192 ≤ r) = true := decide_eq_true (by omega)
  have q6 : decide (r ≤ 222) = false := decide_eq_false (by omega)
  have q7 : (r == 215) = false := beq_eq_false_iff_ne.2 (by omega)
  have q7b : (r != 215) = true := by rw [bne,q7];rfl
  have q8 : decide (913 ≤ r) = true := decide_eq_true (by omega)
  have q9 : decide (r ≤ 939) = false := decide_eq_false (by omega)
  have q10 : (r == 930) = false := beq_eq_false_iff_ne.2 (by omega)
  have q10b : (r != 930) = true := by rw [bne,q10];rfl
  have q11 : decide (1040 ≤ r) = false := decide_eq_false (by omega)
  have q12 : decide (r ≤ 1071) = true := decide_eq_true (by omega)
  have q13 : decide (1024 ≤ r) = false := decide_eq_false (by omega)
  have q14 : decide (r ≤ 1039) = true := decide_eq_true (by omega)
  clear hlen h0 h1 hz
  unfold FoldGoal
  rw [HB.out,Lib.byteCells_append]
  clear HB h hBw
  go_enter Tryz.func63,Tryz.ntmps63
  go_wp2_with fail
  refine HW.out.mono ?_
  rintro e w1 ⟨rfl,h1,h2,h3⟩
  rw [← Lib.byteCells_encodeRune] at h1
  go_wp2
  go_end0
  exact ⟨rfl,.inr h1,h2,h3⟩
set_option maxHeartbeats 1000000 in
set_option maxRecDepth 100000 in
theorem fold_14 (B b : Nat) (l : List UInt8) (r : Int) (h0 : 1024 ≤ r) (h1 : r ≤ 1039) (w : World) (h : Lib.IsBuilderF 72 5 B b (Lib.byteCells l) w) (hlen : l.length + 4 ≤ 140737488355328) (hBw : B ≤ w.heap.size) : FoldGoal B b l r w := by
  have HB := Lib.hid (foldB_no (r := r) (n := r + 80) (by omega) (by omega) (by unfold foldR;rw [if_neg (by omega),if_neg (by omega),if_pos (by omega)]))
  have hz : (Lib.byteCells l).length = l.length := Lib.byteCells_length l
  have HW := Lib.hid (Tryz.Builder_WriteRune_k B b (Lib.byteCells l) (r + 80) (by omega) (by omega) w h (by omega) hBw)
  have q0 : (r == 223) = false := beq_eq_false_iff_ne.2 (by omega)
  have q1 : (r == 7838) = false := beq_eq_false_iff_ne.2 (by omega)
  have q2 : (r == 962) = false := beq_eq_false_iff_ne.2 (by omega)
  have q3 : decide (65 ≤ r) = true := decide_eq_true (by omega)
  have q4 : decide (r ≤ 90) = false := decide_eq_false (by omega)
  have q5 : decide (192 ≤ r) = true := decide_eq_true (by omega)
  have q6 : decide (r ≤ 222) = false := decide_eq_false (by omega)
  have q7 : (r == 215) = false := beq_eq_false_iff_ne.2 (by omega)
  have q7b : (r != 215) = true := by rw [bne,q7];rfl
  have q8 : decide (913 ≤ r) = true := decide_eq_true (by omega)
  have q9 : decide (r ≤ 939) = false := decide_eq_false (by omega)
  have q10 : (r == 930) = false := beq_eq_false_iff_ne.2 (by omega)
  have q10b : (r != 930) = true := by rw [bne,q10];rfl
  have q11 : decide (1040 ≤ r) = false := decide_eq_false (by omega)
  have q12 : decide (r ≤ 1071) = true := decide_eq_true (by omega)
  have q13 : decide (1024 ≤ r) = true := decide_eq_true (by omega)
  have q14 : decide (r ≤ 1039) = true := decide_eq_true (by omega)
  have s0 : -2147483648 ≤ r + 80 := by omega
  have s1 : r + 80 ≤ 2147483647 := by omega
  have s2 : IntKind.i32.wrap (r + 80) = r + 80 := by rw [IntKind.wrap_i32];omega
  clear hlen h0 h1 hz
  unfold FoldGoal
  rw [HB.out,Lib.byteCells_append]
  clear HB h hBw
  go_enter Tryz.func63,Tryz.ntmps63
  go_wp2_with fail
  refine HW.out.mono ?_
  rintro e w1 ⟨rfl,h1,h2,h3⟩
  rw [← Lib.byteCells_encodeRune] at h1
  go_wp2
  go_end0
  exact ⟨rfl,.inr h1,h2,h3⟩
set_option maxHeartbeats 1000000 in
set_option maxRecDepth 100000 in
theorem fold_15 (B b : Nat) (l : List UInt8) (r : Int) (h0 : 1040 ≤ r) (h1 : r ≤ 1071) (w : World) (h : Lib.IsBuilderF 72 5 B b (Lib.byteCells l) w) (hlen : l.length + 4 ≤ 140737488355328) (hBw : B ≤ w.heap.size) : FoldGoal B b l r w := by
  have HB := Lib.hid (foldB_no (r := r) (n := r + 32) (by omega) (by omega) (by unfold foldR;rw [if_neg (by omega),if_pos (by omega)]))
  have hz : (Lib.byteCells l).length = l.length := Lib.byteCells_length l
  have HW := Lib.hid (Tryz.Builder_WriteRune_k B b (Lib.byteCells l) (r + 32) (by omega) (by omega) w h (by omega) hBw)
  have q0 : (r == 223) = false := beq_eq_false_iff_ne.2 (by omega)
  have q1 : (r == 7838) = false := beq_eq_false_iff_ne.2 (by omega)
  have q2 : (r == 962) = false := beq_eq_false_iff_ne.2 (by omega)
  have q3 : decide (65 ≤ r) = true := decide_eq_true (by omega)
  have q4 : decide (r ≤ 90) = false := decide_eq_false (by omega)
  have q5 : decide (192 ≤ r) = true := decide_eq_true (by omega)
  have q6 : decide (r ≤ 222) = false := decide_eq_false (by omega)
  have q7 : (r == 215) = false := beq_eq_false_iff_ne.2 (by omega)
  have q7b : (r != 215) = true := by rw [bne,q7];rfl
  have q8 : decide (913 ≤ r) = true := decide_eq_true (by omega)
  have q9 : decide (r ≤ 939) = false := decide_eq_false (by omega)
  have q10 : (r == 930) = false := beq_eq_false_iff_ne.2 (by omega)
  have q10b : (r != 930) = true := by rw [bne,q10];rfl
  have q11 : decide (1040 ≤ r) = true := decide_eq_true (by omega)
  have q12 : decide (r ≤ 1071) = true := decide_eq_true (by omega)
  have q13 : decide (1024 ≤ r) = true := decide_eq_true (by omega)
  have q14 : decide (r ≤ 1039) = false := decide_eq_false (by omega)
  have s0 : -2147483648 ≤ r + 32 := by omega
  have s1 : r + 32 ≤ 2147483647 := by omega
  have s2 : IntKind.i32.wrap (r + 32) = r + 32 := by rw [IntKind.wrap_i32];omega
  clear hlen h0 h1 hz
  unfold FoldGoal
  rw [HB.out,Lib.byteCells_append]
  clear HB h hBw
  go_enter Tryz.func63,Tryz.ntmps63
  go_wp2_with fail
  refine HW.out.mono ?_
  rintro e w1 ⟨rfl,h1,h2,h3⟩
  rw [← Lib.byteCells_encodeRune] at h1
  go_wp2
  go_end0
  exact ⟨rfl,.inr h1,h2,h3⟩
set_option maxHeartbeats 1000000 in
set_option maxRecDepth 100000 in
theorem fold_16 (B b : Nat) (l : List UInt8) (r : Int) (h0 : 1072 ≤ r) (h1 : r ≤ 7837) (w : World) (h : Lib.IsBuilderF 72 5 B b (Lib.byteCells l) w) (hlen : l.length + 4 ≤ 140737488355328) (hBw : B ≤ w.heap.size) : FoldGoal B b l r w := by
  have HB := Lib.hid (foldB_no (r := r) (n := r) (by omega) (by omega) (by unfold foldR;rw [if_neg (by omega),if_neg (by omega),if_neg (by omega)]))
  have hz : (Lib.byteCells l).length = l.length := Lib.byteCells_length l
  have HW := Lib.hid (Tryz.Builder_WriteRune_k B b (Lib.byteCells l) (r) (by omega) (by omega) w h (by omega) hBw)
  have q0 : (r == 223) = false := beq_eq_false_iff_ne.2 (by omega)
  have q1 : (r == 7838) = false := beq_eq_false_iff_ne.2 (by omega)
  have q2 : (r == 962) = false := beq_eq_false_iff_ne.2 (by omega)
  have q3 : decide (65 ≤ r) = true := decide_eq_true (by omega)
  have q4 : decide (r ≤ 90) = false := decide_eq_false (by omega)
  have q5 : decide (192 ≤ r) = true := decide_eq_true (by omega)
  have q6 : decide (r ≤ 222) = false := decide_eq_false (by omega)
  have q7 : (r == 215) = false := beq_eq_false_iff_ne.2 (by omega)
  have q7b : (r != 215) = true := by rw [bne,q7];rfl
  have q8 : decide (913 ≤ r) = true := decide_eq_true (by omega)
  have q9 : decide (r ≤ 939) = false := decide_eq_false (by omega)
  have q10 : (r == 930) = false := beq_eq_false_iff_ne.2 (by omega)
  have q10b : (r != 930) = true := by rw [bne,q10];rfl
  have q11 : decide (1040 ≤ r) = true := decide_eq_true (by omega)
  have q12 : decide (r ≤ 1071) = false := decide_eq_false (by omega)
  have q13 : decide (1024 ≤ r) = true := decide_eq_true (by omega)
  have q14 : decide (r ≤ 1039) = false := decide_eq_false (by omega)
  clear hlen h0 h1 hz
  unfold FoldGoal
  rw [HB.out,Lib.byteCells_append]
  clear HB h hBw
  go_enter Tryz.func63,Tryz.ntmps63
  go_wp2_with fail
  refine HW.out.mono ?_
  rintro e w1 ⟨rfl,h1,h2,h3⟩
  rw [← Lib.byteCells_encodeRune] at h1
  go_wp2
  go_end0
  exact ⟨rfl,.inr h1,h2,h3⟩
set_option maxHeartbeats 1000000 in
set_option maxRecDepth 100000 in
theorem fold_17 (B b : Nat) (l : List UInt8) (r : Int) (h0 : 7838 ≤ r) (h1 : r ≤ 7838) (w : World) (h : Lib.IsBuilderF 72 5 B b (Lib.byteCells l) w) (hlen : l.length + 4 ≤ 140737488355328) (hBw : B ≤ w.heap.size) : FoldGoal B b l r w := by
  have HB := Lib.hid (foldB_ss (r := r) (by omega))
  have hz : (Lib.byteCells l).length = l.length := Lib.byteCells_length l
  have HW := Lib.hid (Tryz.Builder_WriteString_k B b (Lib.byteCells l) ⟨#[115,115]⟩ w h (by show _ + 2 ≤ _;omega) hBw)
  have q0 : (r == 223) = false := beq_eq_false_iff_ne.2 (by omega)
  have q1 : (r == 7838) = true := beq_iff_eq.2 (by omega)
  have q2 : (r == 962) = false := beq_eq_false_iff_ne.2 (by omega)
  have q3 : decide (65 ≤ r) = true := decide_eq_true (by omega)
  have q4 : decide (r ≤ 90) = false := decide_eq_false (by omega)
  have q5 : decide (192 ≤ r) = true := decide_eq_true (by omega)
  have q6 : decide (r ≤ 222) = false := decide_eq_false (by omega)
  have q7 : (r == 215) = false := beq_eq_false_iff_ne.2 (by omega)
  have q7b : (r != 215) = true := by rw [bne,q7];rfl
  have q8 : decide (913 ≤ r) = true := decide_eq_true (by omega)
  have q9 : decide (r ≤ 939) = false := decide_eq_false (by omega)
  have q10 : (r == 930) = false := beq_eq_false_iff_ne.2 (by omega)
  have q10b : (r != 930) = true := by rw [bne,q10];rfl
  have q11 : decide (1040 ≤ r) = true := decide_eq_true (by omega)
  have q12 : decide (r ≤ 1071) = false := decide_eq_false (by omega)
  have q13 : decide (1024 ≤ r) = true := decide_eq_true (by omega)
  have q14 : decide (r ≤ 1039) = false := decide_eq_false (by omega)
  clear hlen h0 h1 hz
  unfold FoldGoal
  rw [HB.out,Lib.byteCells_append]
  clear HB h hBw
  go_enter Tryz.func63,Tryz.ntmps63
  go_wp2_with fail
  refine HW.out.mono ?_
  rintro e w1 ⟨rfl,h1,h2,h3⟩
  go_wp2
  repeat (first | refine ex_noGoto_ret ?_ | refine ex_block_ret ?_ | refine ex_then_ret ?_)
  refine bodyPost_ret (results_none rfl _ _ _) rfl ?_
  exact ⟨rfl,.inr h1,h2,h3⟩
set_option maxHeartbeats 1000000 in
set_option maxRecDepth 100000 in
theorem fold_18 (B b : Nat) (l : List UInt8) (r : Int) (h0 : 7839 ≤ r) (h1 : r ≤ 1114111) (w : World) (h : Lib.IsBuilderF 72 5 B b (Lib.byteCells l) w) (hlen : l.length + 4 ≤ 140737488355328) (hBw : B ≤ w.heap.size) : FoldGoal B b l r w := by
  have HB := Lib.hid (foldB_no (r := r) (n := r) (by omega) (by omega) (by unfold foldR;rw [if_neg (by omega),if_neg (by omega),if_neg (by omega)]))
  have hz : (Lib.byteCells l).length = l.length := Lib.byteCells_length l
  have HW := Lib.hid (Tryz.Builder_WriteRune_k B b (Lib.byteCells l) (r) (by omega) (by omega) w h (by omega) hBw)
  have q0 : (r == 223) = false := beq_eq_false_iff_ne.2 (by omega)
  have q1 : (r == 7838) = false := beq_eq_false_iff_ne.2 (by omega)
  have q2 : (r == 962) = false := beq_eq_false_iff_ne.2 (by omega)
  have q3 : decide (65 ≤ r) = true := decide_eq_true (by omega)
  have q4 : decide (r ≤ 90) = false := decide_eq_false (by omega)
  have q5 : decide (192 ≤ r) = true := decide_eq_true (by omega)
  have q6 : decide (r ≤ 222) = false := decide_eq_false (by omega)
  have q7 : (r == 215) = false := beq_eq_false_iff_ne.2 (by omega)
  have q7b : (r != 215) = true := by rw [bne,q7];rfl
  have q8 : decide (913 ≤ r) = true := decide_eq_true (by omega)
  have q9 : decide (r ≤ 939) = false := decide_eq_false (by omega)
  have q10 : (r == 930) = false := beq_eq_false_iff_ne.2 (by omega)
  have q10b : (r != 930) = true := by rw [bne,q10];rfl
  have q11 : decide (1040 ≤ r) = true := decide_eq_true (by omega)
  have q12 : decide (r ≤ 1071) = false := decide_eq_false (by omega)
  have q13 : decide (1024 ≤ r) = true := decide_eq_true (by omega)
  have q14 : decide (r ≤ 1039) = false := decide_eq_false (by omega)
  clear hlen h0 h1 hz
  unfold FoldGoal
  rw [HB.out,Lib.byteCells_append]
  clear HB h hBw
  go_enter Tryz.func63,Tryz.ntmps63
  go_wp2_with fail
  refine HW.out.mono ?_
  rintro e w1 ⟨rfl,h1,h2,h3⟩
  rw [← Lib.byteCells_encodeRune] at h1
  go_wp2
  go_end0
  exact ⟨rfl,.inr h1,h2,h3⟩
theorem fold_walk (B b : Nat) (l : List UInt8) (r : Int) (hr0 : 0 ≤ r) (hr1 : r ≤ 1114111) (w : World) (h : Lib.IsBuilderF 72 5 B b (Lib.byteCells l) w) (hlen : l.length + 4 ≤ 140737488355328) (hBw : B ≤ w.heap.size) : FoldGoal B b l r w := by
  by_cases c0 : r ≤ 64
  · exact fold_0 B b l r (by omega) (by omega) w h hlen hBw
  by_cases c1 : r ≤ 90
  · exact fold_1 B b l r (by omega) (by omega) w h hlen hBw
  by_cases c2 : r ≤ 191
  · exact fold_2 B b l r (by omega) (by omega) w h hlen hBw
  by_cases c3 : r ≤ 214
  · exact fold_3 B b l r (by omega) (by omega) w h hlen hBw
  by_cases c4 : r ≤ 215
  · exact fold_4 B b l r (by omega) (by omega) w h hlen hBw
  by_cases c5 : r ≤ 222
  · exact fold_5 B b l r (by omega) (by omega) w h hlen hBw
  by_cases c6 : r ≤ 223
  · exact fold_6 B b l r (by omega) (by omega) w h hlen hBw
  by_cases c7 : r ≤ 912
  · exact fold_7 B b l r (by omega) (by omega) w h hlen hBw
  by_cases c8 : r ≤ 929
  · exact fold_8 B b l r (by omega) (by omega) w h hlen hBw
  by_cases c9 : r ≤ 930
  · exact fold_9 B b l r (by omega) (by omega) w h hlen hBw
  by_cases c10 : r ≤ 939
  · exact fold_10 B b l r (by omega) (by omega) w h hlen hBw
  by_cases c11 : r ≤ 961
  · exact fold_11 B b l r (by omega) (by omega) w h hlen hBw
  by_cases c12 : r ≤ 962
  · exact fold_12 B b l r (by omega) (by omega) w h hlen hBw
  by_cases c13 : r ≤ 1023
  · exact fold_13 B b l r (by omega) (by omega) w h hlen hBw
  by_cases c14 : r ≤ 1039
  · exact fold_14 B b l r (by omega) (by omega) w h hlen hBw
  by_cases c15 : r ≤ 1071
  · exact fold_15 B b l r (by omega) (by omega) w h hlen hBw
  by_cases c16 : r ≤ 7837
  · exact fold_16 B b l r (by omega) (by omega) w h hlen hBw
  by_cases c17 : r ≤ 7838
  · exact fold_17 B b l r (by omega) (by omega) w h hlen hBw
  exact fold_18 B b l r (by omega) hr1 w h hlen hBw
end Go.Proofs.YtekifcbokdidlaaGreatDoor.PA

namespace Go.Proofs.YtekifcbokdidlaaGreatDoor.Pl
open Go.RowKit Go.Proofs.YtekifcbokdidlaaGreatDoorW.PrintWords Go.Proofs.YtekifcbokdidlaaGreatDoorW.PrintMore

theorem dec_L (l : List UInt8) (h : l ≠ []) : Lib.decodeL l = dec l := by rw [Lib.decodeL_N,dec_eq l h]
/-- One character's bytes, none of them 0. -/
structure Chunk (c : List UInt8) : Prop where
  ne : c ≠ []
  head : c.getD 0 0 ≠ 0
  good : ¬ (c.length = 1 ∧ 128 ≤ (c.getD 0 0).toNat)
  dec : ∀ m,(dec (c ++ m)).2 = c.length
theorem chunk_mark : Chunk [239,191,189] := ⟨by simp,by decide,by simp,fun m => by
  rw [dec_eq _ (by simp)]
  simp [Lib.decodeN]⟩
set_option maxHeartbeats 1000000 in
theorem chunk_take (l : List UInt8) (h : l ≠ []) (h0 : l.getD 0 0 ≠ 0) (hg : ¬ ((dec l).2 = 1 ∧ 128 ≤ (l.getD 0 0).toNat)) : Chunk (l.take (dec l).2) := by
  have hd := dec_len l h
  have e := dec_eq l h
  obtain ⟨x0,t0,rfl⟩ := List.exists_cons_of_ne_nil h
  rcases Lib.decodeN_shape (x0 :: t0).length ((x0 :: t0).getD 0 0).toNat ((x0 :: t0).getD 1 0).toNat ((x0 :: t0).getD 2 0).toNat ((x0 :: t0).getD 3 0).toNat with ⟨c,e1⟩ | ⟨c1,c2,c3,cv,e1⟩ | ⟨c1,c2,c3,c4,cv,cs,e1⟩ | ⟨c1,c2,c3,c4,c5,cv,cw,e1⟩ | e1
  · rw [e,e1]
    refine ⟨by simp,by simpa using h0,by simp at c ⊢;omega,fun m => ?_⟩
    rw [dec_eq _ (by simp)]
    simp at c
    simp [Lib.decodeN,c]
  · obtain ⟨x1,t1,rfl⟩ := List.exists_cons_of_ne_nil (l := t0) (by rintro rfl;simp at c2)
    rw [e,e1]
    simp at c1 c3 cv
    refine ⟨by simp,by simpa using h0,by simp,fun m => ?_⟩
    rw [dec_eq _ (by simp)]
    have k : ¬ x0.toNat < 128 := by omega
    simp [Lib.decodeN,c1,c3,cv,k]
  · obtain ⟨x1,t1,rfl⟩ := List.exists_cons_of_ne_nil (l := t0) (by rintro rfl;simp at c2)
    obtain ⟨x2,t2,rfl⟩ := List.exists_cons_of_ne_nil (l := t1) (by rintro rfl;simp at c2)
    rw [e,e1]
    simp at c1 c3 c4 cv cs
    refine ⟨by simp,by simpa using h0,by simp,fun m => ?_⟩
    rw [dec_eq _ (by simp)]
    have k : ¬ x0.toNat < 128 := by omega
    have k2 : ¬ x0.toNat / 32 = 6 := by omega
    have hb : x0.toNat % 16 * 4096 + x1.toNat % 64 * 64 + x2.toNat % 64 ≤ 1114111 := by omega
    simp [Lib.decodeN,c1,c3,c4,cv,k,k2,hb]
    rw [if_pos (by omega)]
  · obtain ⟨x1,t1,rfl⟩ := List.exists_cons_of_ne_nil (l := t0) (by rintro rfl;simp at c2)
    obtain ⟨x2,t2,rfl⟩ := List.exists_cons_of_ne_nil (l := t1) (by rintro rfl;simp at c2)
    obtain ⟨x3,t3,rfl⟩ := List.exists_cons_of_ne_nil (l := t2) (by rintro rfl;simp at c2)
    rw [e,e1]
    simp at c1 c3 c4 c5 cv cw
    refine ⟨by simp,by simpa using h0,by simp,fun m => ?_⟩
    rw [dec_eq _ (by simp)]
    have k : ¬ x0.toNat < 128 := by omega
    have k2 : ¬ x0.toNat / 32 = 6 := by omega
    have k3 : ¬ x0.toNat / 16 = 14 := by omega
    simp [Lib.decodeN,c1,c3,c4,c5,cv,cw,k,k2,k3]
    rw [if_pos (by omega)]
  · exfalso
    apply hg
    rw [e,e1]
    refine ⟨rfl,?_⟩
    apply Classical.byContradiction
    intro hlt
    have : Lib.decodeN (x0 :: t0).length ((x0 :: t0).getD 0 0).toNat ((x0 :: t0).getD 1 0).toNat ((x0 :: t0).getD 2 0).toNat ((x0 :: t0).getD 3 0).toNat = (((x0 :: t0).getD 0 0).toNat,1) := by
      rw [Lib.decodeN,if_pos (by omega)]
    rw [this] at e1
    have := (Prod.mk.inj e1).1
    omega
/-- What a cleaned text is. -/
theorem clean_step (l : List UInt8) (h : l ≠ []) : ∃ c l',Chunk c ∧ clean l = c ++ clean l' ∧ l'.length < l.length := by
  obtain ⟨x,t,rfl⟩ := List.exists_cons_of_ne_nil h
  by_cases hb : x = 0 ∨ ((dec (x :: t)).2 = 1 ∧ 128 ≤ x.toNat)
  · exact ⟨_,t,chunk_mark,clean_bad x t hb,by simp⟩
  · have hd := dec_len (x :: t) (by simp)
    exact ⟨_,_,chunk_take (x :: t) (by simp) (fun e => hb (.inl e)) (fun e => hb (.inr e)),clean_good x t hb,by rw [List.length_drop];omega⟩
theorem clean_chunk (c m : List UInt8) (hc : Chunk c) : clean (c ++ m) = c ++ clean m := by
  have hd := hc.dec m
  obtain ⟨x,t,rfl⟩ := List.exists_cons_of_ne_nil hc.ne
  have h0 := hc.head
  have hg := hc.good
  simp only [List.getD_cons_zero] at h0 hg
  rw [List.cons_append] at hd ⊢
  rw [clean_good x (t ++ m) (by rintro (e | e);exact h0 e;exact hg ⟨by rw [← hd];exact e.1,e.2⟩),hd,← List.cons_append,List.take_left' rfl,List.drop_left' rfl]
theorem clean_ind {P : List UInt8 → List UInt8 → Prop} (h0 : P [] []) (hs : ∀ (l l' c : List UInt8),l ≠ [] → l'.length < l.length → Chunk c → clean l = c ++ clean l' → P l' (clean l') → P l (c ++ clean l')) : ∀ l,P l (clean l) := by
  intro l
  suffices ∀ n (l : List UInt8),l.length ≤ n → P l (clean l) from this _ l (Nat.le_refl _)
  intro n
  induction n with
  | zero =>
    intro l hl
    have : l = [] := List.length_eq_zero_iff.1 (by omega)
    subst this
    exact h0
  | succ n ih =>
    intro l hl
    by_cases h : l = []
    · subst h;exact h0
    · obtain ⟨c,l',hc,e,hlt⟩ := clean_step l h
      rw [e]
      exact hs l l' c h hlt hc e (ih l' (by omega))
theorem clean_clean (l : List UInt8) : clean (clean l) = clean l :=
  clean_ind (P := fun _ x => clean x = x) rfl (fun _ _ c _ _ hc _ ih => by rw [clean_chunk c _ hc,ih]) l
/-- Characters, on lists. -/
def rl : Nat → List UInt8 → List Int
  | 0,_ => []
  | _ + 1,[] => []
  | f + 1,x :: t => ((Lib.decodeL (x :: t)).1 : Int) :: rl f ((x :: t).drop (Lib.decodeL (x :: t)).2)
theorem rnsF_rl (l : List UInt8) : ∀ f i,PA.rnsF (B l) f i = rl f (l.drop i)
  | 0,_ => rfl
  | f + 1,i => by
    rw [PA.rnsF]
    by_cases h : i < (B l).size
    · have hl : i < l.length := by rw [B_size] at h;exact h
      have hd : l.drop i = l[i] :: l.drop (i + 1) := List.drop_eq_getElem_cons hl
      have e : Utf8.decode (B l) i = Lib.decodeL (l.drop i) := by
        have := Lib.tail_decode (B l) i 0
        rw [Nat.add_zero,B_from l i _ (B_size l)] at this
        exact this.symm
      rw [if_pos h,rnsF_rl l f,e,hd,rl,← hd,List.drop_drop]
    · rw [if_neg h,List.drop_eq_nil_of_le (by rw [B_size] at h;omega)]
      rfl
theorem rl_more : ∀ (f g : Nat) (l : List UInt8),l.length ≤ f → l.length ≤ g → rl f l = rl g l
  | 0,g,l,hf,_ => by
    have : l = [] := List.length_eq_zero_iff.1 (by omega)
    subst this
    cases g <;> rfl
  | f + 1,0,l,_,hg => by
    have : l = [] := List.length_eq_zero_iff.1 (by omega)
    subst this
    rfl
  | f + 1,g + 1,[],_,_ => rfl
  | f + 1,g + 1,x :: t,hf,hg => by
    have h1 := Lib.decodeL_width (x :: t)
    rw [List.length_cons] at hf hg
    rw [rl,rl,rl_more f g _ (by rw [List.length_drop,List.length_cons];omega) (by rw [List.length_drop,List.length_cons];omega)]
def chars (l : List UInt8) : List Int := rl l.length l
theorem rns_chars (l : List UInt8) : PA.rns (B l) = chars l := by
  unfold PA.rns chars
  rw [rnsF_rl,List.drop_zero,B_size]
theorem chars_chunk (c m : List UInt8) (hc : Chunk c) : chars (c ++ m) = ((dec (c ++ m)).1 : Int) :: chars m := by
  have hd := hc.dec m
  have hne : c ++ m ≠ [] := by intro e;exact hc.ne (List.append_eq_nil_iff.1 e).1
  have hL := dec_L (c ++ m) hne
  have hl : (c ++ m).length = c.length + m.length := List.length_append
  have hpos : 0 < c.length := List.length_pos_iff.2 hc.ne
  unfold chars
  obtain ⟨f,hf⟩ : ∃ f,(c ++ m).length = f + 1 := ⟨(c ++ m).length - 1,by omega⟩
  rw [hf]
  have hdr : (c ++ m).drop (dec (c ++ m)).2 = m := by rw [hd,List.drop_left' rfl]
  rw [← rl_more f m.length m (by omega) (Nat.le_refl _)]
  generalize hcm : c ++ m = z at *
  obtain ⟨x,t,rfl⟩ := List.exists_cons_of_ne_nil hne
  rw [rl,hL,hdr]
/-- A chunk's character. -/
theorem chunk_char (c m : List UInt8) (hc : Chunk c) : 0 < (dec (c ++ m)).1 ∧ (dec (c ++ m)).1 ≤ 1114111 ∧ ((dec (c ++ m)).1 < 55296 ∨ 57343 < (dec (c ++ m)).1) ∧ Lib.encodeRune ((dec (c ++ m)).1 : Int) = c := by
  have hne : c ++ m ≠ [] := by intro e;exact hc.ne (List.append_eq_nil_iff.1 e).1
  have hL := dec_L (c ++ m) hne
  have hd := hc.dec m
  have hN := dec_eq (c ++ m) hne
  have h0 : (c ++ m).getD 0 0 = c.getD 0 0 := by
    obtain ⟨x,t,rfl⟩ := List.exists_cons_of_ne_nil hc.ne
    rfl
  have hv := Lib.decodeN_valid (c ++ m).length ((c ++ m).getD 0 0).toNat ((c ++ m).getD 1 0).toNat ((c ++ m).getD 2 0).toNat ((c ++ m).getD 3 0).toNat (UInt8.toNat_lt _)
  rw [← hN] at hv
  have hne0 : (c.getD 0 0).toNat ≠ 0 := fun e => hc.head (UInt8.toNat_inj.1 e)
  have hsh := Lib.decodeN_shape (c ++ m).length ((c ++ m).getD 0 0).toNat ((c ++ m).getD 1 0).toNat ((c ++ m).getD 2 0).toNat ((c ++ m).getD 3 0).toNat
  rw [← hN,h0] at hsh
  have hbad : ¬ ((dec (c ++ m)).1 = 65533 ∧ (dec (c ++ m)).2 = 1) := by
    rintro ⟨e1,e2⟩
    rw [hd] at e2
    rcases hsh with ⟨k,e⟩ | ⟨_,_,_,_,e⟩ | ⟨_,_,_,_,_,_,e⟩ | ⟨_,_,_,_,_,_,_,e⟩ | e
    · rw [e] at e1;dsimp only at e1;omega
    · have := congrArg Prod.snd e;rw [hd] at this;dsimp only at this;omega
    · have := congrArg Prod.snd e;rw [hd] at this;dsimp only at this;omega
    · have := congrArg Prod.snd e;rw [hd] at this;dsimp only at this;omega
    · have hg := hc.good
      have : (c.getD 0 0).toNat < 128 := by
        apply Classical.byContradiction
        intro h
        exact hg ⟨e2,by omega⟩
      rw [hN,h0,Lib.decodeN,if_pos this] at e1
      dsimp only at e1
      omega
  refine ⟨?_,by omega,by omega,?_⟩
  · rcases hsh with ⟨k,e⟩ | ⟨_,_,_,_,e⟩ | ⟨_,_,_,_,_,_,e⟩ | ⟨_,_,_,_,_,_,_,e⟩ | e
    all_goals
      rw [e]
      dsimp only
      omega
  · rw [← hL] at hbad ⊢
    rw [Lib.encode_decode (c ++ m) hne hbad,hL,hd,List.take_left' rfl]
theorem chars_clean (l : List UInt8) : (∀ n ∈ chars (clean l),0 < n ∧ n ≤ 1114111 ∧ (n < 55296 ∨ 57343 < n)) ∧ (chars (clean l)).length ≤ l.length ∧ (chars (clean l)).flatMap Lib.encodeRune = clean l :=
  clean_ind (P := fun l x => (∀ n ∈ chars x,0 < n ∧ n ≤ 1114111 ∧ (n < 55296 ∨ 57343 < n)) ∧ (chars x).length ≤ l.length ∧ (chars x).flatMap Lib.encodeRune = x) (by simp [chars,rl]) (fun l l' c _ hlt hc _ ih => by
    obtain ⟨i1,i2,i3⟩ := ih
    obtain ⟨k1,k2,k3,k4⟩ := chunk_char c (clean l') hc
    rw [chars_chunk c _ hc]
    refine ⟨fun n hn => ?_,by rw [List.length_cons];omega,by rw [List.flatMap_cons,k4,i3]⟩
    rcases List.mem_cons.1 hn with rfl | hn
    · omega
    · exact i1 n hn) l
end Go.Proofs.YtekifcbokdidlaaGreatDoor.Pl

namespace Go.Proofs.YtekifcbokdidlaaGreatDoor.PA
open Go.RowKit Go.Proofs.YtekifcbokdidlaaGreatDoorW.PrintWords Go.Proofs.YtekifcbokdidlaaGreatDoorW.PrintLast Go.Proofs.YtekifcbokdidlaaGreatDoorW.PrintMore Go.Proofs.YtekifcbokdidlaaGreatDoor.Pl
set_option linter.unusedVariables false

/-- Characters without capitals, as bytes. -/
def foldL (rs : List Int) : List UInt8 := rs.flatMap foldB
theorem foldL_snoc (rs : List Int) (r : Int) : foldL (rs ++ [r]) = foldL rs ++ foldB r := by unfold foldL;rw [List.flatMap_append];simp
theorem foldB_len (r : Int) : (foldB r).length ≤ 4 := by
  unfold foldB
  split
  · decide
  · have := Lib.runeCells_le (foldR r)
    rw [Lib.runeCells_length] at this
    exact this.2
theorem foldL_len (rs : List Int) : (foldL rs).length ≤ 4 * rs.length := by
  induction rs with
  | nil => exact Nat.le_refl _
  | cons r rs ih =>
    have := foldB_len r
    unfold foldL at ih ⊢
    rw [List.flatMap_cons,List.length_append,List.length_cons]
    omega
theorem R_others {w w1 : World} {b base : Nat} {v : Value} {xs : List Int} (h : Kd.R (Kd.int .i32) 21 w base (fun _ => True) v xs) (hb : b < base) (hk : Lib.OthersKept 5 (some b) w w1) : Kd.R (Kd.int .i32) 21 w1 base (fun _ => True) v xs := by
  have h1 := Kd.R_bound h
  refine Kd.R_mono (Kd.R_step h1 (fun k hk1 hlt => ?_)) (fun _ _ => trivial)
  obtain ⟨_,hbk,_,q,hq,cells,hc⟩ := hk1
  have hq2 : q = 21 := by simpa [Kd.int,Kd.scalar] using hq
  subst hq2
  rw [hc]
  exact hk k _ hc (fun e => by have := Option.some.inj e;omega) (fun c fz e => by cases e)
theorem rune_cell {w : World} {base : Nat} {A : Option Addr} {n c : Nat} {xs : List Int} (h : Kd.R (Kd.int .i32) 21 w base (fun _ => True) (.slice A n c) xs) (k : Nat) (hk : k < xs.length) :
    ∃ g,A = some ⟨g,0,none⟩ ∧ w.cell? ⟨g,k,none⟩ = some (.int .i32 (xs.getD k 0)) := by
  obtain ⟨g,cap,e,_,_,_⟩ := Kd.R_form h (by omega)
  cases e
  obtain ⟨_,_,hC⟩ := Kd.R_reads' h
  obtain ⟨ad,cs,e2,hl,hr,hcell⟩ := Kd.C_get hC 0 (k : Int) (by omega) (by omega)
  cases e2
  refine ⟨g,rfl,?_⟩
  have hr' : cs = [.int .i32 (xs.getD k 0)] := hr
  subst hr'
  have := hcell 0 _ rfl
  rcases Nat.eq_zero_or_pos k with rfl | hp
  · simpa [Addr.add,Kd.int,Kd.scalar] using this
  · have hne : ¬ k = 0 := by omega
    simpa [Addr.add,Kd.int,Kd.scalar,hne] using this
set_option maxHeartbeats 4000000 in
set_option maxRecDepth 100000 in
theorem Fold_walk (s : ByteArray) (w : World) (hLd : Laid w) (hs : s.size ≤ 1073741824) :
    Calls Tryz.prog 38 #[.string s] w fun e w' => e = .returned (.string (B (foldL (chars (clean s.data.toList))))) ∧ Below w.heap.size w w' := by
  have hl : s.data.toList.length = s.size := by rw [Array.length_toList];rfl
  obtain ⟨hcv,hcn,_⟩ := chars_clean s.data.toList
  have hf : text_Runes.f s = some (chars (clean s.data.toList)) := by
    unfold text_Runes.f
    rw [if_pos (by omega),rns_chars]
  have HR := Lib.hid (fun W hW => text_Runes.calls s (chars (clean s.data.toList)) W hW hf)
  obtain ⟨rs,hrs⟩ : ∃ rs,chars (clean s.data.toList) = rs := ⟨_,rfl⟩
  rw [hrs] at HR hcv hcn ⊢
  have HV := Lib.hid hcv
  have hn : rs.length ≤ 1073741824 := by omega
  have HLd := Lib.hid hLd
  clear hf hrs hcv hcn hl hs hLd
  go_enter Tryz.func38,Tryz.ntmps38
  go_wp2_with fail
  have HB0 := Lib.hid ((Below.refl w.heap.size w).alloc (Nat.le_refl _) (.cells #[.pointer none,.slice none 0 0] 72 (0,0)))
  have HI0 := Lib.hid (Lib.fresh_isBuilder 72 5 w)
  refine (HR.out _ (HLd.out.go HB0.out)).mono ?_
  rintro e w1 ⟨v0,rfl,hR,hb1⟩
  obtain ⟨A,c,rfl,hc,_⟩ := Kd.R_reads hR
  rw [World.size_alloc] at hR hb1
  have HI1 := Lib.hid (Lib.IsBuilderF.of (isB_below HI0.out (by rw [World.size_alloc];exact hb1)))
  have HB1 := Lib.hid (HB0.out.trans (hb1.mono (Nat.le_succ _)))
  have HRr := Lib.hid hR
  have hsz := hb1.size
  clear hR hb1 HI0 HB0 HR HLd hc
  go_wp2
  go_loopw [9] (fun vi wr => ∃ k : Nat,vi = .int .i64 k ∧ k ≤ rs.length ∧ Hid (Lib.IsBuilderF 72 5 w.heap.size w.heap.size (Lib.byteCells (foldL (rs.take k))) wr) ∧ Hid (Below w.heap.size w wr) ∧ Hid (Kd.R (Kd.int .i32) 21 wr (w.heap.size + 1) (fun _ => True) (.slice A rs.length c) rs))
    (fun vi _ => rs.length - (intOf vi).toNat)
  case atStart => exact ⟨0,rfl,Nat.zero_le _,HI1,HB1,HRr⟩
  case round =>
    obtain ⟨k,rfl,hk,HI,HB,HRk⟩ := hrel
    clear HI1 HB1 HRr
    by_cases hkn : k < rs.length
    · obtain ⟨g,rfl,hcell⟩ := rune_cell HRk.out k hkn
      obtain ⟨x,hx⟩ : ∃ x,rs.getD k 0 = x := ⟨_,rfl⟩
      have hxm : x ∈ rs := by rw [← hx,List.getD_eq_getElem?_getD,List.getElem?_eq_getElem hkn];exact List.getElem_mem hkn
      have htk : rs.take (k + 1) = rs.take k ++ [x] := by
        rw [← hx,List.getD_eq_getElem?_getD,List.getElem?_eq_getElem hkn]
        exact (List.take_append_getElem hkn).symm
      obtain ⟨hv0,hv1,_⟩ := HV.out x hxm
      rw [hx] at hcell
      have hfl := foldL_len (rs.take k)
      rw [List.length_take] at hfl
      have hbs := HB.out.size
      have HF := Lib.hid (fold_walk w.heap.size w.heap.size (foldL (rs.take k)) x (by omega) (by omega) wr HI.out (by omega) hbs)
      unfold FoldGoal at HF
      rw [← foldL_snoc,← htk] at HF
      have HT := Lib.hid hk
      clear hx hxm htk hv0 hv1 hfl HI
      go_wp2_with fail
      refine HF.out.mono ?_
      rintro e w2 ⟨rfl,hI2,hB2,hK2⟩
      have HI2 := Lib.hid hI2
      have HB2 := Lib.hid (HB.out.trans hB2)
      have HR2 := Lib.hid (R_others HRk.out (Nat.lt_succ_self _) hK2)
      clear hI2 hB2 hK2 HF HB HRk hcell hbs
      go_wp2
      go_roundw
      case rel => exact ⟨k + 1,by go_num,by omega,HI2,HB2,HR2⟩
      case measure => simp [intOf];omega
    · have hI := HI.out
      rw [List.take_of_length_le (by omega)] at hI
      have HI2 := Lib.hid hI
      have hbs := HB.out.size
      clear hI HI HRk
      go_wp2_with fail
      refine (Tryz.Builder_String_any_f w.heap.size w.heap.size (foldL rs) _ HI2.out hbs).mono ?_
      rintro e w2 ⟨rfl,h2⟩
      go_wp2
      go_ret
      exact ⟨rfl,by first | exact HB.out.trans h2 | exact HB.out.trans h2.2⟩
end Go.Proofs.YtekifcbokdidlaaGreatDoor.PA

namespace Go.Proofs.YtekifcbokdidlaaGreatDoor.PA
open Go.RowKit Go.Shelf Go.Proofs.YtekifcbokdidlaaGreatDoor.Pl Go.Proofs.YtekifcbokdidlaaGreatDoorW.PrintWords Go.Proofs.YtekifcbokdidlaaGreatDoorW.PrintLast Go.Proofs.YtekifcbokdidlaaGreatDoorW.PrintMore
set_option linter.unusedVariables false

/-- strings.Join of what is read. -/
def strings_Join.f (l0 : List ByteArray) (a1 : ByteArray) : Option ByteArray := if l0.length ≤ 1048576 ∧ (Lib.join (l0.map (·.data.toList)) a1.data.toList).length ≤ 140737488355328 then some ⟨(Lib.join (l0.map (·.data.toList)) a1.data.toList).toArray⟩ else none
theorem strings_Join.calls (A0 : Option Addr) (c0 : Nat) (l0 : List ByteArray) (a1 : ByteArray) (r : ByteArray) (w : World) (hr0 : Kd.C Kd.string w A0 l0.length l0) (hc0 : l0.length ≤ c0) (h : strings_Join.f l0 a1 = some r) :
    Calls Tryz.prog 39 #[.slice A0 l0.length c0,.string a1] w fun e w' => e = .returned (.string r) ∧ Below w.heap.size w w' := by
  unfold strings_Join.f at h
  split at h
  · rename_i hc
    obtain rfl := Option.some.inj h
    rcases Nat.eq_zero_or_pos l0.length with h0 | h0
    · obtain rfl := List.length_eq_zero_iff.1 h0
      refine (Tryz.strings_Join_none A0 c0 a1 w).mono ?_
      rintro e w' ⟨rfl,rfl⟩
      exact ⟨rfl,Below.refl _ _⟩
    · obtain ⟨ad,rfl,h1⟩ := Kd.at_string hr0 0 (by omega) (by omega)
      have hsp : ad.spot = none ∧ ad.block < w.heap.size := by
        have h2 : w.cell? ad ≠ none := by
          intro e
          have e2 : ad.add (0 : Int).toNat = ad := rfl
          rw [e2,e] at h1
          cases h1
        unfold World.cell? at h2
        cases hq : w.heap[ad.block]? with
        | none => rw [hq] at h2;exact absurd rfl h2
        | some ob =>
          refine ⟨?_,(Array.getElem?_eq_some_iff.1 hq).1⟩
          rw [hq] at h2
          cases ob <;> first | exact absurd rfl h2 | skip
          cases hs : ad.spot with
          | none => rfl
          | some y => simp [hs] at h2
      obtain ⟨bk,o,q⟩ := ad
      obtain rfl : q = none := hsp.1
      refine Tryz.strings_Join bk o c0 l0 a1 w (fun j x hj => ?_) hsp.2 (by omega) hc0 hc.2
      have hjl : j < l0.length := (List.getElem?_eq_some_iff.1 hj).1
      obtain ⟨ad2,e2,h3⟩ := Kd.at_string hr0 (j : Int) (by omega) (by omega)
      cases e2
      rw [getD_at l0 j hjl,Int.toNat_natCast] at h3
      rw [List.getElem?_eq_getElem hjl] at hj
      cases hj
      rw [← h3]
      unfold Addr.add
      split
      · rename_i e0
        subst e0
        rfl
      · rfl
  · cases h
end Go.Proofs.YtekifcbokdidlaaGreatDoor.PA

namespace Go.Proofs.YtekifcbokdidlaaGreatDoor.Pl
open Go.RowKit Go.Proofs.YtekifcbokdidlaaGreatDoorW.PrintWords Go.Proofs.YtekifcbokdidlaaGreatDoorW.PrintMore

/-- Is a byte white space? -/
def whB (x : UInt8) : Bool := decide (x.toNat = 32) || (decide (9 ≤ x.toNat) && decide (x.toNat ≤ 13))
/-- Is a character white space? -/
def whR (r : Nat) : Bool := decide (r = 32) || (decide (9 ≤ r) && decide (r ≤ 13))
/-- A text's fields; what has come of this one, what is left. -/
def fl : List UInt8 → List UInt8 → List (List UInt8)
  | cur,[] => if cur = [] then [] else [cur]
  | cur,x :: t => if whB x = true then (if cur = [] then fl [] t else cur :: fl [] t) else fl (cur ++ [x]) t
/-- Fields with one blank between them. -/
def jn : List (List UInt8) → List UInt8
  | [] => []
  | [x] => x
  | x :: y :: r => x ++ 32 :: jn (y :: r)
def nw (a : List UInt8) : Prop := ∀ x ∈ a,whB x = false
theorem nw_nil : nw [] := fun _ h => by cases h
theorem fl_none : ∀ (a cur : List UInt8),nw a → fl cur a = if cur ++ a = [] then [] else [cur ++ a]
  | [],cur,_ => by rw [List.append_nil];rfl
  | x :: a,cur,h => by
    have hx := h x (by simp)
    rw [fl,if_neg (by rw [hx];decide),fl_none a _ (fun y hy => h y (by simp [hy])),List.append_assoc]
    rfl
theorem fl_cut : ∀ (a cur r : List UInt8) (w : UInt8),nw a → whB w = true → fl cur (a ++ w :: r) = if cur ++ a = [] then fl [] r else (cur ++ a) :: fl [] r
  | [],cur,r,w,_,hw => by rw [List.nil_append,fl,if_pos hw,List.append_nil]
  | x :: a,cur,r,w,h,hw => by
    have hx := h x (by simp)
    rw [List.cons_append,fl,if_neg (by rw [hx];decide),fl_cut a _ r w (fun y hy => h y (by simp [hy])) hw,List.append_assoc]
    rfl
/-- A text is without white space, or has a first one. -/
theorem white_split : ∀ s : List UInt8,nw s ∨ ∃ a w r,s = a ++ w :: r ∧ nw a ∧ whB w = true
  | [] => .inl nw_nil
  | x :: t => by
    cases hx : whB x with
    | true => exact .inr ⟨[],x,t,rfl,nw_nil,hx⟩
    | false =>
      rcases white_split t with h | ⟨a,w,r,rfl,ha,hw⟩
      · exact .inl (fun y hy => by rcases List.mem_cons.1 hy with rfl | hy;exact hx;exact h y hy)
      · exact .inr ⟨x :: a,w,r,rfl,fun y hy => by rcases List.mem_cons.1 hy with rfl | hy;exact hx;exact ha y hy,hw⟩
theorem whB_lt {w : UInt8} (h : whB w = true) : w.toNat < 128 ∧ w ≠ 0 := by
  unfold whB at h
  simp only [Bool.or_eq_true,Bool.and_eq_true,decide_eq_true_eq] at h
  refine ⟨by omega,?_⟩
  rintro rfl
  rcases h with h | h
  · cases h
  · exact absurd h.1 (by decide)
/-! #### cleaning -/
theorem dec_cut (a : List UInt8) (w : UInt8) (r : List UInt8) (hw : w.toNat < 128) (ha : a ≠ []) : dec (a ++ w :: r) = dec a := by
  rw [dec_eq _ (by simp),dec_eq a ha]
  have h2 : ¬ w.toNat / 64 = 2 := by omega
  match a,ha with
  | [x],_ => simp [Lib.decodeN,h2]
  | [x,y],_ => simp [Lib.decodeN,h2]
  | [x,y,z],_ => simp [Lib.decodeN,h2]
  | x :: y :: z :: u :: t,_ =>
    have h3 : 1 < (x :: y :: z :: u :: t ++ w :: r).length ∧ 2 < (x :: y :: z :: u :: t ++ w :: r).length ∧ 3 < (x :: y :: z :: u :: t ++ w :: r).length := by simp
    have h4 : 1 < (x :: y :: z :: u :: t).length ∧ 2 < (x :: y :: z :: u :: t).length ∧ 3 < (x :: y :: z :: u :: t).length := by simp
    simp only [Lib.decodeN,h3,h4]
    simp
theorem clean_cut : ∀ (n : Nat) (a : List UInt8),a.length ≤ n → ∀ (w : UInt8) (r : List UInt8),w.toNat < 128 → clean (a ++ w :: r) = clean a ++ clean (w :: r) := by
  intro n
  induction n with
  | zero =>
    intro a ha w r _
    obtain rfl := List.length_eq_zero_iff.1 (Nat.le_zero.1 ha)
    rfl
  | succ n ih =>
    intro a ha w r hw
    cases a with
    | nil => rfl
    | cons x t =>
      rw [List.length_cons] at ha
      have hd := dec_cut (x :: t) w r hw (by simp)
      have hl := dec_len (x :: t) (by simp)
      rw [List.cons_append] at hd ⊢
      by_cases hb : x = 0 ∨ ((dec (x :: t)).2 = 1 ∧ 128 ≤ x.toNat)
      · rw [clean_bad x (t ++ w :: r) (by rw [hd];exact hb),clean_bad x t hb,ih t (by omega) w r hw,List.append_assoc]
      · rw [clean_good x (t ++ w :: r) (by rw [hd];exact hb),clean_good x t hb,hd,← List.cons_append,List.take_append_of_le_length hl.2,List.drop_append_of_le_length hl.2,
          ih _ (by rw [List.length_drop,List.length_cons];omega) w r hw,List.append_assoc]
theorem clean_w (w : UInt8) (r : List UInt8) (hw : w.toNat < 128) (h0 : w ≠ 0) : clean (w :: r) = w :: clean r := by
  have hd : dec (w :: r) = (w.toNat,1) := by
    rw [dec_eq _ (by simp)]
    unfold Lib.decodeN
    rw [List.getD_cons_zero,if_pos hw]
  rw [clean_good w r (by rintro (e | e);exact h0 e;omega),hd]
  rfl
theorem clean_mem : ∀ (n : Nat) (a : List UInt8),a.length ≤ n → ∀ x ∈ clean a,x ∈ a ∨ 128 ≤ x.toNat := by
  intro n
  induction n with
  | zero =>
    intro a ha x hx
    obtain rfl := List.length_eq_zero_iff.1 (Nat.le_zero.1 ha)
    cases hx
  | succ n ih =>
    intro a ha x hx
    cases a with
    | nil => cases hx
    | cons y t =>
      rw [List.length_cons] at ha
      have hl := dec_len (y :: t) (by simp)
      by_cases hb : y = 0 ∨ ((dec (y :: t)).2 = 1 ∧ 128 ≤ y.toNat)
      · rw [clean_bad y t hb] at hx
        rcases List.mem_append.1 hx with hx | hx
        · right
          simp only [List.mem_cons,List.not_mem_nil,or_false] at hx
          rcases hx with rfl | rfl | rfl <;> decide
        · rcases ih t (by omega) x hx with h | h
          · exact .inl (List.mem_cons_of_mem _ h)
          · exact .inr h
      · rw [clean_good y t hb] at hx
        rcases List.mem_append.1 hx with hx | hx
        · exact .inl (List.mem_of_mem_take hx)
        · rcases ih _ (by rw [List.length_drop,List.length_cons];omega) x hx with h | h
          · exact .inl (List.mem_of_mem_drop h)
          · exact .inr h
theorem clean_nw (a : List UInt8) (h : nw a) : nw (clean a) := by
  intro x hx
  rcases clean_mem a.length a (Nat.le_refl _) x hx with h1 | h1
  · exact h x h1
  · cases hw : whB x with
    | false => rfl
    | true => exact absurd (whB_lt hw).1 (by omega)
theorem clean_ne (a : List UInt8) (h : a ≠ []) : clean a ≠ [] := by
  obtain ⟨c,l',hc,e,_⟩ := clean_step a h
  rw [e]
  intro e2
  exact hc.ne (List.append_eq_nil_iff.1 e2).1
theorem fl_clean : ∀ (n : Nat) (s : List UInt8),s.length ≤ n → fl [] (clean s) = (fl [] s).map clean := by
  intro n
  induction n with
  | zero =>
    intro s hs
    obtain rfl := List.length_eq_zero_iff.1 (Nat.le_zero.1 hs)
    rfl
  | succ n ih =>
    intro s hs
    rcases white_split s with h | ⟨a,w,r,rfl,ha,hw⟩
    · rw [fl_none s [] h,fl_none (clean s) [] (clean_nw s h),List.nil_append,List.nil_append]
      by_cases h0 : s = []
      · rw [h0];rfl
      · rw [if_neg (clean_ne s h0),if_neg h0]
        rfl
    · obtain ⟨hw1,hw2⟩ := whB_lt hw
      rw [List.length_append,List.length_cons] at hs
      rw [clean_cut a.length a (Nat.le_refl _) w r hw1,clean_w w r hw1 hw2,fl_cut (clean a) [] (clean r) w (clean_nw a ha) hw,fl_cut a [] r w ha hw,List.nil_append,List.nil_append,ih r (by omega)]
      by_cases h0 : a = []
      · rw [h0];rfl
      · rw [if_neg (clean_ne a h0),if_neg h0]
        rfl
theorem jn_clean : ∀ fs : List (List UInt8),clean (jn fs) = jn (fs.map clean)
  | [] => rfl
  | [x] => rfl
  | x :: y :: r => by
    rw [jn,clean_cut x.length x (Nat.le_refl _) 32 _ (by decide),clean_w 32 _ (by decide) (by decide),jn_clean (y :: r)]
    rfl
/-- Cleaning and cutting at white space go in either order. -/
theorem lab_comm (s : List UInt8) : clean (jn (fl [] s)) = jn (fl [] (clean s)) := by rw [jn_clean,fl_clean s.length s (Nat.le_refl _)]
/-! #### the reference's way -/
/-! #### strings.FieldsFunc -/
theorem dec_lo (x : UInt8) (t : List UInt8) (h : x.toNat < 128) : dec (x :: t) = (x.toNat,1) := by
  rw [dec_eq _ (by simp)]
  unfold Lib.decodeN
  rw [List.getD_cons_zero,if_pos h]
theorem take_le2 {x : UInt8} {t : List UInt8} {y : UInt8} {n : Nat} (hy : y ∈ (x :: t).take n) (hn : n ≤ 4) (h0 : 128 ≤ x.toNat) (h1 : 1 < n → 128 ≤ (t.getD 0 0).toNat) (h2 : 2 < n → 128 ≤ (t.getD 1 0).toNat) (h3 : 3 < n → 128 ≤ (t.getD 2 0).toNat) : 128 ≤ y.toNat := by
  obtain ⟨i,hi,rfl⟩ := List.getElem_of_mem hy
  rw [List.length_take] at hi
  rw [List.getElem_take]
  match i,hi with
  | 0,_ => exact h0
  | 1,hi =>
    have hl : 0 < t.length := by simp at hi;omega
    have := h1 (by simp at hi;omega)
    rw [List.getD_eq_getElem?_getD,List.getElem?_eq_getElem hl] at this
    exact this
  | 2,hi =>
    have hl : 1 < t.length := by simp at hi;omega
    have := h2 (by simp at hi;omega)
    rw [List.getD_eq_getElem?_getD,List.getElem?_eq_getElem hl] at this
    exact this
  | 3,hi =>
    have hl : 2 < t.length := by simp at hi;omega
    have := h3 (by simp at hi;omega)
    rw [List.getD_eq_getElem?_getD,List.getElem?_eq_getElem hl] at this
    exact this
  | i + 4,hi => simp at hi;omega
theorem dec_hi (x : UInt8) (t : List UInt8) (h : 128 ≤ x.toNat) : 128 ≤ (dec (x :: t)).1 ∧ nw ((x :: t).take (dec (x :: t)).2) := by
  have e := dec_eq (x :: t) (by simp)
  obtain ⟨c1,c2,c3,c4,_⟩ := dn_cont (x :: t).length ((x :: t).getD 0 0).toNat ((x :: t).getD 1 0).toNat ((x :: t).getD 2 0).toNat ((x :: t).getD 3 0).toNat
  rw [← e] at c1 c2 c3 c4
  simp only [List.getD_cons_succ] at c1 c2 c3
  constructor
  · rw [e]
    rcases Lib.decodeN_shape (x :: t).length ((x :: t).getD 0 0).toNat ((x :: t).getD 1 0).toNat ((x :: t).getD 2 0).toNat ((x :: t).getD 3 0).toNat with ⟨c,e1⟩ | ⟨_,_,_,cv,e1⟩ | ⟨_,_,_,_,cv,_,e1⟩ | ⟨_,_,_,_,_,cv,_,e1⟩ | e1
    · rw [List.getD_cons_zero] at c
      omega
    · rw [e1];exact cv
    · rw [e1];exact Nat.le_trans (by decide) cv
    · rw [e1];exact Nat.le_trans (by decide) cv
    · rw [e1];decide
  · intro y hy
    have := take_le2 hy c4 h (fun hn => by have := (c1 hn).2;omega) (fun hn => by have := (c2 hn).2;omega) (fun hn => by have := (c3 hn).2;omega)
    cases hw : whB y with
    | false => rfl
    | true => exact absurd (whB_lt hw).1 (by omega)
theorem fl_nw : ∀ (a cur r : List UInt8),nw a → fl cur (a ++ r) = fl (cur ++ a) r
  | [],cur,r,_ => by rw [List.nil_append,List.append_nil]
  | x :: a,cur,r,h => by
    have hx := h x (by simp)
    rw [List.cons_append,fl,if_neg (by rw [hx];decide),fl_nw a _ r (fun y hy => h y (by simp [hy])),List.append_assoc]
    rfl
/-- What has come of the field that is open. -/
def opn (s : List UInt8) (st : Option Nat) (pos : Nat) : List UInt8 :=
  match st with
  | none => []
  | some a => (s.drop a).take (pos - a)
def pcs (s : List UInt8) (acc : List (Nat × Nat)) : List (List UInt8) := acc.map fun x => (s.drop x.1).take (x.2 - x.1)
theorem decode_drop (s : List UInt8) (pos : Nat) (h : pos < s.length) : Utf8.decode (B s) pos = dec (s.drop pos) := by
  have := Lib.tail_decode (B s) pos 0
  rw [Nat.add_zero,B_from s pos _ (B_size s)] at this
  rw [← this]
  exact dec_L _ (by intro e;have := congrArg List.length e;rw [List.length_drop] at this;simp at this;omega)
theorem whR_lo (x : UInt8) : whR x.toNat = whB x := rfl
theorem whR_hi {r : Nat} (h : 128 ≤ r) : whR r = false := by
  unfold whR
  rw [decide_eq_false (by omega),decide_eq_false (show ¬ r ≤ 13 by omega),Bool.and_false]
  rfl
theorem opn_go (s : List UInt8) (st : Option Nat) (pos n : Nat) (h : ∀ a,st = some a → a ≤ pos) (hn : pos + n ≤ s.length) : opn s (some (st.getD pos)) (pos + n) = opn s st pos ++ (s.drop pos).take n := by
  cases st with
  | none =>
    show (s.drop pos).take (pos + n - pos) = _
    rw [show pos + n - pos = n by omega]
    rfl
  | some a =>
    have ha := h a rfl
    show (s.drop a).take (pos + n - a) = (s.drop a).take (pos - a) ++ _
    rw [show pos + n - a = (pos - a) + n by omega,List.take_add,List.drop_drop,show a + (pos - a) = pos by omega]
def accOf (st : Option Nat) (pos : Nat) (acc : List (Nat × Nat)) : List (Nat × Nat) :=
  match st with
  | some a => acc ++ [(a,pos)]
  | none => acc
theorem spans_step (p : Nat → Bool) (s : ByteArray) (f pos : Nat) (st : Option Nat) (acc : List (Nat × Nat)) (h : pos < s.size) :
    Lib.spansFromP p s (f + 1) pos st acc = if p (Utf8.decode s pos).1 = true then Lib.spansFromP p s f (pos + (Utf8.decode s pos).2) none (accOf st pos acc) else Lib.spansFromP p s f (pos + (Utf8.decode s pos).2) (some (st.getD pos)) acc := by
  cases st <;> simp [Lib.spansFromP,h,accOf]
theorem spans_l (s : List UInt8) : ∀ (f pos : Nat) (st : Option Nat) (acc : List (Nat × Nat)),s.length ≤ pos + f → pos ≤ s.length → (∀ a,st = some a → a < pos) →
    pcs s (Lib.closeSpans (B s) (Lib.spansFromP whR (B s) f pos st acc)) = pcs s acc ++ fl (opn s st pos) (s.drop pos) := by
  intro f
  induction f with
  | zero =>
    intro pos st acc hf hp hst
    obtain rfl : pos = s.length := by omega
    rw [List.drop_length,fl]
    cases st with
    | none =>
      rw [if_pos (show opn s none s.length = [] from rfl),List.append_nil]
      rfl
    | some a =>
      have ha := hst a rfl
      have hne : opn s (some a) s.length ≠ [] := by
        intro e
        have := congrArg List.length e
        show False
        unfold opn at this
        simp only [List.length_take,List.length_drop,List.length_nil] at this
        omega
      rw [if_neg hne]
      show pcs s (acc ++ [(a,(B s).size)]) = _
      rw [B_size]
      unfold pcs
      rw [List.map_append]
      rfl
  | succ f ih =>
    intro pos st acc hf hp hst
    by_cases hlt : pos < s.length
    · have hd := decode_drop s pos hlt
      obtain ⟨x,t,hx⟩ : ∃ x t,s.drop pos = x :: t := ⟨s[pos],s.drop (pos + 1),List.drop_eq_getElem_cons hlt⟩
      have hl := dec_len (x :: t) (by simp)
      have hlen : (x :: t).length = s.length - pos := by rw [← hx,List.length_drop]
      rw [hx] at hd
      rw [spans_step _ _ _ _ _ _ (by rw [B_size];exact hlt),hd,hx]
      by_cases hlo : x.toNat < 128
      · have e := dec_lo x t hlo
        rw [e]
        simp only
        rw [whR_lo]
        have hdr : s.drop (pos + 1) = t := by rw [← List.drop_drop,hx];rfl
        by_cases hw : whB x = true
        · rw [if_pos hw,fl,if_pos hw]
          cases st with
          | none =>
            show pcs s (Lib.closeSpans (B s) (Lib.spansFromP whR (B s) f (pos + 1) none acc)) = _
            rw [ih (pos + 1) none acc (by omega) (by omega) (fun a h => by cases h),hdr]
            rfl
          | some a =>
            have ha := hst a rfl
            have hne : opn s (some a) pos ≠ [] := by
              intro e
              have := congrArg List.length e
              show False
              unfold opn at this
              simp only [List.length_take,List.length_drop,List.length_nil] at this
              omega
            show pcs s (Lib.closeSpans (B s) (Lib.spansFromP whR (B s) f (pos + 1) none (acc ++ [(a,pos)]))) = _
            rw [ih (pos + 1) none _ (by omega) (by omega) (fun a h => by cases h),hdr,if_neg hne]
            unfold pcs
            rw [List.map_append,List.append_assoc]
            rfl
        · rw [if_neg hw]
          have hw2 : whB x = false := by simpa using hw
          have hgo := opn_go s st pos 1 (fun a h => Nat.le_of_lt (hst a h)) (by omega)
          have key : pcs s (Lib.closeSpans (B s) (Lib.spansFromP whR (B s) f (pos + 1) (some (st.getD pos)) acc)) = pcs s acc ++ fl (opn s st pos) (x :: t) := by
            rw [ih (pos + 1) (some (st.getD pos)) acc (by omega) (by omega) (fun a h => by cases h;cases st with | none => exact Nat.lt_succ_self _ | some b => exact Nat.lt_succ_of_lt (hst b rfl)),hgo,hx,hdr,fl,if_neg (by rw [hw2];decide)]
            rfl
          cases st with
          | none => exact key
          | some a => exact key
      · obtain ⟨h1,h2⟩ := dec_hi x t (by omega)
        rw [whR_hi h1,if_neg (by decide)]
        obtain ⟨n,hn⟩ : ∃ n,(dec (x :: t)).2 = n := ⟨_,rfl⟩
        rw [hn] at h2 hl ⊢
        have hgo := opn_go s st pos n (fun a h => Nat.le_of_lt (hst a h)) (by omega)
        have hdr : s.drop (pos + n) = (x :: t).drop n := by rw [← List.drop_drop,hx]
        have key : pcs s (Lib.closeSpans (B s) (Lib.spansFromP whR (B s) f (pos + n) (some (st.getD pos)) acc)) = pcs s acc ++ fl (opn s st pos) (x :: t) := by
          rw [ih (pos + n) (some (st.getD pos)) acc (by omega) (by omega) (fun a h => by cases h;cases st with | none => show pos < pos + n;omega | some b => have := hst b rfl;show b < pos + n;omega),hgo,hx,hdr,← fl_nw _ _ _ h2,List.take_append_drop]
        cases st with
        | none => exact key
        | some a => exact key
    · obtain rfl : pos = s.length := by omega
      rw [Lib.spansFromP_end _ _ _ _ _ _ (by rw [B_size];omega)]
      have := ih s.length st acc (by omega) (Nat.le_refl _) hst
      rw [Lib.spansFromP_end _ _ _ _ _ _ (by rw [B_size];omega)] at this
      exact this
/-- strings.FieldsFunc at white space. -/
theorem fields_eq (s : List UInt8) : Lib.goFieldsP whR (B s) = (fl [] s).map B := by
  have h := spans_l s s.length 0 none [] (by omega) (Nat.zero_le _) (fun a h => by cases h)
  rw [List.drop_zero] at h
  unfold Lib.goFieldsP Lib.spansOfP
  rw [B_size]
  have h2 := congrArg (List.map B) h
  rw [show pcs s [] ++ fl (opn s none 0) s = fl [] s from rfl] at h2
  rw [← h2]
  unfold pcs
  rw [List.map_map]
  refine List.map_congr_left (fun x _ => ?_)
  exact B_extract s x.1 x.2
end Go.Proofs.YtekifcbokdidlaaGreatDoor.Pl

namespace Go.Proofs.YtekifcbokdidlaaGreatDoor.PA
open Go.RowKit Go.Proofs.YtekifcbokdidlaaGreatDoorW.PrintWords Go.Proofs.YtekifcbokdidlaaGreatDoorW.PrintLast Go.Proofs.YtekifcbokdidlaaGreatDoorW.PrintMore Go.Proofs.YtekifcbokdidlaaGreatDoor.Pl
set_option linter.unusedVariables false

theorem white_pred (w : World) : PredAtRunes Tryz.prog 42 #[] whR w := fun W x hx hb => by
  unfold FnGives
  show Calls Tryz.prog 42 #[.int .i32 (x : Int)] W _
  by_cases h1 : x = 32
  · have HW := Lib.hid (show whR x = true by unfold whR;rw [decide_eq_true h1];rfl)
    have q : ((x : Int) == 32) = true := beq_iff_eq.2 (by omega)
    clear h1 hx hb
    go_enter Tryz.func42,Tryz.ntmps42
    go_wp2
    go_ret
    exact ⟨congrArg (fun z => Ending.returned (.bool z)) HW.out.symm,0,rfl⟩
  · have q : ((x : Int) == 32) = false := beq_eq_false_iff_ne.2 (by omega)
    by_cases h2 : 9 ≤ x
    · have q2 : decide ((9 : Int) ≤ (x : Int)) = true := decide_eq_true (by omega)
      have q2n : 9 ≤ x := h2
      by_cases h3 : x ≤ 13
      · have HW := Lib.hid (show whR x = true by unfold whR;rw [decide_eq_true h2,decide_eq_true h3];simp)
        have q3 : decide ((x : Int) ≤ 13) = true := decide_eq_true (by omega)
        clear h1 hx hb h2
        go_enter Tryz.func42,Tryz.ntmps42
        go_wp2
        go_ret
        exact ⟨congrArg (fun z => Ending.returned (.bool z)) HW.out.symm,0,rfl⟩
      · have HW := Lib.hid (show whR x = false by unfold whR;rw [decide_eq_false h1,decide_eq_false h3];simp)
        have q3 : decide ((x : Int) ≤ 13) = false := decide_eq_false (by omega)
        clear h1 hx hb h2
        go_enter Tryz.func42,Tryz.ntmps42
        go_wp2
        go_ret
        exact ⟨congrArg (fun z => Ending.returned (.bool z)) HW.out.symm,0,rfl⟩
    · have HW := Lib.hid (show whR x = false by unfold whR;rw [decide_eq_false h1,decide_eq_false h2];simp)
      have q2 : decide ((9 : Int) ≤ (x : Int)) = false := decide_eq_false (by omega)
      clear h1 hx hb
      go_enter Tryz.func42,Tryz.ntmps42
      go_wp2
      go_ret
      exact ⟨congrArg (fun z => Ending.returned (.bool z)) HW.out.symm,0,rfl⟩
/-- A text as a label. -/
def lbl (s : List UInt8) : List UInt8 := foldL (chars (clean (jn (fl [] s))))
theorem jn_join : ∀ fs : List (List UInt8),Lib.join fs [32] = jn fs
  | [] => rfl
  | [x] => Lib.join_one x [32]
  | x :: y :: r => by
    have ih := jn_join (y :: r)
    unfold Lib.join at ih ⊢
    rw [jn,← ih]
    simp [List.intercalate,List.intersperse]
theorem fl_len : ∀ (t cur : List UInt8),(fl cur t).length ≤ t.length + 1 ∧ (jn (fl cur t)).length ≤ cur.length + t.length + 1
  | [],cur => by
    rw [fl]
    split
    · simp [jn]
    · simp [jn]
  | x :: t,cur => by
    rw [fl]
    split
    · split
      · have := fl_len t []
        simp only [List.length_nil,List.length_cons] at this ⊢
        omega
      · have h1 := fl_len t []
        have h2 : (jn (cur :: fl [] t)).length ≤ cur.length + 1 + (jn (fl [] t)).length := by
          cases fl [] t with
          | nil => simp [jn]
          | cons y r => rw [jn];simp;omega
        simp only [List.length_nil,List.length_cons] at h1 ⊢
        omega
    · have := fl_len t (cur ++ [x])
      simp only [List.length_append,List.length_cons,List.length_nil] at this ⊢
      omega
theorem bytes_ok (s : ByteArray) : okB (bytesOf s) = true := by
  unfold okB bytesOf
  rw [List.all_map,List.all_eq_true]
  intro x _
  have := x.toNat_lt
  simp
  omega
theorem bytes_u8 (s : ByteArray) : u8s (bytesOf s) = s.data.toList := by
  unfold u8s bytesOf
  rw [List.map_map]
  conv => rhs;rw [← List.map_id s.data.toList]
  refine List.map_congr_left (fun x _ => ?_)
  simp
theorem fields_row {w : World} {base A : Nat} {F : List ByteArray} (hown : w.ownsRow base 9 1 (.slice (some ⟨A,0,none⟩) F.length F.length) F.length (F.map Value.string)) :
    Kd.C Kd.string w (some ⟨A,0,none⟩) F.length F := by
  have h := Kd.R_of_own (enc := Value.string) (h1 := fun _ => rfl) (ok := fun _ => True) hown (fun _ _ => trivial)
  exact (Kd.R_reads' h).2.2
set_option maxHeartbeats 4000000 in
set_option maxRecDepth 100000 in
theorem Label_walk (s : ByteArray) (w : World) (hLd : Laid w) (hs : s.size ≤ 65536) :
    Calls Tryz.prog 19 #[.string s] w fun e w' => e = .returned (.string (B (lbl s.data.toList))) ∧ Below w.heap.size w w' := by
  have hl : s.data.toList.length = s.size := by rw [Array.length_toList];rfl
  have hcl := clean_le s.data.toList
  have hbw := bytes_below (Below.refl w.heap.size w) (Nat.le_refl _) 5 s
  have hrd := bytes_reads w 5 s (by omega)
  have hL := hLd.go hbw
  have hcap := grownCap_ge w s.size 0 5
  have hf : text_Clean.f (bytesOf s) = some (B (clean s.data.toList)) := by
    unfold text_Clean.f
    rw [if_pos ⟨bytes_ok s,by rw [bytesOf_length];omega⟩,bytes_u8]
    rfl
  have hcall := fun (c : Nat) (hc : s.size ≤ c) => text_Clean.calls (some ⟨w.heap.size,0,none⟩) c (bytesOf s) (B (clean s.data.toList)) _ hL (by rw [bytesOf_length];exact Kd.C_of_reads (d := (0 : Int)) (h1 := fun _ => rfl) hrd) (by rw [bytesOf_length];exact hc) hf
  rw [bytesOf_length] at hcall
  have HC := Lib.hid (hcall _ hcap)
  have HBW := Lib.hid hbw
  have hws : w.heap.size ≤ (Lib.bytesWorld w 5 s).heap.size := hbw.size
  have hfl := fl_len (clean s.data.toList) []
  obtain ⟨x,hx⟩ : ∃ x,clean s.data.toList = x := ⟨_,rfl⟩
  have hlbl : lbl s.data.toList = foldL (chars (clean (jn (fl [] x)))) := by
    unfold lbl
    rw [← hx,← lab_comm,clean_clean]
  rw [hx] at HC hfl hcl
  have hfe := fields_eq x
  have HFF := Lib.hid (fun W => Tryz.strings_FieldsFunc_runes 42 #[] (enters_of Tryz.func42 (by kernel_rfl) rfl) whR (B x) W (by rw [B_size];omega) (white_pred W))
  rw [hfe] at HFF
  have hjf : strings_Join.f ((fl [] x).map B) ⟨#[32]⟩ = some (B (jn (fl [] x))) := by
    have e : ((fl [] x).map B).map (·.data.toList) = fl [] x := by
      rw [List.map_map]
      exact (List.map_congr_left (g := id) (fun y _ => B_data y)).trans (List.map_id _)
    unfold strings_Join.f
    rw [e,show (⟨#[32]⟩ : ByteArray).data.toList = [32] from rfl,jn_join,if_pos ⟨by rw [List.length_map];simp at hfl;omega,by simp at hfl;omega⟩]
    rfl
  have hJ := fun (A : Nat) (W : World) (h : Kd.C Kd.string W (some ⟨A,0,none⟩) ((fl [] x).map B).length ((fl [] x).map B)) => strings_Join.calls (some ⟨A,0,none⟩) ((fl [] x).map B).length ((fl [] x).map B) ⟨#[32]⟩ _ W h (Nat.le_refl _) hjf
  have HJ := Lib.hid hJ
  have HFo := Lib.hid (fun W hW => Fold_walk (B (jn (fl [] x))) W hW (by rw [B_size];simp at hfl;omega))
  rw [B_data] at HFo
  have HL := Lib.hid hlbl
  have HLd := Lib.hid hLd
  obtain ⟨y,hy⟩ : ∃ y,B x = y := ⟨_,rfl⟩
  obtain ⟨z,hz⟩ : ∃ z,B (jn (fl [] x)) = z := ⟨_,rfl⟩
  rw [hy] at HC HFF
  rw [hz] at HJ HFo
  obtain ⟨F,hF⟩ : ∃ F,(fl [] x).map B = F := ⟨_,rfl⟩
  rw [hF] at HFF HJ
  clear hcall hrd hL hf hbw hfl hcl hfe hjf hJ hlbl hx hy hz hF hl hs hLd
  have kb := fun W => print_bytes (P := Tryz.prog) 9 60 5 Tryz.underlying9 Tryz.underlying60 Tryz.underlying5 s W
  go_enter Tryz.func19,Tryz.ntmps19
  go_wp2_with fail
  refine HC.out.mono ?_
  rintro e w1 ⟨rfl,hb1⟩
  have HB1 := Lib.hid (HBW.out.trans (hb1.mono hws))
  clear hb1 HC kb HBW hws hcap
  go_wp2_with fail
  refine (HFF.out _).mono ?_
  rintro e w2 ⟨A,rfl,hA,hown,hb2⟩
  have HC2 := Lib.hid (fields_row hown)
  have HB2 := Lib.hid (HB1.out.trans (hb2.mono HB1.out.size))
  clear hown hb2 hA HFF HB1
  go_wp2_with fail
  refine (HJ.out A _ HC2.out).mono ?_
  rintro e w3 ⟨rfl,hb3⟩
  have HB3 := Lib.hid (HB2.out.trans (hb3.mono HB2.out.size))
  clear hb3 HJ HC2 HB2
  go_wp2_with fail
  refine (HFo.out _ (HLd.out.go HB3.out)).mono ?_
  rintro e w4 ⟨rfl,hb4⟩
  have HB4 := Lib.hid (HB3.out.trans (hb4.mono HB3.out.size))
  clear hb4
  go_wp2
  go_ret
  rw [HL.out]
  exact ⟨rfl,HB4.out⟩
def class_Label.f (a0 : ByteArray) : Option ByteArray := if a0.size ≤ 65536 then some (B (lbl a0.data.toList)) else none
theorem class_Label.calls (a0 : ByteArray) (r : ByteArray) (w : World) (hLd : Laid w) (h : class_Label.f a0 = some r) :
    Calls Tryz.prog 19 #[.string a0] w fun e w' => e = .returned (.string r) ∧ Below w.heap.size w w' := by
  unfold class_Label.f at h
  split at h
  · rename_i hc
    obtain rfl := Option.some.inj h
    exact Label_walk a0 w hLd hc
  · cases h
end Go.Proofs.YtekifcbokdidlaaGreatDoor.PA
