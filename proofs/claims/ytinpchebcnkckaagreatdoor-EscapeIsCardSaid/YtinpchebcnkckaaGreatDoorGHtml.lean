/-
  The contract of escape.Html. Condition: a text of at most 2^20 bytes.
-/
import Derived.Test.YtinpchebcnkckaaGreatDoorGHtml4
import Derived.Test.YtinpchebcnkckaaGreatDoorGHtml5
import Derived.Test.YtinpchebcnkckaaGreatDoorPAx0
namespace Go.Proofs.YtinpchebcnkckaaGreatDoor.PA
open Go.RowKit Go.Proofs.YtinpchebcnkckaaGreatDoor.Pl Go.Proofs.YtinpchebcnkckaaGreatDoorW.PrintWords
set_option linter.unusedVariables false

set_option maxHeartbeats 2000000 in
set_option maxRecDepth 100000 in
theorem replace_walk (b0 b : Nat) (s : List UInt8) (hs : s.length ≤ 1048576) (w : World) (hr : RepNew b0 b w) (hb0 : b0 ≤ w.heap.size) :
    Calls Tryz.prog 20 #[.pointer (some ⟨b, 0, none⟩), .string (B s)] w fun e w' => e = .returned (.string (B (htm s))) ∧ Below b0 w w' := by
  have hmf : ∀ (fn : Fn) (first cap : Array Value) (w : World), (Instr.makeFunc fn first cap).run Tryz.prog w = .ok (.func fn first cap) w := fun _ _ _ _ => rfl
  have hmeth : ∀ (v : Value) (W : World), (method 299 97 v "Replace").run Tryz.prog W = .ok (149, v) W := fun _ _ => by kernel_rfl
  have HO := hid0 (do_once b0 b w hr)
  clear hr
  go_enter Tryz.func20, Tryz.ntmps20
  go_wp2_with (first | (go_at_call 31; refine HO.out.mono ?_; rintro e w1 ⟨rfl, c, t, hb, h3, hbel⟩; have HB := hid0 (bsr_walk w.heap.size c t s hs w1 hb); have HL := hid0 hbel; clear hb hbel) | (go_at_call 149; refine HB.out.mono ?_; rintro e w2 ⟨rfl, hb2⟩; have HM := hid0 (HL.out.trans (hb2.mono (by have := HL.out.size; omega))); clear hb2))
  go_ret
  exact ⟨rfl, HM.out⟩
set_option maxHeartbeats 2000000 in
set_option maxRecDepth 100000 in
theorem html_walk (s : List UInt8) (hs : s.length ≤ 1048576) (w : World) :
    Calls Tryz.prog 11 #[.string (B s)] w fun e w' => e = .returned (.string (B (htm s))) ∧ Below w.heap.size w w' := by
  have hpat : PatsAt w.heap.size (w.alloc (.cells (pats.map Value.string).toArray 9)) := by
    refine ⟨by simp, fun j hj => ?_⟩
    have h1 : (w.alloc (.cells (pats.map Value.string).toArray 9)).cell? ⟨w.heap.size, j, none⟩ = (pats.map Value.string).toArray[j]? := by simp
    rw [h1, List.getElem?_toArray, List.getElem?_map, List.getD_eq_getElem?_getD, List.getElem?_eq_getElem (show j < pats.length from hj)]
    rfl
  have HN := hid0 (newRep w.heap.size _ hpat)
  clear hpat
  go_enter Tryz.func11, Tryz.ntmps11
  go_wp2_with fail
  refine HN.out.mono ?_
  rintro e w1 ⟨b, rfl, hr, hb⟩
  rw [World.size_alloc] at hr hb
  have hb1 : Below w.heap.size w w1 := ((Below.refl _ w).alloc (Nat.le_refl _) _).trans (hb.mono (Nat.le_succ _))
  have hbs := hb.size
  rw [World.size_alloc] at hbs
  have HR := hid0 (replace_walk (w.heap.size + 1) b s hs w1 hr hbs)
  have HB := hid0 hb1
  clear hb hr HN hb1
  go_wp2_with (go_at_call 20; refine HR.out.mono ?_; rintro e w2 ⟨rfl, hb2⟩; have HM := hid0 (HB.out.trans (hb2.mono (Nat.le_succ _))); clear hb2)
  go_ret
  exact ⟨rfl, HM.out⟩
def escape_Html.f (a0 : ByteArray) : Option ByteArray := if a0.size ≤ 1048576 then some (B (htm a0.data.toList)) else none
theorem escape_Html.calls (a0 : ByteArray) (r : ByteArray) (w : World) (h : escape_Html.f a0 = some r) :
    Calls Tryz.prog 11 #[.string a0] w fun e w' => e = .returned (.string r) ∧ Below w.heap.size w w' := by
  unfold escape_Html.f at h
  split at h
  · rename_i hc
    obtain rfl := Option.some.inj h
    exact html_walk a0.data.toList (by rw [Array.length_toList]; exact hc) w
  · cases h
end Go.Proofs.YtinpchebcnkckaaGreatDoor.PA
