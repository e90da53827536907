/-
  The contract of text.Join: all of the list, one LF behind each; the whole text is at most 2^47 bytes.
-/
import Derived.Test.YtondbckghchmpaaDoorPAx0
import Derived.Test.YtondbckghchmpaaDoorShelf
import Derived.Test.YtondbckghchmpaaDoorTxt
import Derived.WalkKit
import Derived.BigCall
namespace Go.Proofs.YtondbckghchmpaaDoor.PA
open Go.RowKit Go.Proofs.YtondbckghchmpaaDoorW.PrintWords Go.Proofs.YtondbckghchmpaaDoorW.PrintLast Go.Proofs.YtondbckghchmpaaDoorW.PrintMore Go.Proofs.YtondbckghchmpaaDoor.Pl
set_option linter.unusedVariables false

def text_Join.f (l0 : List ByteArray) : Option ByteArray := if (joinB l0).length ≤ 140737488355328 then some ⟨(joinB l0).toArray⟩ else none

set_option maxHeartbeats 1000000 in
set_option maxRecDepth 100000 in
theorem text_Join.walk (A0 : Option Addr) (c0 : Nat) (l0 : List ByteArray) (w : World) (hr0 : Kd.C Kd.string w A0 l0.length l0) (hb : (joinB l0).length ≤ 140737488355328) :
    Calls Tryd.prog 14 #[.slice A0 l0.length c0] w fun e w' => e = .returned (.string ⟨(joinB l0).toArray⟩) ∧ Below w.heap.size w w' := by
  have HR := Aside0.mk hr0
  have hl9 : l0.length ≤ 9223372036854775807 := hr0.2.1
  clear hr0
  have HB := Aside0.mk hb
  clear hb
  go_enter Tryd.func14, Tryd.ntmps14
  go_wp2
  go_loopw [8] (fun v8 wr => ∃ k : Nat, k ≤ l0.length ∧ v8 = .int .i64 k ∧ Lib.IsBuilder 40 5 w.heap.size w.heap.size (Lib.byteCells (joinB (l0.take k))) wr ∧ Below w.heap.size w wr) (fun v8 _ => l0.length - (intOf v8).toNat)
  case atStart =>
    exact ⟨0, Nat.zero_le _, rfl, Lib.fresh_isBuilder _ _ w, (Below.refl _ w).alloc (Nat.le_refl _) _⟩
  case round =>
    obtain ⟨k, hk, rfl, hI, hbw⟩ := hrel
    by_cases hlt : k < l0.length
    · obtain ⟨ad, e1, hx⟩ := Kd.at_string (Kd.C_below HR.out hbw) (k : Int) (by omega) (by omega)
      cases e1
      have hxe : rdOf ByteArray.empty l0 (k : Int) = l0[k] := by unfold rdOf; rw [Int.toNat_natCast, List.getD_eq_getElem?_getD, List.getElem?_eq_getElem hlt]; rfl
      have hsu := joinB_take_succ l0 k hlt
      have hle := joinB_take_le l0 (k + 1)
      rw [hsu] at hle
      rw [← hxe] at hsu hle
      clear hxe
      rw [Int.toNat_natCast] at hx
      generalize rdOf ByteArray.empty l0 (k : Int) = x at hx hsu hle
      simp only [List.length_append, List.length_cons, List.length_nil, Array.length_toList] at hle
      have hb1 := HB.out
      have hxs : (joinB (l0.take k)).length + x.data.size + 1 ≤ 140737488355328 := by omega
      have HS := Aside0.mk hsu
      clear hsu hle hb1
      have hsz := hbw.size
      have HX := Aside0.mk hxs
      have HI := Aside0.mk hI
      clear hxs hI
      go_wp2_with (go_at_call 24; refine (Tryd.Builder_WriteString w.heap.size w.heap.size _ x _ HI.out (by have := HX.out; rw [Lib.byteCells_length]; show _ + x.data.size ≤ _; omega) hsz).mono ?_; rintro e w1 ⟨rfl, h1, b1⟩)
      have hbw1 := hbw.trans b1
      clear hbw b1 hsz hx
      have hsz := hbw1.size
      have HI1 : Aside0 (Lib.IsBuilder 40 5 w.heap.size w.heap.size (Lib.byteCells (joinB (l0.take k)) ++ Lib.strCells x) w1) := ⟨.inr h1⟩
      clear h1 HI
      go_wp2_with (go_at_call 25; refine (Tryd.Builder_WriteByte w.heap.size w.heap.size _ 10 _ HI1.out (by have := HX.out; rw [List.length_append, Lib.byteCells_length, Lib.strCells_length]; show _ + x.data.size + 1 ≤ _; omega) hsz).mono ?_; rintro e w2 ⟨rfl, h2, b2⟩)
      have hbw2 := hbw1.trans b2
      clear hbw1 b2 HI1 hsz
      have H2 := Aside0.mk h2
      clear h2
      go_wp2
      go_roundw
      case rel =>
        refine ⟨k + 1, by omega, by go_num, ?_, hbw2⟩
        rw [HS.out, Lib.byteCells_append, Lib.byteCells_append, ← List.append_assoc]
        exact .inr H2.out
      case measure => simp [intOf]; omega
    · have : k = l0.length := by omega
      subst this
      rw [List.take_length] at hI
      go_wp2_with (go_at_call 26; refine (Tryd.Builder_String_any w.heap.size w.heap.size (joinB l0) _ hI hbw.size).mono ?_; rintro e w1 ⟨rfl, hb1⟩)
      go_ret
      exact ⟨rfl, hbw.trans hb1⟩
theorem text_Join.calls (A0 : Option Addr) (c0 : Nat) (l0 : List ByteArray) (r : ByteArray) (w : World) (hr0 : Kd.C Kd.string w A0 l0.length l0) (hc0 : l0.length ≤ c0) (h : text_Join.f l0 = some r) :
    Calls Tryd.prog 14 #[.slice A0 l0.length c0] w fun e w' => e = .returned (.string r) ∧ Below w.heap.size w w' := by
  unfold text_Join.f at h
  split at h
  · rename_i hb
    obtain rfl := Option.some.inj h
    exact text_Join.walk A0 c0 l0 w hr0 hb
  · cases h
end Go.Proofs.YtondbckghchmpaaDoor.PA
