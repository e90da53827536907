/-
  The contracts of strings.IndexRune (a text of ASCII bytes, a rune from 128 on: -1) and strings.IndexAny (a set of two or more ASCII bytes, any text).
-/
import Derived.Test.YtondbckghchmpaaDoorPAx0
import Derived.Test.YtondbckghchmpaaDoorShelf
import Derived.Test.YtondbckghchmpaaDoorGLaid
import Derived.WalkKit
import Derived.BigCall
import Derived.BigQuiet
import Derived.Deep.QuietTactic
import Derived.Laws.Runes
import Derived.Lib.OthersKept
import Derived.Outline
import Derived.IntWalk
namespace Go.Proofs.YtondbckghchmpaaDoor.PA
open Go.RowKit Go.Proofs.YtondbckghchmpaaDoorW.PrintWords Go.Proofs.YtondbckghchmpaaDoorW.PrintLast Go.Proofs.YtondbckghchmpaaDoorW.PrintMore
set_option linter.unusedVariables false

theorem ia_data (s : ByteArray) (i : Nat) (hi : i < s.size) : s.data.toList[i]? = some (s[i]'hi) := Lib.data_getElem? s i hi

set_option maxHeartbeats 1000000 in
set_option maxRecDepth 100000 in
theorem ia_bad (s : ByteArray) (w : World) (hs : s.size ≤ 4294967280) (ha : ∀ (j : Nat) b, s.data.toList[j]? = some b → b.toNat < 128) :
    Calls Tryd.prog 43 #[.string s, .int .i32 65533] w fun e w' => e = .returned (.int .i64 (-1)) ∧ Below w.heap.size w w' := by
  have HA := Aside0.mk ha
  clear ha
  go_enter Tryd.func43, Tryd.ntmps43
  go_wp2
  go_loopg [5, 6] s.size (fun g _ _ wx => ∃ i : Nat, i + g = s.size ∧ wx = w.iter s i)
  case atStart => exact ⟨0, by omega, rfl⟩
  case round =>
    obtain ⟨i, hig, rfl⟩ := hrel
    cases gk with
    | zero =>
      obtain rfl : i = s.size := by omega
      have hnx := run_next_end (P := Tryd.prog) w s s.size
      go_wp2
      go_ret
      exact ⟨rfl, (Below.refl _ w).alloc (Nat.le_refl _) _⟩
    | succ g =>
      have hi : i < s.size := by omega
      obtain ⟨x, hx⟩ : ∃ x : UInt8, s[i]'hi = x := ⟨_, rfl⟩
      have hx128 : x.toNat < 128 := HA.out i x (by rw [← hx]; exact ia_data s i hi)
      have hnx := fun ty => run_next_ascii (P := Tryd.prog) w s i ty hi (by rw [hx]; exact hx128)
      rw [hx] at hnx
      clear hx
      have hne : ((x.toNat : Int) == 65533) = false := beq_eq_false_iff_ne.2 (by omega)
      go_wp2
      go_roundg g
      case measure => omega
      case rel => exact ⟨i + 1, by omega, rfl⟩

theorem ia_none (l : List UInt8) (c : UInt8) (ha : ∀ (j : Nat) b, l[j]? = some b → b.toNat < 128) (hc : 128 ≤ c.toNat) : Lib.indexByte l c = -1 := by
  induction l with
  | nil => rfl
  | cons b l ih =>
    have h0 : b.toNat < 128 := ha 0 b rfl
    have hb : (b == c) = false := beq_eq_false_iff_ne.2 (fun e => by rw [e] at h0; omega)
    have := ih (fun j x hj => ha (j + 1) x hj)
    simp [Lib.indexByte, hb, this]

set_option maxHeartbeats 1000000 in
set_option maxRecDepth 100000 in
theorem ia_ill (s : ByteArray) (r : Int) (w : World) (h0 : 128 ≤ r) (h1 : r ≤ 1114111) (hv : Lib.validRune r = false) :
    Calls Tryd.prog 43 #[.string s, .int .i32 r] w fun e w' => e = .returned (.int .i64 (-1)) ∧ Below w.heap.size w w' := by
  have hne : (r == 65533) = false := beq_eq_false_iff_ne.2 (fun e => by subst e; simp [Lib.validRune] at hv)
  have h2 : decide (r < 128) = false := decide_eq_false (by omega)
  have h3 : decide (0 ≤ r) = true := decide_eq_true (by omega)
  go_enter Tryd.func43, Tryd.ntmps43
  go_wp2_with (go_at_call 52; refine (Tryd.utf8_ValidRune _ _).mono ?_; rintro e w' ⟨rfl, hw⟩; rw [hw, hv])
  go_ret
  exact ⟨rfl, Below.refl _ w⟩

set_option maxHeartbeats 1000000 in
set_option maxRecDepth 100000 in
theorem ia_hi (s : ByteArray) (r : Int) (w : World) (hs : s.size ≤ 4294967280) (h0 : 128 ≤ r) (h1 : r ≤ 1114111) (hv : Lib.validRune r = true) (hr : r ≠ 65533) (ha : ∀ (j : Nat) b, s.data.toList[j]? = some b → b.toNat < 128) :
    Calls Tryd.prog 43 #[.string s, .int .i32 r] w fun e w' => e = .returned (.int .i64 (-1)) ∧ Below w.heap.size w w' := by
  have hne : (r == 65533) = false := beq_eq_false_iff_ne.2 hr
  have h2 : decide (r < 128) = false := decide_eq_false (by omega)
  have h3 : decide (0 ≤ r) = true := decide_eq_true (by omega)
  have hvv : Utf8.valid r = true := by
    unfold Lib.validRune at hv
    unfold Utf8.valid
    simp at hv ⊢
    omega
  obtain ⟨e1, e2, e3⟩ := encode_facts r hvv h0
  clear hvv
  have HA := Aside0.mk ha
  clear ha hr
  obtain ⟨rs, hrs⟩ : ∃ rs, Utf8.encode r = rs := ⟨_, rfl⟩
  rw [hrs] at e1 e2 e3
  obtain ⟨n, hn⟩ : ∃ n, rs.size = n + 1 := ⟨rs.size - 1, by omega⟩
  have e4 : ∀ h : n < rs.size, 128 ≤ (rs[n]'h).toNat := by
    intro h
    have h' : rs.size - 1 < rs.size := by omega
    have := e3 h'
    simp only [show rs.size - 1 = n from by omega] at this
    exact this
  have E4 := Aside0.mk e4
  clear e3 e4
  go_enter Tryd.func43, Tryd.ntmps43
  go_wp2_with (go_at_call 52; refine (Tryd.utf8_ValidRune _ _).mono ?_; rintro e w' ⟨rfl, hw⟩; rw [hw, hv])
  subst hw
  go_step3
  go_wp2
  go_loopg [9, 10] 0 (fun g v9 v10 wx => v9 = .int .i64 (n : Int) ∧ v10 = .int .i64 0 ∧ wx = w')
  case atStart => exact ⟨rfl, rfl, rfl⟩
  case round =>
    obtain ⟨rfl, rfl, rfl⟩ := hrel
    by_cases hlt : n < s.size
    · have hn2 : n < rs.size := by omega
      have hq := E4.out hn2
      have hp := HA.out _ _ (ia_data s n hlt)
      have hpq : (((s[n]'hlt).toNat : Int) != ((rs[n]'hn2).toNat : Int)) = true := by rw [bne_iff_ne]; omega
      go_wp2
      go_step3
      go_wp2
      have HN := Aside0.mk hn
      clear hn
      have hqi0 : (0 : Int) ≤ (n : Int) := by omega
      have hqi1 : (n : Int) < (rs.size : Int) := by omega
      go_quiet (fail)
      obtain ⟨w1, hw1⟩ : ∃ w1, w1 = wr.drewN nq := ⟨_, rfl⟩
      rw [← hw1]
      have hbw : Below wr.heap.size wr w1 := by rw [hw1]; exact pw_below_drewN (Below.refl _ _) _
      clear hw1
      go_wp2
      have hq3 : (n : Int) + 1 ≤ (s.size : Int) := by omega
      have hq4 : (0 : Int) ≤ (n : Int) + 1 := by omega
      have hix : Lib.indexByte (s.extract (n + 1) s.size).data.toList rs[n] = -1 := by
        refine ia_none _ _ (fun j b hj => ?_) hq
        have hm : b ∈ s.data.toList := by
          have h1 : b ∈ (s.extract (n + 1) s.size).data.toList := List.mem_of_getElem? hj
          rw [Lib.extract_data] at h1
          exact List.mem_of_mem_drop (List.mem_of_mem_take h1)
        obtain ⟨j', hj'⟩ := List.getElem?_of_mem hm
        exact HA.out j' b hj'
      have hwr : IntKind.i64.wrap ((n : Int) + 1) = (n : Int) + 1 := IntWalk.i64_in _ (by omega)
      have htn : ((n : Int) + 1).toNat = n + 1 := by omega
      go_quiet ((go_at_call 51; exact Calls.quiet_of_same (Tryd.strings_IndexByte _ _ _)))
      clear hwr htn
      have hback : ((rs[n].toNat : Int)).toNat.toUInt8 = rs[n] := by simp
      rw [hback, hix]
      obtain ⟨w2, hw2⟩ : ∃ w2, w2 = w1.drewN nq := ⟨_, rfl⟩
      rw [← hw2]
      have hbw2 : Below wr.heap.size wr w2 := by rw [hw2]; exact pw_below_drewN hbw _
      clear hw2
      go_wp2
      repeat (first | refine ex_noGoto_ret ?_ | refine ex_block_ret ?_ | refine ex_then_ret ?_)
      go_ret
      exact ⟨rfl, hbw2⟩
    · go_wp2
      repeat (first | refine ex_noGoto_ret ?_ | refine ex_block_ret ?_ | refine ex_then_ret ?_)
      go_ret
      exact ⟨rfl, Below.refl _ _⟩

/-- A rune from 128 on is none of ASCII bytes. -/
theorem ia_far (s : ByteArray) (r : Int) (w : World) (hs : s.size ≤ 4294967280) (h0 : 128 ≤ r) (h1 : r ≤ 1114111) (ha : ∀ (j : Nat) b, s.data.toList[j]? = some b → b.toNat < 128) :
    Calls Tryd.prog 43 #[.string s, .int .i32 r] w fun e w' => e = .returned (.int .i64 (-1)) ∧ Below w.heap.size w w' := by
  by_cases hr : r = 65533
  · subst hr
    exact ia_bad s w hs ha
  · cases hv : Lib.validRune r
    · exact ia_ill s r w h0 h1 hv
    · exact ia_hi s r w hs h0 h1 hv hr ha

theorem ia_dn (n b0 b1 b2 b3 : Nat) : (1 < (Lib.decodeN n b0 b1 b2 b3).2 → 1 < n ∧ b1 / 64 = 2) ∧ (2 < (Lib.decodeN n b0 b1 b2 b3).2 → 2 < n ∧ b2 / 64 = 2) ∧ (3 < (Lib.decodeN n b0 b1 b2 b3).2 → 3 < n ∧ b3 / 64 = 2) ∧ (Lib.decodeN n b0 b1 b2 b3).2 ≤ 4 ∧ 1 ≤ (Lib.decodeN n b0 b1 b2 b3).2 := by
  unfold Lib.decodeN
  split
  · simp
  · split
    · rename_i h
      split <;> simp [h.2.1, h.2.2]
    · split
      · rename_i h
        split <;> simp [h.2.1.1, h.2.1.2, h.2.2.1, h.2.2.2]
      · split
        · rename_i h
          split <;> simp [h.2.1.1, h.2.1.2, h.2.2.1.1, h.2.2.1.2, h.2.2.2.1, h.2.2.2.2]
        · simp
theorem ia_get (s : ByteArray) (i : Nat) (hi : i < s.size) : s.get! i = s[i]'hi := by
  show s.data[i]! = s.data[i]
  exact getElem!_pos s.data i hi
theorem ia_rune (s : ByteArray) (i : Nat) (hi : i < s.size) (h : 128 ≤ (s[i]'hi).toNat) : i + (Utf8.decode s i).2 ≤ s.size ∧ 1 ≤ (Utf8.decode s i).2 ∧ ∀ (j : Nat) b, i ≤ j → j < i + (Utf8.decode s i).2 → s.data.toList[j]? = some b → 128 ≤ b.toNat := by
  rw [Lib.decode_at]
  obtain ⟨a1, a2, a3, a4, a5⟩ := ia_dn (s.size - i) (s.get! i).toNat (s.get! (i + 1)).toNat (s.get! (i + 2)).toNat (s.get! (i + 3)).toNat
  generalize (Lib.decodeN (s.size - i) (s.get! i).toNat (s.get! (i + 1)).toNat (s.get! (i + 2)).toNat (s.get! (i + 3)).toNat).2 = wd at *
  refine ⟨by omega, a5, fun j b h1 h2 hb => ?_⟩
  have hj : j < s.size := by
    have := (List.getElem?_eq_some_iff.1 hb).1
    rw [Array.length_toList] at this
    exact this
  have hbj : b = s.get! j := by
    rw [ia_get s j hj]
    rw [ia_data s j hj] at hb
    exact (Option.some.inj hb).symm
  subst hbj
  have h4 : j = i ∨ j = i + 1 ∨ j = i + 2 ∨ j = i + 3 := by omega
  rcases h4 with e | e | e | e <;> subst e
  · rw [ia_get s _ hi]; exact h
  · have := (a1 (by omega)).2; omega
  · have := (a2 (by omega)).2; omega
  · have := (a3 (by omega)).2; omega
theorem ia_runele (s : ByteArray) (i : Nat) : (Utf8.decode s i).1 ≤ 1114111 := by
  have h := Lib.decode_at s i
  rw [h]
  have hb : (s.get! i).toNat < 256 := UInt8.toNat_lt _
  unfold Lib.decodeN
  repeat' split
  all_goals (simp only; omega)

set_option maxHeartbeats 1000000 in
set_option maxRecDepth 100000 in
theorem ia_short (s chars : ByteArray) (w : World) (h2 : 2 ≤ chars.size) (h8 : s.size ≤ 8) (hc8 : chars.size ≤ 4294967280) (hac : ∀ (j : Nat) b, chars.data.toList[j]? = some b → b.toNat < 128) :
    Calls Tryd.prog 31 #[.string s, .string chars] w fun e w' => e = .returned (.int .i64 (Lib.indexAny s.data.toList chars.data.toList)) ∧ Below w.heap.size w w' := by
  have HA := Aside0.mk hac
  clear hac
  have hemp : chars.toList.isEmpty = false := by
    rw [Lib.toList_data]
    cases h : chars.data.toList with
    | nil => have := Lib.size_eq chars; rw [h, List.length_nil] at this; omega
    | cons _ _ => rfl
  have hn1 : ((chars.size : Int) == 1) = false := beq_eq_false_iff_ne.2 (by omega)
  have h8z : decide ((8 : Int) < (s.size : Int)) = false := decide_eq_false (by omega)
  go_enter Tryd.func31, Tryd.ntmps31
  go_wp2_with (go_at_call 44; refine (Tryd.strings_shouldUseASCIISet _ _).mono ?_; rintro e w' ⟨rfl, hw⟩; rw [hw, h8z])
  go_loopg [9, 10] s.size (fun g _ _ wx => ∃ i : Nat, i ≤ s.size ∧ s.size ≤ i + g ∧ wx.heap[w.heap.size]? = some (.stringIter s i) ∧ Below w.heap.size w wx ∧ Lib.NoAny s.data.toList chars.data.toList i)
  case atStart => exact ⟨0, by omega, by omega, World.iter_heap w s 0, (Below.refl _ w).alloc (Nat.le_refl _) _, Lib.NoAny.zero _ _⟩
  case round =>
    obtain ⟨i, hi1, hi2, hit, hbw, hno⟩ := hrel
    have HN := Aside0.mk hno
    clear hno
    have hsz : w.heap.size < wr.heap.size := (Array.getElem?_eq_some_iff.1 hit).1
    have HB := Aside0.mk hbw
    clear hbw
    by_cases hi : i < s.size
    · have hnx : ∀ ty, (Instr.next (.pointer (some ⟨w.heap.size, 0, none⟩)) true ty).run Tryd.prog wr = _ := fun ty => Lib.run_next_any_at wr w.heap.size s i ty hit hi
      obtain ⟨x, hx⟩ : ∃ x : UInt8, s[i]'hi = x := ⟨_, rfl⟩
      have Hx := Aside0.mk hx
      have hit2 := Lib.iterAt_heap wr w.heap.size s i (i + (Utf8.decode s i).2) hit
      have hbw2 := Lib.below_iterAt HB.out (k := w.heap.size) (Nat.le_refl _) s (i + (Utf8.decode s i).2)
      by_cases hlo : x.toNat < 128
      · have hd : Utf8.decode s i = (x.toNat, 1) := by
          have := decode_ascii s i hi (by rw [hx]; exact hlo)
          rw [hx] at this
          exact this
        have Hxl := Aside0.mk (show s.data.toList[i]? = some x by rw [ia_data s i hi, hx])
        clear hx Hx
        rw [hd] at hit2 hbw2
        simp only [hd] at hnx
        have HI := Aside0.mk hit2
        have HB2 := Aside0.mk hbw2
        clear hit2 hbw2 hd hit
        have hcon := Lib.contains_iff_indexByte chars.data.toList x
        have hback : ((x.toNat : Int)).toNat.toUInt8 = x := by simp
        cases hin : chars.data.toList.contains x
        · rw [hin] at hcon
          have hlt : ¬ ((0 : Int) ≤ Lib.indexByte chars.data.toList x) := of_decide_eq_false hcon.symm
          clear hcon
          go_wp2_with (go_at_call 43; refine (Tryd.strings_IndexRune_ascii _ _ _ (by omega) (by omega)).mono ?_; rintro e w' ⟨rfl, hw⟩; rw [hw, hback])
          go_roundg (gk - 1)
          case measure => omega
          case rel => exact ⟨i + 1, by omega, by omega, HI.out, HB2.out, HN.out.succ Hxl.out hin⟩
        · rw [hin] at hcon
          have hge : (0 : Int) ≤ Lib.indexByte chars.data.toList x := of_decide_eq_true hcon.symm
          clear hcon
          go_wp2_with (go_at_call 43; refine (Tryd.strings_IndexRune_ascii _ _ _ (by omega) (by omega)).mono ?_; rintro e w' ⟨rfl, hw⟩; rw [hw, hback])
          go_ret
          exact ⟨by rw [Lib.indexAny_hit HN.out Hxl.out hin]; rfl, HB2.out⟩
      · obtain ⟨g1, g2, g3⟩ := ia_rune s i hi (by rw [hx]; omega)
        have hr1 := (decode_high s i hi (by rw [hx]; omega)).1
        have hr2 := ia_runele s i
        clear hx
        have HI := Aside0.mk hit2
        have HB2 := Aside0.mk hbw2
        have hsz2 : (wr.iterAt w.heap.size s (i + (Utf8.decode s i).2)).heap.size = wr.heap.size := Lib.iterAt_size _ _ _ _
        have HZ := Aside0.mk hsz2
        clear hit2 hbw2 hit hsz2
        have G3 := Aside0.mk g3
        clear g3
        go_wp2_with (go_at_call 43; refine (ia_far chars _ _ hc8 (by omega) (by omega) HA.out).mono ?_; rintro e w2 ⟨rfl, hb2⟩)
        have hb3 : w2.heap[w.heap.size]? = some (.stringIter s (i + (Utf8.decode s i).2)) := (hb2.block _ (by rw [HZ.out]; exact hsz)).trans HI.out
        have hb4 : Below w.heap.size w w2 := below_then HB2.out (by rw [HZ.out]; omega) hb2
        clear hb2
        have H3 := Aside0.mk hb3
        have H4 := Aside0.mk hb4
        clear hb3 hb4
        go_wp2
        go_roundg (gk - 1)
        case measure => omega
        case rel =>
          refine ⟨i + (Utf8.decode s i).2, by omega, by omega, H3.out, H4.out, fun j b hj hb => ?_⟩
          by_cases hji : j < i
          · exact HN.out j b hji hb
          · have h1 := G3.out j b (by omega) hj hb
            cases hc : chars.data.toList.contains b
            · rfl
            · have hm : b ∈ chars.data.toList := by simpa using hc
              obtain ⟨j', hj'⟩ := List.getElem?_of_mem hm
              have := HA.out j' b hj'
              omega
    · have hnx : ∀ ty, (Instr.next (.pointer (some ⟨w.heap.size, 0, none⟩)) true ty).run Tryd.prog wr = _ := fun ty => Lib.run_next_end_at wr w.heap.size s i ty hit hi
      go_wp2
      go_ret
      have : i = s.data.toList.length := by rw [Array.length_toList]; show i = s.size; omega
      exact ⟨by rw [Lib.indexAny_none (by rw [← this]; exact HN.out)]; rfl, HB.out⟩

def strings_IndexAny.f (a0 a1 : ByteArray) : Option Int := if 2 ≤ a1.size ∧ a1.size ≤ 4294967280 ∧ a0.size ≤ 4294967280 ∧ (a1.data.toList.all fun b => decide (b.toNat < 128)) = true then some (Lib.indexAny a0.data.toList a1.data.toList) else none

theorem strings_IndexAny.calls (a0 a1 : ByteArray) (r : Int) (w : World) (h : strings_IndexAny.f a0 a1 = some r) :
    Calls Tryd.prog 31 #[.string a0, .string a1] w fun e w' => e = .returned (.int .i64 r) ∧ Below w.heap.size w w' := by
  unfold strings_IndexAny.f at h
  split at h
  · rename_i hc
    obtain ⟨h1, h2, h3, h4⟩ := hc
    obtain rfl := Option.some.inj h
    have ha := ascii_of_all h4
    by_cases h8 : a0.size ≤ 8
    · exact ia_short a0 a1 w h1 h8 h2 ha
    · refine (Any.strings_IndexAny_long Tryd.lays153 (fun w => by kernel_rfl) (by kernel_rfl) a0 a1 w h1 (by omega) (by omega) (by omega) ha).mono ?_
      rintro e w' ⟨rfl, rfl⟩
      exact ⟨rfl, ((Below.refl _ w).alloc (Nat.le_refl _) _).alloc (by simp) _⟩
  · cases h
end Go.Proofs.YtondbckghchmpaaDoor.PA
