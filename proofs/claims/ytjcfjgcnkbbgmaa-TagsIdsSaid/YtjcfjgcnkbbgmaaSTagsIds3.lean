/-
  Texts of the proof of TagsIds, part 3 of 4: contracts and plain laws. Conditions: see each statement.
-/
import Derived.Test.YtjcfjgcnkbbgmaaSTagsIds2
import Derived.Test.YtjcfjgcnkbbgmaaSTagsIds1
import Derived.Lib.Hide
import Derived.WalkKit
import Derived.BigCall
import Derived.WalkLawsBesides
import Derived.Outline
import Derived.RangeFuncBox
import Derived.Lib.FrozenHead
import Derived.Maps.AppendAt
import Derived.Recover
import Derived.StillTailTactics
import Derived.Deep.RegionWith
import Derived.Defers
set_option linter.unusedVariables false
namespace Go.Proofs.Ytjcfjgcnkbbgmaa.PA
open Go.RowKit Go.Proofs.Ytjcfjgcnkbbgmaa.Pl Go.Proofs.YtjcfjgcnkbbgmaaW.PrintWords Go.Proofs.YtjcfjgcnkbbgmaaW.PrintLast Go.Proofs.YtjcfjgcnkbbgmaaW.PrintMore
set_option linter.unusedVariables false

/-- How a call ends that is told a tag or a byte: it goes on with what it has gathered, or it panics. -/
def EndE {σ : Type} (I : σ → World → Prop) (J : List PanicEntry → World → Prop) (r : Option σ) (e : Ending) (w : World) : Prop :=
  match r with
  | none => ∃ ch, e = .panicked ch ∧ J ch w
  | some y => e = .returned (.tuple #[]) ∧ I y w
/-- A text's tags and the bytes between them, told in order. -/
def tags_each.l {σ : Type} (fT : σ → ByteArray → Bool → Bool → List S45 → Option (Option σ)) (fO : σ → Int → Option (Option σ)) (k : Nat) : Nat → ByteArray → σ → Option (Option σ)
  | 0, _, _ => none
  | f + 1, s, x => if s.toList = [] then some (some x) else (tags_Read.f k s).bind fun t =>
      if t.2.2.2.2 = 0 then (fO x (bt s 0)).bind fun r => (match r with | none => some none | some y => tags_each.l fT fO k f (s.extract 1 s.size) y)
      else if 0 ≤ t.2.2.2.2 ∧ t.2.2.2.2 ≤ (s.size : Int) then (fT x t.1 t.2.1 t.2.2.1 t.2.2.2.1).bind fun r => (match r with | none => some none | some y => tags_each.l fT fO k f (s.extract t.2.2.2.2.toNat s.size) y) else none
set_option maxHeartbeats 4000000 in
set_option maxRecDepth 100000 in
theorem each_walk {σ : Type} (fT : σ → ByteArray → Bool → Bool → List S45 → Option (Option σ)) (fO : σ → Int → Option (Option σ)) (I : σ → World → Prop) (J : List PanicEntry → World → Prop) (k ft fo : Nat) (ct co : Array Value)
    (eft : ∀ args w, (callFunc ft args).run Try.prog w = .ok (.enter ft args) w) (efo : ∀ args w, (callFunc fo args).run Try.prog w = .ok (.enter fo args) w)
    (hI : ∀ x W W', I x W → Below W.heap.size W W' → I x W') (hL : ∀ x W, I x W → Laid W)
    (hT : ∀ x W n e v A c l b r, fT x n e v l = some r → I x W → Kd.R k45 45 W b (fun _ => True) (.slice A l.length c) l → Calls Try.prog ft (#[.agg #[.string n, .bool e, .bool v, .slice A l.length c]] ++ ct) W (EndE I J r))
    (hO : ∀ x W b r, fO x b = some r → 0 ≤ b → b ≤ 255 → I x W → Calls Try.prog fo (#[.int .u8 b] ++ co) W (EndE I J r))
    (s0 : ByteArray) (x0 : σ) (R : Option σ) (f0 : Nat) (hR : tags_each.l fT fO k f0 s0 x0 = some R) (w : World) (h0 : I x0 w) :
    Calls Try.prog 26 #[.string s0, .func (.func ft) #[] ct, .func (.func fo) #[] co] w (EndE I J R) := by
  have HI := Lib.hid hI
  have HL := Lib.hid hL
  have HT := Lib.hid hT
  have HO := Lib.hid hO
  clear hI hL hT hO
  go_enter Try.func26, Try.ntmps26
  go_wp2
  go_loopw [0] (fun v0 wr => ∃ f s x, v0 = .string s ∧ Hid (tags_each.l fT fO k f s x = some R) ∧ Hid (I x wr))
    (fun v0 wr => match v0 with | .string s => s.size | _ => 0)
  case atStart => exact ⟨f0, s0, x0, rfl, Lib.hid hR, Lib.hid h0⟩
  case round =>
    obtain ⟨f, s, x, rfl, HA, HX⟩ := hrel
    have hA := HA.out
    clear HA
    cases f with
    | zero => cases hA
    | succ f =>
    rw [tags_each.l] at hA
    by_cases hs : s.toList = []
    · rw [if_pos hs] at hA
      cases hA
      have q : (!s.toList.isEmpty) = false := by rw [hs]; rfl
      go_wp2
      first | (exact ⟨rfl, rfl, HX.out⟩) | (refine bodyPost_ret (results_none rfl _ _ _) rfl ?_; exact ⟨rfl, HX.out⟩) | (go_end0; exact ⟨rfl, HX.out⟩)
    · rw [if_neg hs] at hA
      obtain ⟨⟨n, e, v, l, d⟩, hRd, hA⟩ := Option.bind_eq_some_iff.1 hA
      dsimp only at hA
      have q : (!s.toList.isEmpty) = true := by cases hq : s.toList with | nil => exact absurd hq hs | cons _ _ => rfl
      have hsz : 0 < s.size := by
        rcases Nat.eq_zero_or_pos s.size with h | h
        · exact absurd (by rw [Lib.toList_data]; exact List.length_eq_zero_iff.1 (by simpa using h)) hs
        · exact h
      have HRd := Lib.hid (fun W hW => tags_Read.calls k s n e v l d W hW hRd)
      have HA := Lib.hid hA
      clear hRd hA
      go_wp2_with fail
      refine (HRd.out _ (HL.out _ _ HX.out)).mono ?_
      rintro e1 w1 ⟨v3, rfl, hv, hb1⟩
      obtain ⟨Ao, co_, rfl⟩ := Kd.R_slice hv
      have HX1 := Lib.hid (HI.out _ _ _ HX.out hb1)
      have HV := Lib.hid hv
      clear hb1 hv HX HRd
      by_cases hd : d = 0
      · subst hd
        have hbt : bt s 0 = (s[0].toNat : Int) := by unfold bt; rw [dif_pos (show Int.toNat 0 < s.size from hsz)]; rfl
        have hb0 := s[0].toNat_lt
        have hA := HA.out
        first | rw [if_pos rfl, hbt] at hA | rw [if_pos trivial, hbt] at hA
        obtain ⟨r, hf, hA⟩ := Option.bind_eq_some_iff.1 hA
        have HF := Lib.hid hf
        clear hf
        go_wp2_with fail
        refine (HO.out x _ _ r HF.out (by omega) (by omega) (HI.out _ _ _ HX1.out (below_alloc (Below.refl _ _) _))).mono ?_
        intro e2 w2 he
        cases r with
        | none =>
          obtain ⟨ch, rfl, hJ⟩ := he
          cases hA
          have HJ := Lib.hid hJ
          clear hJ
          go_wp2
          exact ⟨rfl, ch, rfl, HJ.out⟩
        | some y =>
          obtain ⟨rfl, hX2⟩ := he
          have HX2 := Lib.hid hX2
          have HA2 := Lib.hid hA
          clear hA HA hX2 hbt hb0
          go_wp2
          go_roundw
          case rel => exact ⟨f, _, y, rfl, HA2, HX2⟩
          case measure => simp; omega
      · have hq : (d == 0) = false := beq_eq_false_iff_ne.2 hd
        have hA := HA.out
        rw [if_neg hd] at hA
        by_cases hn : 0 ≤ d ∧ d ≤ (s.size : Int)
        case neg => rw [if_neg hn] at hA; cases hA
        rw [if_pos hn] at hA
        obtain ⟨hn0, hn1⟩ := hn
        obtain ⟨r, hf, hA⟩ := Option.bind_eq_some_iff.1 hA
        have HF := Lib.hid hf
        clear hf
        go_wp2_with fail
        refine (HT.out x _ n e v Ao co_ l wr.heap.size r HF.out (HI.out _ _ _ HX1.out (below_alloc (Below.refl _ _) _)) (Kd.R_alloc HV.out _)).mono ?_
        intro e2 w2 he
        cases r with
        | none =>
          obtain ⟨ch, rfl, hJ⟩ := he
          cases hA
          have HJ := Lib.hid hJ
          clear hJ
          go_wp2
          exact ⟨rfl, ch, rfl, HJ.out⟩
        | some y =>
          obtain ⟨rfl, hX2⟩ := he
          have HX2 := Lib.hid hX2
          have HA2 := Lib.hid hA
          clear hA HA hX2
          go_wp2
          go_roundw
          case rel => exact ⟨f, _, y, rfl, HA2, HX2⟩
          case measure => simp; omega
theorem tags_each.mono_l {σ : Type} (fT : σ → ByteArray → Bool → Bool → List S45 → Option (Option σ)) (fO : σ → Int → Option (Option σ)) : ∀ (f k : Nat) (s : ByteArray) (x : σ) (r), tags_each.l fT fO k f s x = some r → tags_each.l fT fO (k + 1) (f + 1) s x = some r
  | 0, _, _, _, _, h => by cases h
  | f + 1, k, s, x, r, h => by
    rw [tags_each.l] at h
    rw [tags_each.l]
    by_cases hs : s.toList = []
    · rw [if_pos hs] at h ⊢
      exact h
    · rw [if_neg hs] at h ⊢
      obtain ⟨t, hT, h⟩ := Option.bind_eq_some_iff.1 h
      rw [tags_Read.mono s k t hT]
      show (if _ then _ else _) = _
      by_cases h0 : t.2.2.2.2 = 0
      · rw [if_pos h0] at h ⊢
        obtain ⟨q, hq, h⟩ := Option.bind_eq_some_iff.1 h
        rw [hq]
        cases q with
        | none => exact h
        | some y => exact tags_each.mono_l fT fO f k _ _ _ h
      · rw [if_neg h0] at h ⊢
        by_cases hn : 0 ≤ t.2.2.2.2 ∧ t.2.2.2.2 ≤ (s.size : Int)
        · rw [if_pos hn] at h ⊢
          obtain ⟨q, hq, h⟩ := Option.bind_eq_some_iff.1 h
          rw [hq]
          cases q with
          | none => exact h
          | some y => exact tags_each.mono_l fT fO f k _ _ _ h
        · rw [if_neg hn] at h
          cases h
end Go.Proofs.Ytjcfjgcnkbbgmaa.PA

namespace Go.Proofs.Ytjcfjgcnkbbgmaa.PA
open Go.RowKit Go.Proofs.Ytjcfjgcnkbbgmaa.Pl Go.Proofs.YtjcfjgcnkbbgmaaW.PrintWords Go.Proofs.YtjcfjgcnkbbgmaaW.PrintLast Go.Proofs.YtjcfjgcnkbbgmaaW.PrintMore
set_option linter.unusedVariables false

theorem isB_below {T e B b : Nat} {bs : List Value} {w w' : World} (h : Lib.IsBuilder T e B b bs w) (hb : Below w.heap.size w w') : Lib.IsBuilder T e B b bs w' := by
  have go : ∀ p, Lib.BuilderAt T e B b p bs w → Lib.BuilderAt T e B b p bs w' := by
    intro p h
    have hlt := h.lt
    obtain ⟨h1, v, h2, h3, h4⟩ := h
    exact ⟨h1, v, (hb.block _ hlt).trans h2, pw_own_below h3 hb, h4⟩
  rcases h with h | h
  · exact .inl (go _ h)
  · exact .inr (go _ h)
theorem byteCells_snoc (x : List UInt8) (b : Int) (h0 : 0 ≤ b) (h1 : b ≤ 255) : Lib.byteCells x ++ [.int .u8 b] = Lib.byteCells (x ++ [b.toNat.toUInt8]) := by
  unfold Lib.byteCells
  rw [List.map_append, List.map_cons, List.map_nil]
  have : ((b.toNat.toUInt8.toNat : Nat) : Int) = b := by
    rw [show b.toNat.toUInt8.toNat = b.toNat % 256 from rfl]
    omega
  rw [this]
theorem text_tag (n : ByteArray) (e v : Bool) (A : Option Addr) (m c : Nat) (W : World) :
    Calls Try.prog 32 #[.agg #[.string n, .bool e, .bool v, .slice A m c]] W fun e w' => e = .returned (.tuple #[]) ∧ Below W.heap.size W w' := by
  go_enter Try.func32, Try.ntmps32
  go_wp2
  first | go_end0 | refine bodyPost_ret (results_none rfl _ _ _) rfl ?_
  exact ⟨rfl, below_alloc (Below.refl _ _) _⟩
/-- What is left of a text: the bytes between its tags. -/
def txtT : List UInt8 → ByteArray → Bool → Bool → List S45 → Option (Option (List UInt8)) := fun x _ _ _ _ => some (some x)
def txtO : List UInt8 → Int → Option (Option (List UInt8)) := fun x b => if x.length < 1048576 then some (some (x ++ [b.toNat.toUInt8])) else none
structure TxI (w : World) (x : List UInt8) (W : World) : Prop where
  isb : Lib.IsBuilder 58 5 w.heap.size w.heap.size (Lib.byteCells x) W
  bel : Below w.heap.size w W
theorem TxI.go {w : World} {x : List UInt8} {W W' : World} (h : TxI w x W) (hb : Below W.heap.size W W') : TxI w x W' := ⟨isB_below h.isb hb, h.bel.trans (hb.mono h.bel.size)⟩
theorem text_byte (w : World) (x : List UInt8) (W : World) (b : Int) (h0 : 0 ≤ b) (h1 : b ≤ 255) (hx : x.length < 1048576) (h : TxI w x W) :
    Calls Try.prog 33 #[.int .u8 b, .pointer (some ⟨w.heap.size, 0, none⟩)] W fun e w' => e = .returned (.tuple #[]) ∧ TxI w (x ++ [b.toNat.toUInt8]) w' := by
  have HW := Lib.hid (Try.Builder_WriteByte w.heap.size w.heap.size (Lib.byteCells x) b W h.isb (by rw [Lib.byteCells_length]; omega) h.bel.size)
  have HX := Lib.hid h
  clear h
  go_enter Try.func33, Try.ntmps33
  go_wp2_with fail
  refine HW.out.mono ?_
  rintro e w1 ⟨rfl, hB, hb⟩
  have HI := Lib.hid (show TxI w (x ++ [b.toNat.toUInt8]) w1 from ⟨by rw [← byteCells_snoc x b h0 h1]; exact .inr hB, HX.out.bel.trans hb⟩)
  clear hB hb HW HX
  go_wp2
  first | go_end0 | refine bodyPost_ret (results_none rfl _ _ _) rfl ?_
  exact ⟨rfl, HI.out⟩
def tags_Text.f (k : Nat) (a0 : ByteArray) : Option ByteArray := (tags_each.l txtT txtO k k a0 []).bind fun r => r.map B
set_option maxHeartbeats 1000000 in
set_option maxRecDepth 100000 in
theorem tags_Text.calls (k : Nat) (a0 : ByteArray) (r : ByteArray) (w : World) (hLd : Laid w) (h : tags_Text.f k a0 = some r) :
    Calls Try.prog 17 #[.string a0] w fun e w' => e = .returned (.string r) ∧ Below w.heap.size w w' := by
  obtain ⟨q, hq, hr⟩ := Option.bind_eq_some_iff.1 h
  cases q with
  | none => cases hr
  | some x =>
  obtain rfl := Option.some.inj hr
  have HB0 := Lib.hid ((Below.refl w.heap.size w).alloc (Nat.le_refl _) (.cells #[.pointer none, .slice none 0 0] 58 (0, 0)))
  have HI0 := Lib.hid (Lib.fresh_isBuilder 58 5 w)
  have HE := Lib.hid (fun W (hW : TxI w [] W) => each_walk txtT txtO (TxI w) (fun _ _ => False) k 32 33 #[] #[.pointer (some ⟨w.heap.size, 0, none⟩)]
    (enters_of Try.func32 (by kernel_rfl) rfl) (enters_of Try.func33 (by kernel_rfl) rfl)
    (fun x W W' h hb => h.go hb) (fun x W h => hLd.go h.bel)
    (fun x W n e v A c l b r hf hI hR => by
      obtain rfl := Option.some.inj hf
      refine (text_tag n e v A l.length c W).mono ?_
      rintro e2 w2 ⟨rfl, hb⟩
      exact ⟨rfl, hI.go hb⟩)
    (fun x W b r hf h0 h1 hI => by
      unfold txtO at hf
      split at hf
      · rename_i hx
        obtain rfl := Option.some.inj hf
        exact text_byte w x W b h0 h1 hx hI
      · cases hf)
    a0 [] (some x) k hq W hW)
  clear h hq hr hLd
  go_enter Try.func17, Try.ntmps17
  go_wp2_with fail
  refine (HE.out _ ⟨HI0.out, HB0.out⟩).mono ?_
  rintro e w1 ⟨rfl, hX⟩
  have HX := Lib.hid hX
  have hbs := hX.bel.size
  clear hX HE HI0 HB0
  go_wp2_with fail
  refine (Try.Builder_String_any w.heap.size w.heap.size x _ HX.out.isb hbs).mono ?_
  rintro e w2 ⟨rfl, h2⟩
  go_wp2
  go_ret
  exact ⟨rfl, HX.out.bel.trans h2⟩
theorem tags_Text.mono : ∀ a0 k, LeO (tags_Text.f k a0) (tags_Text.f (k + 1) a0) := by
  intro a0 k r h
  obtain ⟨q, hq, h⟩ := Option.bind_eq_some_iff.1 h
  exact Option.bind_eq_some_iff.2 ⟨q, tags_each.mono_l _ _ _ _ _ _ _ hq, h⟩
end Go.Proofs.Ytjcfjgcnkbbgmaa.PA

namespace Go.Proofs.Ytjcfjgcnkbbgmaa.PA
open Go.RowKit Go.Proofs.Ytjcfjgcnkbbgmaa.Pl Go.Proofs.YtjcfjgcnkbbgmaaW.PrintWords Go.Proofs.YtjcfjgcnkbbgmaaW.PrintLast Go.Proofs.YtjcfjgcnkbbgmaaW.PrintMore
set_option linter.unusedVariables false

/-- Where a tag's attributes lie. -/
def At2 (W : World) (A : Option Addr) (l : List S45) : Prop := l = [] ∨ ∃ g cur, A = some ⟨g, 0, none⟩ ∧ W.heap[g]? = some (Obj.cells cur 45 (0, 0)) ∧
  ∀ j, (hj : j < l.length) → cur[j * 2]? = some (.string l[j].f0) ∧ cur[j * 2 + 1]? = some (.string l[j].f1)
theorem At2.of {W : World} {b c : Nat} {A : Option Addr} {l : List S45} (h : Kd.R k45 45 W b (fun _ => True) (.slice A l.length c) l) : At2 W A l := by
  rcases Nat.eq_zero_or_pos l.length with h0 | h0
  · exact .inl (List.length_eq_zero_iff.1 h0)
  obtain ⟨A', c', e, _, hC⟩ := Kd.R_reads h
  cases e
  obtain ⟨_, inner, ho, _⟩ := h
  rcases ho.2 with ⟨e, e2⟩ | ⟨g, cap, cur, e, _, hg, _⟩
  · omega
  cases e
  refine .inr ⟨g, cur, rfl, hg, fun j hj => ?_⟩
  obtain ⟨ad, e, hc⟩ := hC.2.2 h0
  cases e
  obtain ⟨cs, hl, hr, hx⟩ := hc j _ (List.getElem?_eq_getElem hj)
  obtain rfl := k45_open hr
  have x0 := hx 0 _ rfl
  have x1 := hx 1 _ rfl
  have ad0 : ∀ n, (⟨g, 0, none⟩ : Addr).add n = ⟨g, n, none⟩ := by
    intro n
    unfold Addr.add
    split
    · rename_i h; subst h; rfl
    · rw [Nat.zero_add]
  rw [ad0, blk_cell hg] at x0 x1
  exact ⟨x0, x1⟩
theorem At2.go {W W' : World} {A : Option Addr} {l : List S45} (h : At2 W A l) (hk : ∀ (g : Nat) (cur : Array Value), W.heap[g]? = some (Obj.cells cur 45 (0, 0)) → W'.heap[g]? = some (Obj.cells cur 45 (0, 0))) : At2 W' A l := by
  rcases h with h | ⟨g, cur, e, hg, hc⟩
  · exact .inl h
  · exact .inr ⟨g, cur, e, hk g cur hg, hc⟩
theorem row_ne {W : World} {g t e : Nat} {cs : Array Value} (hg : W.heap[g]? = some (Obj.cells cs t (0, 0))) (hte : t ≠ e) {base size k : Nat} {v : Value} {xs : List Value} (hr : W.ownsRow base e size v k xs) : some g ≠ v.ownBlock := by
  rcases hr.2 with ⟨rfl, _⟩ | ⟨g', cap, cur, rfl, _, hgb, _⟩
  · simp [Value.ownBlock]
  · intro e'
    obtain rfl : g = g' := by simpa [Value.ownBlock] using e'
    have := hg.symm.trans hgb
    simp at this
    exact hte this.2
/-- The ids of a tag. -/
def idsL (l : List S45) : List ByteArray := (l.filter fun a => a.f0.toList == [105, 100]).map (·.f1)
theorem idsL_take (l : List S45) (j : Nat) (hj : j < l.length) : idsL (l.take (j + 1)) = idsL (l.take j) ++ (if l[j].f0.toList == [105, 100] then [l[j].f1] else []) := by
  unfold idsL
  rw [← List.take_append_getElem hj, List.filter_append, List.map_append]
  congr 1
  by_cases h : (l[j].f0.toList == [105, 100]) = true
  · simp [h]
  · simp [h]
theorem idsL_len (l : List S45) : (idsL l).length ≤ l.length := by unfold idsL; rw [List.length_map]; exact List.length_filter_le _ _
def idsT : List ByteArray → ByteArray → Bool → Bool → List S45 → Option (Option (List ByteArray)) := fun x _ _ _ l => if x.length + l.length ≤ 1048576 then some (some (x ++ idsL l)) else none
def idsO : List ByteArray → Int → Option (Option (List ByteArray)) := fun x _ => some (some x)
structure IdI (w : World) (x : List ByteArray) (W : World) : Prop where
  box : ∃ v, Boxed W w.heap.size 35 v ∧ W.ownsRow w.heap.size 9 1 v x.length (x.map Value.string)
  bel : Below w.heap.size w W
theorem IdI.go {w : World} {x : List ByteArray} {W W' : World} (h : IdI w x W) (hb : Below W.heap.size W W') : IdI w x W' := by
  obtain ⟨v, h1, h2⟩ := h.box
  exact ⟨⟨v, (hb.block _ h1.lt).trans h1, pw_own_below h2 hb⟩, h.bel.trans (hb.mono h.bel.size)⟩
theorem infoS : (Try.prog.info? 9).map (fun i => (i.zero, i.size, i.bytes)) = some (some (.string ByteArray.empty), 1, 16) := by kernel_rfl
theorem ids_byte (a : Int) (W : World) : Calls Try.prog 31 #[.int .u8 a] W fun e w' => e = .returned (.tuple #[]) ∧ W = w' := by
  go_enter Try.func31, Try.ntmps31
  go_wp2
  first | go_end0 | refine bodyPost_ret (results_none rfl _ _ _) rfl ?_
  exact ⟨rfl, rfl⟩
set_option maxHeartbeats 4000000 in
set_option maxRecDepth 100000 in
theorem ids_tag (w : World) (x : List ByteArray) (n : ByteArray) (e v : Bool) (A : Option Addr) (c : Nat) (l : List S45) (hl : x.length + l.length ≤ 1048576) (W : World) (hA : At2 W A l) (h : IdI w x W) :
    Calls Try.prog 30 #[.agg #[.string n, .bool e, .bool v, .slice A l.length c], .pointer (some ⟨w.heap.size, 0, none⟩)] W fun e w' => e = .returned (.tuple #[]) ∧ IdI w (x ++ idsL l) w' := by
  have hb0 := below_alloc (Below.refl W.heap.size W) (.cells #[.string n, .bool e, .bool v, .slice A l.length c] 25)
  have HX := Lib.hid (h.go hb0)
  have HA := Lib.hid (hA.go (W' := W.alloc (.cells #[.string n, .bool e, .bool v, .slice A l.length c] 25)) (fun g cur hg => blk_alloc hg _))
  have hlt := (h.bel.size)
  clear h hA hb0
  go_enter Try.func30, Try.ntmps30
  go_wp2
  go_outline
  go_loopw [8] (fun v8 wr => ∃ j : Nat, v8 = .int .i64 j ∧ j ≤ l.length ∧ Hid (IdI w (x ++ idsL (l.take j)) wr) ∧ Hid (At2 wr A l))
    (fun v8 _ => l.length - (intOf v8).toNat)
  case atStart => exact ⟨0, rfl, Nat.zero_le _, by rw [List.take_zero]; show Hid (IdI w (x ++ []) _); rw [List.append_nil]; exact HX, HA⟩
  case round =>
    obtain ⟨j, rfl, hj, HI, HAt⟩ := hrel
    clear HX HA
    by_cases hjl : j < l.length
    · have hA := HAt.out
      rcases hA with h | ⟨g, cur, rfl, hg, hcur⟩
      · rw [h] at hjl; exact absurd hjl (by simp)
      obtain ⟨c0, c1⟩ := hcur j hjl
      have hc0 := (blk_cell hg (j * 2)).trans c0
      have hc1 := (blk_cell hg (j * 2 + 1)).trans c1
      have htk := idsL_take l j hjl
      obtain ⟨y, hy⟩ : ∃ y, l[j] = y := ⟨_, rfl⟩
      rw [hy] at hc0 hc1 htk
      have HC := Lib.hid hcur
      clear hcur c0 c1 hy
      by_cases hid : y.f0.toList = [105, 100]
      · have q : (y.f0.toList == [105, 100]) = true := beq_iff_eq.2 hid
        rw [if_pos q] at htk
        obtain ⟨v0, hv, hrow⟩ := HI.out.box
        rw [List.length_append] at hrow
        have e1 : (x ++ idsL (l.take (j + 1))).length = x.length + (idsL (l.take j)).length + 1 := by rw [htk]; simp; omega
        have e2 : (x ++ idsL (l.take (j + 1))).map Value.string = (x ++ idsL (l.take j)).map Value.string ++ [.string y.f1] := by rw [htk]; simp
        have E1 := Lib.hid e1
        have E2 := Lib.hid e2
        clear e1 e2
        have hv1 := hv.alloc (Obj.cells #[.string y.f0, .string y.f1] 45)
        have hrow1 := hrow.alloc (Obj.cells #[.string y.f0, .string y.f1] 45)
        have hB1 : Below w.heap.size w (wr.alloc (Obj.cells #[.string y.f0, .string y.f1] 45)) := HI.out.bel.trans (below_alloc (Below.refl _ _) _ |>.mono HI.out.bel.size)
        have hxl : x.length + (idsL (l.take j)).length + 1 ≤ 1048577 := by
          have := idsL_len (l.take j)
          rw [List.length_take] at this
          omega
        have hne1 := row_ne hg (by decide) hrow
        have hne2 := blk_ne hg hv (by decide)
        have hltb := hv.lt
        have hvc := hv.cell
        have hvc1 := hv1.cell
        obtain ⟨i0, hi, hi0, hi1, hi2⟩ := info_parts infoS
        clear HI
        go_wp2_with (at_builtin; refine wpList_append_own _ rfl _ _ 35 rfl w.heap.size 9 i0 (.string ByteArray.empty) 1 16 Try.underlying35 hi hi0 hi1 hi2 rfl (by decide) _ _ _ rfl (hrow1.alloc _) ⟨wr.heap.size + 1, 0, none⟩ 1 1 [.string y.f1] rfl rfl (by simpa using cell_one_new (wr.alloc (Obj.cells #[.string y.f0, .string y.f1] 45)) (Value.string y.f1) 9) (fun x hx => by simp at hx; subst hx; rfl) (by unfold maxLen; omega) (by omega) (by simp; omega) ?_; intro v' w1 hown' hgrow _; obtain ⟨g', cap', rfl⟩ := ownsRow_succ hown'; obtain ⟨hv3, hv4, hr4, hk4, hb4⟩ := hv1.appended (by decide) hrow1 hB1.size (Nat.le_refl _) hown' hgrow; have hg3 := blk_grown (blk_alloc (blk_alloc hg _) _) hgrow hne1; have HV4 := Lib.hid hv4; have HR4 := Lib.hid hr4; have HB4 := Lib.hid hb4; have HG3 := Lib.hid hg3; clear hown' hgrow hv4 hr4 hk4 hb4 hg3; have hc3 := hv3.cell; have hf3 := hv3.frozen; clear hv3)
        have HI2 := Lib.hid (show IdI w (x ++ idsL (l.take (j + 1))) _ from ⟨⟨_, HV4.out, by rw [E1.out, E2.out]; exact HR4.out⟩, hB1.trans HB4.out⟩)
        have HA2 := Lib.hid (show At2 _ (some ⟨g, 0, none⟩) l from .inr ⟨g, cur, rfl, blk_far HG3.out (p := ⟨w.heap.size, 0, none⟩) hne2 (.slice (some ⟨g', 0, none⟩) (x.length + (idsL (l.take j)).length + 1) cap'), HC.out⟩)
        go_wp2
        go_roundw
        case rel => exact ⟨j + 1, by go_num, by omega, HI2, HA2⟩
        case measure => simp [intOf]; omega
      · have q : (y.f0.toList == [105, 100]) = false := beq_eq_false_iff_ne.2 hid
        rw [if_neg (by rw [q]; decide), List.append_nil] at htk
        have HI2 := Lib.hid (show IdI w (x ++ idsL (l.take (j + 1))) (wr.alloc (.cells #[.string y.f0, .string y.f1] 45)) by rw [htk]; exact HI.out.go (below_alloc (Below.refl _ _) _))
        have HA2 := Lib.hid (HAt.out.go (W' := wr.alloc (.cells #[.string y.f0, .string y.f1] 45)) (fun g cur hg => blk_alloc hg _))
        clear htk HI HAt hg
        go_wp2
        go_roundw
        case rel => exact ⟨j + 1, by go_num, by omega, HI2, HA2⟩
        case measure => simp [intOf]; omega
    · have hI := HI.out
      rw [List.take_of_length_le (by omega)] at hI
      have HI2 := Lib.hid hI
      clear hI HI HAt
      go_wp2
      first | (exact ⟨rfl, rfl, HI2.out⟩) | (refine bodyPost_ret (results_none rfl _ _ _) rfl ?_; exact ⟨rfl, HI2.out⟩) | (go_end0; exact ⟨rfl, HI2.out⟩)
def tags_Ids.f (k : Nat) (a0 : ByteArray) : Option (List ByteArray) := (tags_each.l idsT idsO k k a0 []).bind id
set_option maxHeartbeats 1000000 in
set_option maxRecDepth 100000 in
theorem tags_Ids.calls (k : Nat) (a0 : ByteArray) (r : List ByteArray) (w : World) (hLd : Laid w) (h : tags_Ids.f k a0 = some r) :
    Calls Try.prog 15 #[.string a0] w fun e w' => ∃ v0_ : Value, e = .returned v0_ ∧ Kd.R Kd.string 9 w' w.heap.size (fun _ => True) v0_ r ∧ Below w.heap.size w w' := by
  obtain ⟨q, hq, hr⟩ := Option.bind_eq_some_iff.1 h
  obtain rfl : q = some r := hr
  have HB0 := Lib.hid ((Below.refl w.heap.size w).alloc (Nat.le_refl _) (.cells #[.slice none 0 0] 35 (0, 0)))
  have HX0 := Lib.hid (show IdI w [] (w.alloc (.cells #[.slice none 0 0] 35 (0, 0))) from ⟨⟨_, Boxed.new w 35 (.slice none 0 0), World.ownsRow_nil _ _ _ _⟩, HB0.out⟩)
  have HE := Lib.hid (fun W (hW : IdI w [] W) => each_walk idsT idsO (IdI w) (fun _ _ => False) k 30 31 #[.pointer (some ⟨w.heap.size, 0, none⟩)] #[]
    (enters_of Try.func30 (by kernel_rfl) rfl) (enters_of Try.func31 (by kernel_rfl) rfl)
    (fun x W W' h hb => h.go hb) (fun x W h => hLd.go h.bel)
    (fun x W n e v A c l b r hf hI hR => by
      unfold idsT at hf
      split at hf
      · rename_i hx
        obtain rfl := Option.some.inj hf
        exact ids_tag w x n e v A c l hx W (At2.of hR) hI
      · cases hf)
    (fun x W b r hf h0 h1 hI => by
      obtain rfl := Option.some.inj hf
      refine (ids_byte b W).mono ?_
      rintro e2 w2 ⟨rfl, rfl⟩
      exact ⟨rfl, hI⟩)
    a0 [] (some r) k hq W hW)
  clear h hq hLd
  go_enter Try.func15, Try.ntmps15
  go_wp2_with fail
  refine (HE.out _ HX0.out).mono ?_
  rintro e w1 ⟨rfl, hX⟩
  obtain ⟨v, hv, hrow⟩ := hX.box
  have HX := Lib.hid hX
  have HR := Lib.hid hrow
  have hvc := hv.cell
  clear hX HE HX0 HB0 hrow hv
  go_wp2
  go_ret
  exact ⟨_, rfl, Kd.R_of_own HR.out (fun _ _ => trivial), HX.out.bel⟩
theorem tags_Ids.mono : ∀ a0 k, LeO (tags_Ids.f k a0) (tags_Ids.f (k + 1) a0) := by
  intro a0 k r h
  obtain ⟨q, hq, h⟩ := Option.bind_eq_some_iff.1 h
  exact Option.bind_eq_some_iff.2 ⟨q, tags_each.mono_l _ _ _ _ _ _ _ hq, h⟩
end Go.Proofs.Ytjcfjgcnkbbgmaa.PA

namespace Go.Proofs.Ytjcfjgcnkbbgmaa.PA
open Go.RowKit Go.Proofs.Ytjcfjgcnkbbgmaa.Pl Go.Proofs.YtjcfjgcnkbbgmaaW.PrintWords Go.Proofs.YtjcfjgcnkbbgmaaW.PrintLast Go.Proofs.YtjcfjgcnkbbgmaaW.PrintMore
set_option linter.unusedVariables false

/-- What ends a check. -/
def wrongC : List PanicEntry := [{ v := .iface 49 (.agg #[]), recovered := false }]
theorem need_yes (W : World) : Calls Try.prog 28 #[.bool true] W fun e w' => e = .returned (.tuple #[]) ∧ W = w' := by
  go_enter Try.func28, Try.ntmps28
  go_wp2
  first | go_end0 | refine bodyPost_ret (results_none rfl _ _ _) rfl ?_
  exact ⟨rfl, rfl⟩
theorem need_no (W : World) : Calls Try.prog 28 #[.bool false] W fun e w' => e = .panicked wrongC ∧ W = w' := by
  unfold wrongC
  go_enter Try.func28, Try.ntmps28
  go_wp2
  exact ⟨rfl, rfl, rfl⟩
/-- A check's step at a tag, at a byte. -/
def chkT : List ByteArray → ByteArray → Bool → Bool → List S45 → Option (Option (List ByteArray)) := fun x n e v _ =>
  if e then (match x.getLast? with | none => some none | some y => if y.toList = n.toList then some (some x.dropLast) else some none)
  else if v then some (some x) else if x.length < 1048576 then some (some (x ++ [n])) else none
def chkO : List ByteArray → Int → Option (Option (List ByteArray)) := fun x b => if b = 60 ∨ b = 62 then some none else some (some x)
structure CkI (w : World) (x : List ByteArray) (W : World) : Prop where
  box : ∃ v, Boxed W (w.heap.size + 1) 35 v ∧ W.ownsRow w.heap.size 9 1 v x.length (x.map Value.string)
  ok : Boxed W w.heap.size 4 (.bool false)
  bel : Below w.heap.size w W
structure CkJ (w : World) (ch : List PanicEntry) (W : World) : Prop where
  ch : ch = wrongC
  ok : Boxed W w.heap.size 4 (.bool false)
  bel : Below w.heap.size w W
theorem CkI.go {w : World} {x : List ByteArray} {W W' : World} (h : CkI w x W) (hb : Below W.heap.size W W') : CkI w x W' := by
  obtain ⟨v, h1, h2⟩ := h.box
  exact ⟨⟨v, (hb.block _ h1.lt).trans h1, pw_own_below h2 hb⟩, (hb.block _ h.ok.lt).trans h.ok, h.bel.trans (hb.mono h.bel.size)⟩
theorem CkI.j {w : World} {x : List ByteArray} {W : World} (h : CkI w x W) : CkJ w wrongC W := ⟨rfl, h.ok, h.bel⟩
theorem chk_byte (w : World) (x : List ByteArray) (b : Int) (W : World) (r : Option (List ByteArray)) (hr : chkO x b = some r) (h : CkI w x W) : Calls Try.prog 29 #[.int .u8 b] W (EndE (CkI w) (CkJ w) r) := by
  have HX := Lib.hid h
  clear h
  unfold chkO at hr
  by_cases h1 : b = 60
  · rw [if_pos (.inl h1)] at hr
    obtain rfl := Option.some.inj hr
    have q : (b != 60) = false := by rw [h1]; rfl
    clear hr h1
    go_enter Try.func29, Try.ntmps29
    go_wp2_with fail
    refine (need_no _).mono ?_
    rintro e w1 ⟨rfl, rfl⟩
    go_wp2
    exact ⟨rfl, _, rfl, HX.out.j⟩
  · have q : (b != 60) = true := by simpa using h1
    by_cases h2 : b = 62
    · rw [if_pos (.inr h2)] at hr
      obtain rfl := Option.some.inj hr
      have q2 : (b != 62) = false := by rw [h2]; rfl
      clear hr h1 h2
      go_enter Try.func29, Try.ntmps29
      go_wp2_with fail
      refine (need_no _).mono ?_
      rintro e w1 ⟨rfl, rfl⟩
      go_wp2
      exact ⟨rfl, _, rfl, HX.out.j⟩
    · rw [if_neg (by rintro (h | h); exact h1 h; exact h2 h)] at hr
      obtain rfl := Option.some.inj hr
      have q2 : (b != 62) = true := by simpa using h2
      clear hr h1 h2
      go_enter Try.func29, Try.ntmps29
      go_wp2_with fail
      refine (need_yes _).mono ?_
      rintro e w1 ⟨rfl, rfl⟩
      go_wp2
      first | (exact ⟨rfl, rfl, HX.out⟩) | (refine bodyPost_ret (results_none rfl _ _ _) rfl ?_; exact ⟨rfl, HX.out⟩) | (go_end0; exact ⟨rfl, HX.out⟩)
theorem own_slice {W : World} {base e size n : Nat} {v : Value} {xs : List Value} (h : W.ownsRow base e size v n xs) : ∃ A c, v = .slice A n c ∧ n ≤ c ∧ c ≤ 9223372036854775807 := by
  rcases h.2 with ⟨rfl, rfl⟩ | ⟨g, cap, cur, rfl, _, _, h, h2, _⟩
  · exact ⟨none, 0, rfl, Nat.le_refl _, by decide⟩
  · exact ⟨_, _, rfl, h, by unfold maxLen at h2; omega⟩
theorem own_take {W : World} {base e n c m : Nat} {A : Option Addr} {xs : List Value} (h : W.ownsRow base e 1 (.slice A n c) n xs) (hm : m ≤ n) (hn : 0 < n) : W.ownsRow base e 1 (.slice A m c) m (xs.take m) := by
  obtain ⟨h1, h2⟩ := h
  rcases h2 with ⟨_, h0⟩ | ⟨g, cap, cur, e1, hb, hg, hc, hcm, hs, ht⟩
  · omega
  · cases e1
    refine ⟨by rw [List.length_take]; omega, .inr ⟨g, c, cur, rfl, hb, hg, by omega, hcm, hs, ?_⟩⟩
    rw [← ht, List.take_take]
    congr 1
    omega
theorem own_cell {W : World} {base e n c j : Nat} {A : Option Addr} {xs : List Value} (h : W.ownsRow base e 1 (.slice A n c) n xs) (hj : j < n) : ∃ g, A = some ⟨g, 0, none⟩ ∧ W.cell? ⟨g, j, none⟩ = xs[j]? := by
  obtain ⟨h1, h2⟩ := h
  rcases h2 with ⟨_, h0⟩ | ⟨g, cap, cur, e1, hb, hg, hc, hcm, hs, ht⟩
  · omega
  · cases e1
    refine ⟨g, rfl, ?_⟩
    rw [blk_cell hg, ← ht, List.getElem?_take, if_pos (by omega)]
    simp
set_option maxHeartbeats 4000000 in
set_option maxRecDepth 100000 in
theorem chk_none (w : World) (n : ByteArray) (v : Bool) (A : Option Addr) (c : Nat) (l : List S45) (W : World) (h : CkI w [] W) :
    Calls Try.prog 27 #[.agg #[.string n, .bool true, .bool v, .slice A l.length c], .pointer (some ⟨w.heap.size + 1, 0, none⟩)] W (EndE (CkI w) (CkJ w) none) := by
  have HX := Lib.hid (h.go (below_alloc (Below.refl W.heap.size W) (.cells #[.string n, .bool true, .bool v, .slice A l.length c] 25)))
  obtain ⟨v0, hv, hrow⟩ := h.box
  have hltb := hv.lt
  obtain ⟨A0, c0, rfl, hc0, hcm⟩ := own_slice hrow
  rw [List.length_nil] at hv
  have hvc1 := (hv.alloc (Obj.cells #[.string n, .bool true, .bool v, .slice A l.length c] 25)).cell
  have hvc := hv.cell
  clear hv hrow h hc0 hcm
  go_enter Try.func27, Try.ntmps27
  go_wp2
  refine wp_region_any (by kernel_rfl) ?_
  change wpAny _ _ _ _ _ _ _ (World.drew _)
  refine wpAny_take (i := 0) (v := ?_) rfl (by kernel_rfl) (by kernel_rfl) (by kernel_rfl) (fun _ _ _ h => h) (Or.inl ⟨by rfl, ?_⟩) ?_
  rotate_left
  · intro w; go_simp; try with_reducible rfl
  refine wpAny_take (i := 1) (v := ?_) rfl (by kernel_rfl) (by kernel_rfl) (by kernel_rfl) (fun _ _ _ h => h) (Or.inl ⟨by rfl, ?_⟩) ?_
  rotate_left
  · intro w; go_simp; try with_reducible rfl
  refine wpAny_take (i := 2) (v := ?_) rfl (by kernel_rfl) (by kernel_rfl) (by kernel_rfl) (fun _ _ _ h => h) (Or.inl ⟨by rfl, ?_⟩) ?_
  rotate_left
  · intro w; go_simp; try with_reducible rfl
  refine wpAny_take (i := 4) (v := undef) rfl (by kernel_rfl) (by kernel_rfl) (by kernel_rfl) (fun _ _ _ h => h) (Or.inr ⟨by rfl, rfl⟩) ?_
  refine wpAny_take (i := 7) (v := undef) rfl (by kernel_rfl) (by kernel_rfl) (by kernel_rfl) (fun _ _ _ h => h) (Or.inr ⟨by rfl, rfl⟩) ?_
  refine wpAny_ready (rs := [3, 8]) (by kernel_rfl) (by simp) ?_
  refine AllReady.cons rfl (fun K hK => ?_) ?_
  · go_simp
    refine hK _ _ ?_
    clear hK K
    refine wpAny_ready (rs := [5, 8]) (by kernel_rfl) (by simp) ?_
    refine AllReady.cons rfl (fun K hK => ?_) ?_
    · go_simp
      refine hK _ _ ?_
      clear hK K
      refine wpAny_ready (rs := [6, 8]) (by kernel_rfl) (by simp) ?_
      refine AllReady.cons rfl (fun K hK => ?_) ?_
      · go_simp
        refine hK _ _ ?_
        clear hK K
        refine wpAny_ready (rs := [8]) (by kernel_rfl) (by simp) ?_
        refine AllReady.cons rfl (fun K hK => ?_) AllReady.nil
        go_simp
        refine hK _ _ ?_
        clear hK K
        refine wpAny_ready (rs := [9]) (by kernel_rfl) (by simp) ?_
        refine AllReady.cons rfl (fun K hK => ?_) AllReady.nil
        go_simp
        refine hK _ _ ?_
        clear hK K
        refine wpAny_take (i := 10) (v := ?_) rfl (by kernel_rfl) (by kernel_rfl) (by kernel_rfl) (fun _ _ _ h => h) (Or.inl ⟨by rfl, ?_⟩) ?_
        rotate_left
        · intro w; go_simp; try with_reducible rfl
        refine wpAny_ready (rs := [11]) (by kernel_rfl) (by simp) ?_
        refine AllReady.cons rfl (fun K hK => ?_) AllReady.nil
        go_simp
        (go_at_call 28; refine (need_no _).mono ?_; rintro e w1 ⟨rfl, rfl⟩; exact ⟨rfl, _, rfl, (HX.out.go (below_drew1 (Below.refl _ _))).j⟩)
      refine AllReady.cons rfl (fun K hK => ?_) AllReady.nil
      go_simp
      refine hK _ _ ?_
      clear hK K
      refine wpAny_ready (rs := [6]) (by kernel_rfl) (by simp) ?_
      refine AllReady.cons rfl (fun K hK => ?_) AllReady.nil
      go_simp
      refine hK _ _ ?_
      clear hK K
      refine wpAny_ready (rs := [9]) (by kernel_rfl) (by simp) ?_
      refine AllReady.cons rfl (fun K hK => ?_) AllReady.nil
      go_simp
      refine hK _ _ ?_
      clear hK K
      refine wpAny_take (i := 10) (v := ?_) rfl (by kernel_rfl) (by kernel_rfl) (by kernel_rfl) (fun _ _ _ h => h) (Or.inl ⟨by rfl, ?_⟩) ?_
      rotate_left
      · intro w; go_simp; try with_reducible rfl
      refine wpAny_ready (rs := [11]) (by kernel_rfl) (by simp) ?_
      refine AllReady.cons rfl (fun K hK => ?_) AllReady.nil
      go_simp
      (go_at_call 28; refine (need_no _).mono ?_; rintro e w1 ⟨rfl, rfl⟩; exact ⟨rfl, _, rfl, (HX.out.go (below_drew1 (Below.refl _ _))).j⟩)
    refine AllReady.cons rfl (fun K hK => ?_) AllReady.nil
    go_simp
    refine hK _ _ ?_
    clear hK K
    refine wpAny_ready (rs := [5]) (by kernel_rfl) (by simp) ?_
    refine AllReady.cons rfl (fun K hK => ?_) AllReady.nil
    go_simp
    refine hK _ _ ?_
    clear hK K
    refine wpAny_ready (rs := [6]) (by kernel_rfl) (by simp) ?_
    refine AllReady.cons rfl (fun K hK => ?_) AllReady.nil
    go_simp
    refine hK _ _ ?_
    clear hK K
    refine wpAny_ready (rs := [9]) (by kernel_rfl) (by simp) ?_
    refine AllReady.cons rfl (fun K hK => ?_) AllReady.nil
    go_simp
    refine hK _ _ ?_
    clear hK K
    refine wpAny_take (i := 10) (v := ?_) rfl (by kernel_rfl) (by kernel_rfl) (by kernel_rfl) (fun _ _ _ h => h) (Or.inl ⟨by rfl, ?_⟩) ?_
    rotate_left
    · intro w; go_simp; try with_reducible rfl
    refine wpAny_ready (rs := [11]) (by kernel_rfl) (by simp) ?_
    refine AllReady.cons rfl (fun K hK => ?_) AllReady.nil
    go_simp
    (go_at_call 28; refine (need_no _).mono ?_; rintro e w1 ⟨rfl, rfl⟩; exact ⟨rfl, _, rfl, (HX.out.go (below_drew1 (Below.refl _ _))).j⟩)
  refine AllReady.cons rfl (fun K hK => ?_) AllReady.nil
  go_simp
  refine hK _ _ ?_
  clear hK K
  refine wpAny_ready (rs := [3]) (by kernel_rfl) (by simp) ?_
  refine AllReady.cons rfl (fun K hK => ?_) AllReady.nil
  go_simp
  refine hK _ _ ?_
  clear hK K
  refine wpAny_ready (rs := [5]) (by kernel_rfl) (by simp) ?_
  refine AllReady.cons rfl (fun K hK => ?_) AllReady.nil
  go_simp
  refine hK _ _ ?_
  clear hK K
  refine wpAny_ready (rs := [6]) (by kernel_rfl) (by simp) ?_
  refine AllReady.cons rfl (fun K hK => ?_) AllReady.nil
  go_simp
  refine hK _ _ ?_
  clear hK K
  refine wpAny_ready (rs := [9]) (by kernel_rfl) (by simp) ?_
  refine AllReady.cons rfl (fun K hK => ?_) AllReady.nil
  go_simp
  refine hK _ _ ?_
  clear hK K
  refine wpAny_take (i := 10) (v := ?_) rfl (by kernel_rfl) (by kernel_rfl) (by kernel_rfl) (fun _ _ _ h => h) (Or.inl ⟨by rfl, ?_⟩) ?_
  rotate_left
  · intro w; go_simp; try with_reducible rfl
  refine wpAny_ready (rs := [11]) (by kernel_rfl) (by simp) ?_
  refine AllReady.cons rfl (fun K hK => ?_) AllReady.nil
  go_simp
  (go_at_call 28; refine (need_no _).mono ?_; rintro e w1 ⟨rfl, rfl⟩; exact ⟨rfl, _, rfl, (HX.out.go (below_drew1 (Below.refl _ _))).j⟩)
set_option maxHeartbeats 4000000 in
set_option maxRecDepth 100000 in
theorem chk_pop (w : World) (xs : List ByteArray) (y : ByteArray) (n : ByteArray) (v : Bool) (A : Option Addr) (c : Nat) (l : List S45) (W : World) (h : CkI w (xs ++ [y]) W) (hyn : y.toList = n.toList) :
    Calls Try.prog 27 #[.agg #[.string n, .bool true, .bool v, .slice A l.length c], .pointer (some ⟨w.heap.size + 1, 0, none⟩)] W (EndE (CkI w) (CkJ w) (some xs)) := by
  have HX := Lib.hid (h.go (below_alloc (Below.refl W.heap.size W) (.cells #[.string n, .bool true, .bool v, .slice A l.length c] 25)))
  obtain ⟨v0, hv, hrow⟩ := h.box
  obtain ⟨A0, c0, rfl, hc0, hcm⟩ := own_slice hrow
  have hltb := hv.lt
  have hrow0 := hrow
  rw [List.length_append, List.length_singleton] at hv hrow hc0
  have hrow1 := hrow.alloc (Obj.cells #[.string n, .bool true, .bool v, .slice A l.length c] 25)
  have hvc1 := (hv.alloc (Obj.cells #[.string n, .bool true, .bool v, .slice A l.length c] 25)).cell
  have hvf1 := (hv.alloc (Obj.cells #[.string n, .bool true, .bool v, .slice A l.length c] 25)).frozen
  have hvc := hv.cell
  have hvf := hv.frozen
  obtain ⟨g, rfl, hy1⟩ := own_cell hrow1 (Nat.lt_succ_self _)
  rw [show ((xs ++ [y]).map Value.string)[xs.length]? = some (.string y) by simp] at hy1
  obtain ⟨g', e', hy⟩ := own_cell hrow (Nat.lt_succ_self _)
  cases e'
  rw [show ((xs ++ [y]).map Value.string)[xs.length]? = some (.string y) by simp] at hy
  have hT := own_take hrow1 (Nat.le_succ xs.length) (Nat.succ_pos _)
  have q : (y.toList == n.toList) = true := beq_iff_eq.2 hyn
  have HT := Lib.hid hT
  have HV := Lib.hid (hv.alloc (Obj.cells #[.string n, .bool true, .bool v, .slice A l.length c] 25))
  have hbe := h.bel.size
  have hT2 := own_take hrow (Nat.le_succ xs.length) (Nat.succ_pos _)
  rw [show ((xs ++ [y]).map Value.string).take xs.length = xs.map Value.string by simp] at hT2
  have HI2 := Lib.hid (((⟨⟨_, hv.set _, hT2.kept (grownBy_setCell' _ _ _) (.inr (hv.not_row (by decide) hT2).symm)⟩, h.ok.kept (grownBy_setCell' _ _ _) (by simp), h.bel.setCell (p := ⟨w.heap.size + 1, 0, none⟩) (Nat.le_succ _) (.slice (some ⟨g, 0, none⟩) xs.length c0)⟩ : CkI w xs (W.setCell ⟨w.heap.size + 1, 0, none⟩ (.slice (some ⟨g, 0, none⟩) xs.length c0))).go (below_alloc (Below.refl _ _) (Obj.cells #[.string n, .bool true, .bool v, .slice A l.length c] 25))).go (below_drew1 (Below.refl _ _)))
  clear hT2
  clear hrow hrow0 hrow1 hv h hT hyn
  go_enter Try.func27, Try.ntmps27
  go_wp2
  go_region_with (go_at_call 28; refine (need_yes _).mono ?_; rintro e w1 ⟨rfl, rfl⟩)
  all_goals
    go_wp2
    first | go_end0 | refine bodyPost_ret (results_none rfl _ _ _) rfl ?_
    exact ⟨rfl, HI2.out⟩
set_option maxHeartbeats 4000000 in
set_option maxRecDepth 100000 in
theorem chk_bad (w : World) (xs : List ByteArray) (y : ByteArray) (n : ByteArray) (v : Bool) (A : Option Addr) (c : Nat) (l : List S45) (W : World) (h : CkI w (xs ++ [y]) W) (hyn : ¬ y.toList = n.toList) :
    Calls Try.prog 27 #[.agg #[.string n, .bool true, .bool v, .slice A l.length c], .pointer (some ⟨w.heap.size + 1, 0, none⟩)] W (EndE (CkI w) (CkJ w) none) := by
  have HX := Lib.hid (h.go (below_alloc (Below.refl W.heap.size W) (.cells #[.string n, .bool true, .bool v, .slice A l.length c] 25)))
  obtain ⟨v0, hv, hrow⟩ := h.box
  obtain ⟨A0, c0, rfl, hc0, hcm⟩ := own_slice hrow
  have hltb := hv.lt
  have hrow0 := hrow
  rw [List.length_append, List.length_singleton] at hv hrow hc0
  have hrow1 := hrow.alloc (Obj.cells #[.string n, .bool true, .bool v, .slice A l.length c] 25)
  have hvc1 := (hv.alloc (Obj.cells #[.string n, .bool true, .bool v, .slice A l.length c] 25)).cell
  have hvf1 := (hv.alloc (Obj.cells #[.string n, .bool true, .bool v, .slice A l.length c] 25)).frozen
  have hvc := hv.cell
  have hvf := hv.frozen
  obtain ⟨g, rfl, hy1⟩ := own_cell hrow1 (Nat.lt_succ_self _)
  rw [show ((xs ++ [y]).map Value.string)[xs.length]? = some (.string y) by simp] at hy1
  obtain ⟨g', e', hy⟩ := own_cell hrow (Nat.lt_succ_self _)
  cases e'
  rw [show ((xs ++ [y]).map Value.string)[xs.length]? = some (.string y) by simp] at hy
  have q : (y.toList == n.toList) = false := beq_eq_false_iff_ne.2 hyn
  clear hrow hrow0 hrow1 hv h hyn
  go_enter Try.func27, Try.ntmps27
  go_wp2
  refine wp_region_still_tail 11 (by kernel_rfl) (by kernel_rfl) ?_
  simp only [List.take_succ_cons, List.take_zero, List.drop_succ_cons, List.drop_zero]
  have hib : ((xs.length : Nat) : Int) < (xs.length : Int) + 1 := by omega
  change wpStill _ _ ((W.alloc (Obj.cells #[.string n, .bool true, .bool v, .slice A l.length c] 25)).drew) _ _ _
  repeat still_step
  refine wpStill_nil ?_
  go_wp2_with fail
  refine (need_no _).mono ?_
  rintro e w1 ⟨rfl, rfl⟩
  exact ⟨rfl, _, rfl, (HX.out.go (below_drew1 (Below.refl _ _))).j⟩
set_option maxHeartbeats 4000000 in
set_option maxRecDepth 100000 in
theorem chk_void (w : World) (x : List ByteArray) (n : ByteArray) (A : Option Addr) (c : Nat) (l : List S45) (W : World) (h : CkI w x W) :
    Calls Try.prog 27 #[.agg #[.string n, .bool false, .bool true, .slice A l.length c], .pointer (some ⟨w.heap.size + 1, 0, none⟩)] W (EndE (CkI w) (CkJ w) (some x)) := by
  have HX := Lib.hid (h.go (below_alloc (Below.refl W.heap.size W) (.cells #[.string n, .bool false, .bool true, .slice A l.length c] 25)))
  obtain ⟨v0, hv, hrow⟩ := h.box
  obtain ⟨A0, c0, rfl, hc0, hcm⟩ := own_slice hrow
  have hltb := hv.lt
  have hvc := hv.cell
  clear hrow hv h
  go_enter Try.func27, Try.ntmps27
  go_wp2
  first | (exact ⟨rfl, rfl, HX.out⟩) | (refine bodyPost_ret (results_none rfl _ _ _) rfl ?_; exact ⟨rfl, HX.out⟩) | (go_end0; exact ⟨rfl, HX.out⟩)
set_option maxHeartbeats 4000000 in
set_option maxRecDepth 100000 in
theorem chk_push (w : World) (x : List ByteArray) (n : ByteArray) (A : Option Addr) (c : Nat) (l : List S45) (W : World) (h : CkI w x W) (hlen : x.length < 1048576) :
    Calls Try.prog 27 #[.agg #[.string n, .bool false, .bool false, .slice A l.length c], .pointer (some ⟨w.heap.size + 1, 0, none⟩)] W (EndE (CkI w) (CkJ w) (some (x ++ [n]))) := by
  have HX := Lib.hid (h.go (below_alloc (Below.refl W.heap.size W) (.cells #[.string n, .bool false, .bool false, .slice A l.length c] 25)))
  obtain ⟨v0, hv, hrow⟩ := h.box
  obtain ⟨A0, c0, rfl, hc0, hcm⟩ := own_slice hrow
  have hltb := hv.lt
  have hv1 := hv.alloc (Obj.cells #[.string n, .bool false, .bool false, .slice A l.length c] 25)
  have hvc := hv.cell
  have hvc1 := hv1.cell
  have hrow1 := hrow.alloc (Obj.cells #[.string n, .bool false, .bool false, .slice A l.length c] 25)
  have hB1 := HX.out.bel
  have hok1 := HX.out.ok
  have hne1 := hok1.not_row (by decide) hrow1
  obtain ⟨i0, hi, hi0, hi1, hi2⟩ := info_parts infoS
  have hbe := h.bel.size
  clear h hrow hv
  go_enter Try.func27, Try.ntmps27
  go_wp2_with (at_builtin; refine wpList_append_own _ rfl _ _ 35 rfl w.heap.size 9 i0 (.string ByteArray.empty) 1 16 Try.underlying35 hi hi0 hi1 hi2 rfl (by decide) _ _ _ rfl (hrow1.alloc _) ⟨W.heap.size + 1, 0, none⟩ 1 1 [.string n] rfl rfl (by simpa using cell_one_new (W.alloc (Obj.cells #[.string n, .bool false, .bool false, .slice A l.length c] 25)) (Value.string n) 9) (fun x hx => by simp at hx; subst hx; rfl) (by unfold maxLen; omega) (by omega) (by simp; omega) ?_; intro v' w1 hown' hgrow _; obtain ⟨g', cap', rfl⟩ := ownsRow_succ hown'; obtain ⟨hv3, hv4, hr4, hk4, hb4⟩ := hv1.appended (by decide) hrow1 hB1.size (Nat.le_succ _) hown' hgrow; have ho3 := (hok1.alloc _).kept hgrow hne1; have HV4 := Lib.hid hv4; have HR4 := Lib.hid hr4; have HB4 := Lib.hid hb4; have HO3 := Lib.hid ho3; clear hown' hgrow hv4 hr4 hk4 hb4 ho3; have hc3 := hv3.cell; have hf3 := hv3.frozen; clear hv3)
  have HI2 := Lib.hid (show CkI w (x ++ [n]) _ from ⟨⟨_, HV4.out, by rw [List.length_append, List.map_append]; exact HR4.out⟩, HO3.out.kept (grownBy_setCell' w1 (w.heap.size + 1) _) (by simp), hB1.trans HB4.out⟩)
  go_wp2
  first | (exact ⟨rfl, rfl, HI2.out⟩) | (refine bodyPost_ret (results_none rfl _ _ _) rfl ?_; exact ⟨rfl, HI2.out⟩) | (go_end0; exact ⟨rfl, HI2.out⟩)
theorem chk_tag (w : World) (x : List ByteArray) (n : ByteArray) (e v : Bool) (A : Option Addr) (c : Nat) (l : List S45) (W : World) (r : Option (List ByteArray)) (hr : chkT x n e v l = some r) (h : CkI w x W) :
    Calls Try.prog 27 #[.agg #[.string n, .bool e, .bool v, .slice A l.length c], .pointer (some ⟨w.heap.size + 1, 0, none⟩)] W (EndE (CkI w) (CkJ w) r) := by
  unfold chkT at hr
  cases e with
  | true =>
    rw [if_pos rfl] at hr
    rcases List.eq_nil_or_concat x with rfl | ⟨xs, y, rfl⟩
    · obtain rfl := Option.some.inj hr
      exact chk_none w n v A c l W h
    · rw [List.concat_eq_append] at h hr
      rw [List.getLast?_concat, List.dropLast_concat] at hr
      dsimp only at hr
      by_cases hy : y.toList = n.toList
      · rw [if_pos hy] at hr
        obtain rfl := Option.some.inj hr
        exact chk_pop w xs y n v A c l W h hy
      · rw [if_neg hy] at hr
        obtain rfl := Option.some.inj hr
        exact chk_bad w xs y n v A c l W h hy
  | false =>
    rw [if_neg (by decide)] at hr
    cases v with
    | true =>
      rw [if_pos rfl] at hr
      obtain rfl := Option.some.inj hr
      exact chk_void w x n A c l W h
    | false =>
      rw [if_neg (by decide)] at hr
      split at hr
      · rename_i hx
        obtain rfl := Option.some.inj hr
        exact chk_push w x n A c l W h hx
      · cases hr
end Go.Proofs.Ytjcfjgcnkbbgmaa.PA

namespace Go.Proofs.Ytjcfjgcnkbbgmaa.PA
open Go.RowKit Go.Proofs.Ytjcfjgcnkbbgmaa.Pl Go.Proofs.YtjcfjgcnkbbgmaaW.PrintWords Go.Proofs.YtjcfjgcnkbbgmaaW.PrintLast Go.Proofs.YtjcfjgcnkbbgmaaW.PrintMore
set_option linter.unusedVariables false

theorem catch_wrong (b : Nat) (x : Bool) (W : World) (h : Boxed W b 4 (.bool x)) :
    CallsD Try.prog 25 #[.pointer (some ⟨b, 0, none⟩)] (.panicking wrongC) W fun e u' w' =>
      e = .returned (.tuple #[]) ∧ u' = .panicking [{ v := .iface 49 (.agg #[]), recovered := true }] ∧ Boxed w' b 4 (.bool false) ∧ Below b W w' := by
  have hc := h.cell
  have hf := h.frozen
  have hlt := h.lt
  have hc1 := (h.alloc (Obj.cells #[] 49)).cell
  have hf1 := (h.alloc (Obj.cells #[] 49)).frozen
  have HO := Lib.hid (((h.set (.bool false)).alloc (Obj.cells #[] 49)))
  have HB := Lib.hid ((((Below.refl b W).setCell (p := ⟨b, 0, none⟩) (Nat.le_refl _) (.bool false))).alloc (by simpa using Nat.le_of_lt hlt) (Obj.cells #[] 49))
  have hta : ∀ w : World, (Instr.typeAssert (.iface 49 (.agg #[])) 20 49 true).run Try.prog w = .ok (.tuple #[.agg #[], .bool true]) w := fun w => by kernel_rfl
  unfold wrongC
  refine callsD_of_wpS Try.func25 rfl fun c₀ cs hu => ?_
  apply wpS_seq
  apply wpS_region
  simp [wpOpsS, go_sem, recoverD, hu, Try.ntmps25, Exit.thenS]
  refine wpS_of_wp ?_
  simp only [Array.replicate_succ, Array.replicate_zero, List.push_toArray, List.append_toArray, List.nil_append, List.cons_append, List.setIfInBounds_toArray, List.set_cons_succ, List.set_cons_zero]
  go_wp2
  exact ⟨rfl, _, rfl, _, by simp [results, Try.results25, go_sem], rfl, rfl, HO.out, HB.out⟩
theorem catch_idle (b : Nat) (W : World) :
    CallsD Try.prog 25 #[.pointer (some ⟨b, 0, none⟩)] .returning W fun e u' w' => e = .returned (.tuple #[]) ∧ u' = .returning ∧ w' = W := by
  refine callsD_of_wpS Try.func25 rfl fun c₀ cs hu => ?_
  apply wpS_seq
  apply wpS_region
  simp [wpOpsS, go_sem, recoverD, hu, Try.ntmps25, Exit.thenS]
  refine wpS_of_wp ?_
  simp only [Array.replicate_succ, Array.replicate_zero, List.push_toArray, List.append_toArray, List.nil_append, List.cons_append, List.setIfInBounds_toArray, List.set_cons_succ, List.set_cons_zero]
  go_wp2
  cases c₀
  simp_all [bodyPostS, results, Try.results25]
def chkR : Option (List ByteArray) → Bool
  | none => false
  | some x => x.length == 0
def tags_Check.f (k : Nat) (a0 : ByteArray) : Option Bool := (tags_each.l chkT chkO k k a0 []).map chkR
set_option maxHeartbeats 1000000 in
set_option maxRecDepth 100000 in
theorem check_walk (k : Nat) (a0 : ByteArray) (R : Option (List ByteArray)) (w : World) (hLd : Laid w) (hq : tags_each.l chkT chkO k k a0 [] = some R) :
    Calls Try.prog 12 #[.string a0] w fun e w' => e = .returned (.bool (chkR R)) ∧ Below w.heap.size w w' := by
  have hmf : ∀ (fn : Fn) (first cap : Array Value) (w : World), (Instr.makeFunc fn first cap).run Try.prog w = .ok (.func fn first cap) w := fun _ _ _ _ => rfl
  have b1 := Boxed.new w 4 (.bool false)
  have b2 := Boxed.new (w.alloc (.cells #[.bool false] 4)) 35 (.slice none 0 0)
  rw [World.size_alloc] at b2
  have HB0 := Lib.hid (((Below.refl w.heap.size w).alloc (Nat.le_refl _) (.cells #[.bool false] 4 (0, 0))).alloc (by simp) (.cells #[.slice none 0 0] 35 (0, 0)))
  have HX0 := Lib.hid (show CkI w [] _ from ⟨⟨_, b2, World.ownsRow_nil _ _ _ _⟩, b1.alloc (.cells #[.slice none 0 0] 35 (0, 0)), HB0.out⟩)
  have HE := Lib.hid (fun W (hW : CkI w [] W) => each_walk chkT chkO (CkI w) (CkJ w) k 27 29 #[.pointer (some ⟨w.heap.size + 1, 0, none⟩)] #[]
    (enters_of Try.func27 (by kernel_rfl) rfl) (enters_of Try.func29 (by kernel_rfl) rfl)
    (fun x W W' h hb => h.go hb) (fun x W h => hLd.go h.bel)
    (fun x W n e v A c l b r hf hI hR => chk_tag w x n e v A c l W r hf hI)
    (fun x W b r hf h0 h1 hI => chk_byte w x b W r hf hI)
    a0 [] R k hq W hW)
  clear hq hLd b1 b2
  go_enter_defers Try.func12, Try.ntmps12
  go_wp2_with fail
  refine (HE.out _ HX0.out).mono ?_
  intro e w1 he
  cases R with
  | none =>
    obtain ⟨ch, rfl, hJ⟩ := he
    obtain ⟨rfl, hok, hbel⟩ := hJ
    go_wp2
    refine leaves_cons (f := 25) (args := #[.pointer (some ⟨w.heap.size, 0, none⟩)]) (by simp) (by simp [go_sem]) ?_
    refine (catch_wrong w.heap.size false w1 hok).mono ?_
    rintro e u' w2 ⟨rfl, rfl, hB, hb⟩
    have hc := hB.cell
    have HB := Lib.hid (hbel.trans hb)
    clear hb hbel hok hB
    simp [Leaves, settle, results, Try.results12, go_sem, chkR, hc]
    exact HB.out
  | some x =>
    obtain ⟨rfl, hX⟩ := he
    obtain ⟨v, hv, hrow⟩ := hX.box
    obtain ⟨A0, c0, rfl, hc0, hcm⟩ := own_slice hrow
    have hvc := hv.cell
    have hoc := hX.ok.cell
    have hof := hX.ok.frozen
    have hoc2 := (hX.ok.set (.bool ((x.length : Int) == 0))).cell
    have HB := Lib.hid (hX.bel.setCell (p := ⟨w.heap.size, 0, none⟩) (Nat.le_refl _) (.bool ((x.length : Int) == 0)))
    have hR : chkR (some x) = ((x.length : Int) == 0) := by
      show (x.length == 0) = _
      cases x with
      | nil => rfl
      | cons a b => simp; omega
    clear hX hv hrow
    go_wp2
    refine leaves_cons (f := 25) (args := #[.pointer (some ⟨w.heap.size, 0, none⟩)]) (by simp) (by simp [go_sem]) ?_
    refine (catch_idle w.heap.size _).mono ?_
    rintro e u' w2 ⟨rfl, rfl, rfl⟩
    rw [hR]
    clear hR
    simp [Leaves, settle, results, Try.results12, go_sem, hoc2]
    exact HB.out
theorem tags_Check.calls (k : Nat) (a0 : ByteArray) (r : Bool) (w : World) (hLd : Laid w) (h : tags_Check.f k a0 = some r) :
    Calls Try.prog 12 #[.string a0] w fun e w' => e = .returned (.bool r) ∧ Below w.heap.size w w' := by
  obtain ⟨R, hq, rfl⟩ := Option.map_eq_some_iff.1 h
  exact check_walk k a0 R w hLd hq
theorem tags_Check.mono : ∀ a0 k, LeO (tags_Check.f k a0) (tags_Check.f (k + 1) a0) := by
  intro a0 k r h
  obtain ⟨q, hq, h⟩ := Option.map_eq_some_iff.1 h
  exact Option.map_eq_some_iff.2 ⟨q, tags_each.mono_l _ _ _ _ _ _ _ hq, h⟩
end Go.Proofs.Ytjcfjgcnkbbgmaa.PA

namespace Go.Proofs.Ytjcfjgcnkbbgmaa.PA
open Go.RowKit Go.Proofs.YtjcfjgcnkbbgmaaW.PrintWords Go.Proofs.YtjcfjgcnkbbgmaaW.PrintLast Go.Proofs.YtjcfjgcnkbbgmaaW.PrintMore
attribute [local go_sem] max2_int min2_int max_two min_two max_three min_three max_four min_four   -- for this text's walks alone
set_option linter.unusedVariables false
set_option linter.unusedSimpArgs false


end Go.Proofs.Ytjcfjgcnkbbgmaa.PA

namespace Go.Proofs.Ytjcfjgcnkbbgmaa.PA
open Go.RowKit Go.Proofs.YtjcfjgcnkbbgmaaW.PrintWords Go.Proofs.YtjcfjgcnkbbgmaaW.PrintLast Go.Proofs.YtjcfjgcnkbbgmaaW.PrintMore
attribute [local go_sem] max2_int min2_int max_two min_two max_three min_three max_four min_four   -- for this text's walks alone
set_option linter.unusedVariables false
set_option linter.unusedSimpArgs false

/-! ### incipitlaw21_awake: function 7 -/
def incipitlaw21_awake.f (k : Nat)  : Option (Bool) := (tags_Read.f k (⟨#[60, 104, 49, 32, 105, 100, 61, 34, 120, 34, 62, 97]⟩ : ByteArray)).bind fun bt159 => ((tags_Check.f k (⟨#[60, 112, 62, 97, 60, 98, 114, 32, 47, 62, 98, 60, 47, 112, 62]⟩ : ByteArray)).bind fun t167 => (if t167 = true then ((tags_Check.f k (⟨#[60, 112, 62]⟩ : ByteArray)).bind fun t168 => (if t168 = true then (none) else ((tags_Check.f k (⟨#[97, 60, 98]⟩ : ByteArray)).bind fun t169 => (if t169 = true then (none) else (if bt159.2.2.2.2 = 11 then (if bt159.1.toList = ([104, 49] : List UInt8) then (if (bt159.2.2.2.1.length : Int) = 1 then ((tags_Ids.f k (⟨#[60, 104, 49, 32, 105, 100, 61, 34, 120, 34, 62]⟩ : ByteArray)).bind fun t170 => (if (t170.length : Int) = 1 then ((tags_Text.f k (⟨#[60, 98, 62, 97, 60, 47, 98, 62]⟩ : ByteArray)).bind fun t173 => (some (t173.toList == ([97] : List UInt8)))) else (none))) else (none)) else (none)) else (none)))))) else (none)))
theorem incipitlaw21_awake.mono : ∀ k, LeO (incipitlaw21_awake.f k ) (incipitlaw21_awake.f (k + 1) ) := by
  intro  k
  unfold incipitlaw21_awake.f
  repeat' first
      | (with_reducible exact tags_Check.mono _ _)
      | (with_reducible exact tags_Ids.mono _ _)
      | (with_reducible exact tags_Read.mono _ _)
      | (with_reducible exact tags_Text.mono _ _)
      | (with_reducible exact LeO.refl _)
      | (with_reducible exact LeO.none _)
      | (with_reducible refine LeO.ite ?_ ?_)
      | (with_reducible refine LeO.bind ?_ (fun _ => ?_))
      | exact tags_Check.mono _ _
      | exact tags_Ids.mono _ _
      | exact tags_Read.mono _ _
      | exact tags_Text.mono _ _
      | exact LeO.none _
      | refine LeO.ite ?_ ?_
      | refine LeO.bind ?_ (fun _ => ?_)
set_option maxHeartbeats 8000000 in
set_option maxRecDepth 100000 in
theorem incipitlaw21_awake.calls (k : Nat)  (r : Bool) (w : World) (hLd : Laid w) (h : incipitlaw21_awake.f k  = some r) :
    Calls Try.prog 7 #[] w fun e w' => e = .returned (.bool r) ∧ Below w.heap.size w w' := by
  have hu25 := Try.underlying25
  have HB := Aside0.mk (Below.refl w.heap.size w)
  have H : ((tags_Read.f k (⟨#[60, 104, 49, 32, 105, 100, 61, 34, 120, 34, 62, 97]⟩ : ByteArray)).bind fun bt159 => ((tags_Check.f k (⟨#[60, 112, 62, 97, 60, 98, 114, 32, 47, 62, 98, 60, 47, 112, 62]⟩ : ByteArray)).bind fun t167 => (if t167 = true then ((tags_Check.f k (⟨#[60, 112, 62]⟩ : ByteArray)).bind fun t168 => (if t168 = true then (none) else ((tags_Check.f k (⟨#[97, 60, 98]⟩ : ByteArray)).bind fun t169 => (if t169 = true then (none) else (if bt159.2.2.2.2 = 11 then (if bt159.1.toList = ([104, 49] : List UInt8) then (if (bt159.2.2.2.1.length : Int) = 1 then ((tags_Ids.f k (⟨#[60, 104, 49, 32, 105, 100, 61, 34, 120, 34, 62]⟩ : ByteArray)).bind fun t170 => (if (t170.length : Int) = 1 then ((tags_Text.f k (⟨#[60, 98, 62, 97, 60, 47, 98, 62]⟩ : ByteArray)).bind fun t173 => (some (t173.toList == ([97] : List UInt8)))) else (none))) else (none)) else (none)) else (none)))))) else (none)))) = some r := h
  clear h
  replace H := Option.bind_eq_some_iff.mp H
  obtain ⟨⟨t159, t160, t161, t162, t165⟩, A10, H⟩ := H
  replace H : ((tags_Check.f k (⟨#[60, 112, 62, 97, 60, 98, 114, 32, 47, 62, 98, 60, 47, 112, 62]⟩ : ByteArray)).bind fun t167 => (if t167 = true then ((tags_Check.f k (⟨#[60, 112, 62]⟩ : ByteArray)).bind fun t168 => (if t168 = true then (none) else ((tags_Check.f k (⟨#[97, 60, 98]⟩ : ByteArray)).bind fun t169 => (if t169 = true then (none) else (if t165 = 11 then (if t159.toList = ([104, 49] : List UInt8) then (if (t162.length : Int) = 1 then ((tags_Ids.f k (⟨#[60, 104, 49, 32, 105, 100, 61, 34, 120, 34, 62]⟩ : ByteArray)).bind fun t170 => (if (t170.length : Int) = 1 then ((tags_Text.f k (⟨#[60, 98, 62, 97, 60, 47, 98, 62]⟩ : ByteArray)).bind fun t173 => (some (t173.toList == ([97] : List UInt8)))) else (none))) else (none)) else (none)) else (none)))))) else (none))) = some r := H
  have A1 := Aside0.mk A10
  clear A10
  replace H := Option.bind_eq_some_iff.mp H
  obtain ⟨t167, A20, H⟩ := H
  replace H : (if t167 = true then ((tags_Check.f k (⟨#[60, 112, 62]⟩ : ByteArray)).bind fun t168 => (if t168 = true then (none) else ((tags_Check.f k (⟨#[97, 60, 98]⟩ : ByteArray)).bind fun t169 => (if t169 = true then (none) else (if t165 = 11 then (if t159.toList = ([104, 49] : List UInt8) then (if (t162.length : Int) = 1 then ((tags_Ids.f k (⟨#[60, 104, 49, 32, 105, 100, 61, 34, 120, 34, 62]⟩ : ByteArray)).bind fun t170 => (if (t170.length : Int) = 1 then ((tags_Text.f k (⟨#[60, 98, 62, 97, 60, 47, 98, 62]⟩ : ByteArray)).bind fun t173 => (some (t173.toList == ([97] : List UInt8)))) else (none))) else (none)) else (none)) else (none)))))) else (none)) = some r := H
  have A2 := Aside0.mk A20
  clear A20
  by_cases c3 : t167 = true
  · subst c3
    have H1 : ((tags_Check.f k (⟨#[60, 112, 62]⟩ : ByteArray)).bind fun t168 => (if t168 = true then (none) else ((tags_Check.f k (⟨#[97, 60, 98]⟩ : ByteArray)).bind fun t169 => (if t169 = true then (none) else (if t165 = 11 then (if t159.toList = ([104, 49] : List UInt8) then (if (t162.length : Int) = 1 then ((tags_Ids.f k (⟨#[60, 104, 49, 32, 105, 100, 61, 34, 120, 34, 62]⟩ : ByteArray)).bind fun t170 => (if (t170.length : Int) = 1 then ((tags_Text.f k (⟨#[60, 98, 62, 97, 60, 47, 98, 62]⟩ : ByteArray)).bind fun t173 => (some (t173.toList == ([97] : List UInt8)))) else (none))) else (none)) else (none)) else (none)))))) = some r := by rw [if_pos rfl] at H; exact H
    clear H
    have H := H1
    clear H1
    replace H := Option.bind_eq_some_iff.mp H
    obtain ⟨t168, A40, H⟩ := H
    replace H : (if t168 = true then (none) else ((tags_Check.f k (⟨#[97, 60, 98]⟩ : ByteArray)).bind fun t169 => (if t169 = true then (none) else (if t165 = 11 then (if t159.toList = ([104, 49] : List UInt8) then (if (t162.length : Int) = 1 then ((tags_Ids.f k (⟨#[60, 104, 49, 32, 105, 100, 61, 34, 120, 34, 62]⟩ : ByteArray)).bind fun t170 => (if (t170.length : Int) = 1 then ((tags_Text.f k (⟨#[60, 98, 62, 97, 60, 47, 98, 62]⟩ : ByteArray)).bind fun t173 => (some (t173.toList == ([97] : List UInt8)))) else (none))) else (none)) else (none)) else (none))))) = some r := H
    have A4 := Aside0.mk A40
    clear A40
    by_cases c5 : t168 = true
    · subst c5
      have H1 : (none) = some r := by rw [if_pos rfl] at H; exact H
      cases H1
    · replace c5 := Bool.eq_false_iff.mpr c5
      subst c5
      have H1 : ((tags_Check.f k (⟨#[97, 60, 98]⟩ : ByteArray)).bind fun t169 => (if t169 = true then (none) else (if t165 = 11 then (if t159.toList = ([104, 49] : List UInt8) then (if (t162.length : Int) = 1 then ((tags_Ids.f k (⟨#[60, 104, 49, 32, 105, 100, 61, 34, 120, 34, 62]⟩ : ByteArray)).bind fun t170 => (if (t170.length : Int) = 1 then ((tags_Text.f k (⟨#[60, 98, 62, 97, 60, 47, 98, 62]⟩ : ByteArray)).bind fun t173 => (some (t173.toList == ([97] : List UInt8)))) else (none))) else (none)) else (none)) else (none)))) = some r := by rw [if_neg (show ¬ (false = true) by decide)] at H; exact H
      clear H
      have H := H1
      clear H1
      replace H := Option.bind_eq_some_iff.mp H
      obtain ⟨t169, A120, H⟩ := H
      replace H : (if t169 = true then (none) else (if t165 = 11 then (if t159.toList = ([104, 49] : List UInt8) then (if (t162.length : Int) = 1 then ((tags_Ids.f k (⟨#[60, 104, 49, 32, 105, 100, 61, 34, 120, 34, 62]⟩ : ByteArray)).bind fun t170 => (if (t170.length : Int) = 1 then ((tags_Text.f k (⟨#[60, 98, 62, 97, 60, 47, 98, 62]⟩ : ByteArray)).bind fun t173 => (some (t173.toList == ([97] : List UInt8)))) else (none))) else (none)) else (none)) else (none))) = some r := H
      have A12 := Aside0.mk A120
      clear A120
      by_cases c13 : t169 = true
      · subst c13
        have H1 : (none) = some r := by rw [if_pos rfl] at H; exact H
        cases H1
      · replace c13 := Bool.eq_false_iff.mpr c13
        subst c13
        have H1 : (if t165 = 11 then (if t159.toList = ([104, 49] : List UInt8) then (if (t162.length : Int) = 1 then ((tags_Ids.f k (⟨#[60, 104, 49, 32, 105, 100, 61, 34, 120, 34, 62]⟩ : ByteArray)).bind fun t170 => (if (t170.length : Int) = 1 then ((tags_Text.f k (⟨#[60, 98, 62, 97, 60, 47, 98, 62]⟩ : ByteArray)).bind fun t173 => (some (t173.toList == ([97] : List UInt8)))) else (none))) else (none)) else (none)) else (none)) = some r := by rw [if_neg (show ¬ (false = true) by decide)] at H; exact H
        clear H
        have H := H1
        clear H1
        by_cases c21 : t165 = 11
        · rw [if_pos c21] at H
          have c21b0 : (t165 == 11) = true := beq_iff_eq.mpr c21
          have c21b1 : (t165 != 11) = false := bne_eq_false_iff_eq.mpr c21
          clear c21
          by_cases c22 : t159.toList = ([104, 49] : List UInt8)
          · rw [if_pos c22] at H
            have c22b0 : (t159.toList == ([104, 49] : List UInt8)) = true := beq_iff_eq.mpr c22
            have c22b1 : (t159.toList != ([104, 49] : List UInt8)) = false := bne_eq_false_iff_eq.mpr c22
            clear c22
            by_cases c23 : (t162.length : Int) = 1
            · rw [if_pos c23] at H
              have c23b0 : ((t162.length : Int) == 1) = true := beq_iff_eq.mpr c23
              have c23b1 : ((t162.length : Int) != 1) = false := bne_eq_false_iff_eq.mpr c23
              clear c23
              replace H := Option.bind_eq_some_iff.mp H
              obtain ⟨t170, A240, H⟩ := H
              replace H : (if (t170.length : Int) = 1 then ((tags_Text.f k (⟨#[60, 98, 62, 97, 60, 47, 98, 62]⟩ : ByteArray)).bind fun t173 => (some (t173.toList == ([97] : List UInt8)))) else (none)) = some r := H
              have A24 := Aside0.mk A240
              clear A240
              by_cases c25 : (t170.length : Int) = 1
              · rw [if_pos c25] at H
                have c25b0 : ((t170.length : Int) == 1) = true := beq_iff_eq.mpr c25
                have c25b1 : ((t170.length : Int) != 1) = false := bne_eq_false_iff_eq.mpr c25
                clear c25
                replace H := Option.bind_eq_some_iff.mp H
                obtain ⟨t173, A260, H⟩ := H
                replace H : (some (t173.toList == ([97] : List UInt8))) = some r := H
                have A26 := Aside0.mk A260
                clear A260
                obtain rfl := Option.some.inj H
                go_enter Try.func7, Try.ntmps7
                go_wp2_with (first | ((with_reducible refine gate_callee (f := 8) rfl ?_); refine goesL_ (some 4) rfl rfl Try.func8 (by kernel_rfl) rfl #[.string (⟨#[60, 104, 49, 32, 105, 100, 61, 34, 120, 34, 62, 97]⟩ : ByteArray)] rfl (by (try simp only [List.map_toArray, List.map_cons, List.map_nil]); first | done | rfl | (simp only [List.length_drop, List.length_take]; rfl)) ?_; (with_reducible refine (tags_Read.calls k (⟨#[60, 104, 49, 32, 105, 100, 61, 34, 120, 34, 62, 97]⟩ : ByteArray) t159 t160 t161 t162 t165 _ ?side1 A1.out).mono ?_); (case side1 => exact Laid.go hLd (by repeat (first | (with_reducible first | exact HB.out | apply below_alloc | apply pw_below_drewN | apply below_drew1) | exact HB.out))); rintro e w27 ⟨v163, rfl, ho0, hb⟩; refine ⟨_, rfl, ?_⟩; have n0_ := Aside0.mk (Kd.R_lower ho0 (below_size (by repeat (first | (with_reducible first | exact HB.out | apply below_alloc | apply pw_below_drewN | apply below_drew1) | exact HB.out)))); have n1_ := Aside0.mk (below_step (by repeat (first | (with_reducible first | exact HB.out | apply below_alloc | apply pw_below_drewN | apply below_drew1) | exact HB.out)) hb); clear HB; have HO164 := n0_; have HB := n1_; clear n0_ n1_; (try clear hb); (try clear hb2); (try clear hk); (try clear hi); (try clear ho0)) | ((with_reducible refine gate_dst (N := 1) rfl ?_); (try (refine gate_guard (by rfl) ?_; dsimp only)); refine box_event ?hg (N := 1) ?hd (cs := #[.string (⟨#[]⟩ : ByteArray), .bool false, .bool false, .slice none 0 0]) (t := 25) ?hr ?_; (case hd => rfl); (case hg => rfl); (case hr => first | (go_simp; done) | (go_simp; rfl)); intro gb166 hg w28 hbox hb; have n0_ := Aside0.mk (Kd.R_below (by (with_reducible repeat (first | apply Kd.R_alloc | apply Kd.R_drewN | apply Kd.R_drew)); exact HO164.out) hb); have n1_ := Aside0.mk (below_step (by repeat (first | (with_reducible first | exact HB.out | apply below_alloc | apply pw_below_drewN | apply below_drew1) | exact HB.out)) hb); have n2_ := Aside0.mk (hbox); have n3_ := Aside0.mk ((by rw [hg]; exact (below_size (by repeat (first | (with_reducible first | exact HB.out | apply below_alloc | apply pw_below_drewN | apply below_drew1) | exact HB.out))) : w.heap.size ≤ gb166)); have n4_ := Aside0.mk ((by rw [hg]; exact (below_size (by repeat (first | (with_reducible first | exact HB.out | apply below_alloc | apply pw_below_drewN | apply below_drew1) | exact HB.out))) : w.heap.size ≤ gb166)); clear HO164; clear HB; have HO164 := n0_; have HB := n1_; have BK166 := n2_; have GW166 := n3_; have GE166 := n4_; clear n0_ n1_ n2_ n3_ n4_; clear hb hbox hg; have hcz29_0 : w28.cell? ⟨gb166, 0, none⟩ = some (.string (⟨#[]⟩ : ByteArray)) := (blk_cell BK166.out 0).trans rfl; have hcz29_1 : w28.cell? ⟨gb166, 1, none⟩ = some (.bool false) := (blk_cell BK166.out 1).trans rfl; have hcz29_2 : w28.cell? ⟨gb166, 2, none⟩ = some (.bool false) := (blk_cell BK166.out 2).trans rfl; have hcz29_3 : w28.cell? ⟨gb166, 3, none⟩ = some (.slice none 0 0) := (blk_cell BK166.out 3).trans rfl; have hfz29_0 := blk_frozen BK166.out 0; have hfz29_1 := blk_frozen BK166.out 1; have hfz29_2 := blk_frozen BK166.out 2; have hfz29_3 := blk_frozen BK166.out 3; obtain ⟨Ao30, co30, eo30⟩ := Kd.R_slice HO164.out; subst eo30) | ((with_reducible refine gate_callee (f := 12) rfl ?_); refine goesL_ (some 7) rfl rfl Try.func12 (by kernel_rfl) rfl #[.string (⟨#[60, 112, 62, 97, 60, 98, 114, 32, 47, 62, 98, 60, 47, 112, 62]⟩ : ByteArray)] rfl (by (try simp only [List.map_toArray, List.map_cons, List.map_nil]); first | done | rfl | (simp only [List.length_drop, List.length_take]; rfl)) ?_; (with_reducible refine (tags_Check.calls k (⟨#[60, 112, 62, 97, 60, 98, 114, 32, 47, 62, 98, 60, 47, 112, 62]⟩ : ByteArray) true _ ?side1 A2.out).mono ?_); (case side1 => exact Laid.go hLd (by repeat (first | (with_reducible first | exact HB.out | apply below_alloc | apply pw_below_drewN | apply below_drew1 | refine below_set ?_ GE166.out) | exact HB.out))); rintro e w31 ⟨rfl, hb⟩; refine ⟨_, rfl, ?_⟩; have n0_ := Aside0.mk (Kd.R_below (by (with_reducible repeat (first | apply Kd.R_alloc | apply Kd.R_drewN | apply Kd.R_drew)); exact (Kd.R_mono (Kd.R_far (p := ⟨gb166, 3, none⟩) (Kd.R_far (p := ⟨gb166, 2, none⟩) (Kd.R_far (p := ⟨gb166, 1, none⟩) (Kd.R_far (p := ⟨gb166, 0, none⟩) (Kd.R_types HO164.out BK166.out (by decide)) (fun _ hk => hk.2) (.string t159)) (fun _ hk => hk.2) (.bool t160)) (fun _ hk => hk.2) (.bool t161)) (fun _ hk => hk.2) (.slice Ao30 t162.length co30)) (fun _ h_ => h_.1))) hb); have n1_ := Aside0.mk (blk_below (g := gb166) (o := .cells #[.string t159, .bool t160, .bool t161, .slice Ao30 t162.length co30] 25 (0, 0)) (by (with_reducible repeat (first | refine blk_drewN ?_ _ | refine blk_drew ?_ | refine blk_alloc ?_ _)); refine blk_put (cs := #[.string t159, .bool t160, .bool t161, .slice none 0 0]) ?_ 3 _ rfl; (with_reducible repeat (first | refine blk_drewN ?_ _ | refine blk_drew ?_ | refine blk_alloc ?_ _)); refine blk_put (cs := #[.string t159, .bool t160, .bool false, .slice none 0 0]) ?_ 2 _ rfl; (with_reducible repeat (first | refine blk_drewN ?_ _ | refine blk_drew ?_ | refine blk_alloc ?_ _)); refine blk_put (cs := #[.string t159, .bool false, .bool false, .slice none 0 0]) ?_ 1 _ rfl; (with_reducible repeat (first | refine blk_drewN ?_ _ | refine blk_drew ?_ | refine blk_alloc ?_ _)); refine blk_put (cs := #[.string (⟨#[]⟩ : ByteArray), .bool false, .bool false, .slice none 0 0]) ?_ 0 _ rfl; (with_reducible repeat (first | refine blk_drewN ?_ _ | refine blk_drew ?_ | refine blk_alloc ?_ _)); exact BK166.out) hb); have n2_ := Aside0.mk (below_step (by repeat (first | (with_reducible first | exact HB.out | apply below_alloc | apply pw_below_drewN | apply below_drew1 | refine below_set ?_ GE166.out) | exact HB.out)) hb); clear HO164; clear BK166; clear HB; have HO164 := n0_; have BK166 := n1_; have HB := n2_; clear n0_ n1_ n2_; (try clear hb); (try clear hb2); (try clear hk); (try clear hi)) | (go_at_call 12; (with_reducible refine (tags_Check.calls k (⟨#[60, 112, 62]⟩ : ByteArray) false _ ?side1 A4.out).mono ?_); (case side1 => exact Laid.go hLd (by repeat (first | (with_reducible first | exact HB.out | apply below_alloc | apply pw_below_drewN | apply below_drew1 | refine below_set ?_ GE166.out) | exact HB.out))); rintro e w32 ⟨rfl, hb⟩; have n0_ := Aside0.mk (Kd.R_below (by (with_reducible repeat (first | apply Kd.R_alloc | apply Kd.R_drewN | apply Kd.R_drew)); exact HO164.out) hb); have n1_ := Aside0.mk (blk_below (g := gb166) (o := .cells #[.string t159, .bool t160, .bool t161, .slice Ao30 t162.length co30] 25 (0, 0)) (by (with_reducible repeat (first | refine blk_drewN ?_ _ | refine blk_drew ?_ | refine blk_alloc ?_ _)); exact BK166.out) hb); have n2_ := Aside0.mk (below_step (by repeat (first | (with_reducible first | exact HB.out | apply below_alloc | apply pw_below_drewN | apply below_drew1 | refine below_set ?_ GE166.out) | exact HB.out)) hb); clear HO164; clear BK166; clear HB; have HO164 := n0_; have BK166 := n1_; have HB := n2_; clear n0_ n1_ n2_; (try clear hb); (try clear hb2); (try clear hk); (try clear hi)) | (go_at_call 12; (with_reducible refine (tags_Check.calls k (⟨#[97, 60, 98]⟩ : ByteArray) false _ ?side1 A12.out).mono ?_); (case side1 => exact Laid.go hLd (by repeat (first | (with_reducible first | exact HB.out | apply below_alloc | apply pw_below_drewN | apply below_drew1 | refine below_set ?_ GE166.out) | exact HB.out))); rintro e w33 ⟨rfl, hb⟩; have n0_ := Aside0.mk (Kd.R_below (by (with_reducible repeat (first | apply Kd.R_alloc | apply Kd.R_drewN | apply Kd.R_drew)); exact HO164.out) hb); have n1_ := Aside0.mk (blk_below (g := gb166) (o := .cells #[.string t159, .bool t160, .bool t161, .slice Ao30 t162.length co30] 25 (0, 0)) (by (with_reducible repeat (first | refine blk_drewN ?_ _ | refine blk_drew ?_ | refine blk_alloc ?_ _)); exact BK166.out) hb); have n2_ := Aside0.mk (below_step (by repeat (first | (with_reducible first | exact HB.out | apply below_alloc | apply pw_below_drewN | apply below_drew1 | refine below_set ?_ GE166.out) | exact HB.out)) hb); clear HO164; clear BK166; clear HB; have HO164 := n0_; have BK166 := n1_; have HB := n2_; clear n0_ n1_ n2_; (try clear hb); (try clear hb2); (try clear hk); (try clear hi); have hcz34_0 : w33.cell? ⟨gb166, 0, none⟩ = some (.string t159) := (blk_cell BK166.out 0).trans rfl; have hcz34_1 : w33.cell? ⟨gb166, 1, none⟩ = some (.bool t160) := (blk_cell BK166.out 1).trans rfl; have hcz34_2 : w33.cell? ⟨gb166, 2, none⟩ = some (.bool t161) := (blk_cell BK166.out 2).trans rfl; have hcz34_3 : w33.cell? ⟨gb166, 3, none⟩ = some (.slice Ao30 t162.length co30) := (blk_cell BK166.out 3).trans rfl; have hfz34_0 := blk_frozen BK166.out 0; have hfz34_1 := blk_frozen BK166.out 1; have hfz34_2 := blk_frozen BK166.out 2; have hfz34_3 := blk_frozen BK166.out 3) | (go_at_call 15; (with_reducible refine (tags_Ids.calls k (⟨#[60, 104, 49, 32, 105, 100, 61, 34, 120, 34, 62]⟩ : ByteArray) t170 _ ?side1 A24.out).mono ?_); (case side1 => exact Laid.go hLd (by repeat (first | (with_reducible first | exact HB.out | apply below_alloc | apply pw_below_drewN | apply below_drew1 | refine below_set ?_ GE166.out) | exact HB.out))); rintro e w35 ⟨v171, rfl, ho0, hb⟩; have n0_ := Aside0.mk (Kd.R_below (by (with_reducible repeat (first | apply Kd.R_alloc | apply Kd.R_drewN | apply Kd.R_drew)); exact HO164.out) hb); have n1_ := Aside0.mk (Kd.R_lower ho0 (below_size (by repeat (first | (with_reducible first | exact HB.out | apply below_alloc | apply pw_below_drewN | apply below_drew1 | refine below_set ?_ GE166.out) | exact HB.out)))); have n2_ := Aside0.mk (blk_below (g := gb166) (o := .cells #[.string t159, .bool t160, .bool t161, .slice Ao30 t162.length co30] 25 (0, 0)) (by (with_reducible repeat (first | refine blk_drewN ?_ _ | refine blk_drew ?_ | refine blk_alloc ?_ _)); exact BK166.out) hb); have n3_ := Aside0.mk (below_step (by repeat (first | (with_reducible first | exact HB.out | apply below_alloc | apply pw_below_drewN | apply below_drew1 | refine below_set ?_ GE166.out) | exact HB.out)) hb); clear HO164; clear BK166; clear HB; have HO164 := n0_; have HO172 := n1_; have BK166 := n2_; have HB := n3_; clear n0_ n1_ n2_ n3_; (try clear hb); (try clear hb2); (try clear hk); (try clear hi); (try clear ho0); obtain ⟨Ao36, co36, eo36⟩ := Kd.R_slice HO172.out; subst eo36) | (go_at_call 17; (with_reducible refine (tags_Text.calls k (⟨#[60, 98, 62, 97, 60, 47, 98, 62]⟩ : ByteArray) t173 _ ?side1 A26.out).mono ?_); (case side1 => exact Laid.go hLd (by repeat (first | (with_reducible first | exact HB.out | apply below_alloc | apply pw_below_drewN | apply below_drew1 | refine below_set ?_ GE166.out) | exact HB.out))); rintro e w37 ⟨rfl, hb⟩; have n0_ := Aside0.mk (Kd.R_below (by (with_reducible repeat (first | apply Kd.R_alloc | apply Kd.R_drewN | apply Kd.R_drew)); exact HO164.out) hb); have n1_ := Aside0.mk (Kd.R_below (by (with_reducible repeat (first | apply Kd.R_alloc | apply Kd.R_drewN | apply Kd.R_drew)); exact HO172.out) hb); have n2_ := Aside0.mk (blk_below (g := gb166) (o := .cells #[.string t159, .bool t160, .bool t161, .slice Ao30 t162.length co30] 25 (0, 0)) (by (with_reducible repeat (first | refine blk_drewN ?_ _ | refine blk_drew ?_ | refine blk_alloc ?_ _)); exact BK166.out) hb); have n3_ := Aside0.mk (below_step (by repeat (first | (with_reducible first | exact HB.out | apply below_alloc | apply pw_below_drewN | apply below_drew1 | refine below_set ?_ GE166.out) | exact HB.out)) hb); clear HO164; clear HO172; clear BK166; clear HB; have HO164 := n0_; have HO172 := n1_; have BK166 := n2_; have HB := n3_; clear n0_ n1_ n2_ n3_; (try clear hb); (try clear hb2); (try clear hk); (try clear hi)))
                go_ret
                exact ⟨by first | rfl | (simp [errW_none, errW_some] <;> rfl) | (simp [*, errW_none, errW_some] <;> rfl), by repeat (first | (with_reducible first | exact HB.out | apply below_alloc | apply pw_below_drewN | apply below_drew1 | refine below_set ?_ GE166.out) | exact HB.out)⟩
              · rw [if_neg c25] at H
                cases H
            · rw [if_neg c23] at H
              cases H
          · rw [if_neg c22] at H
            cases H
        · rw [if_neg c21] at H
          cases H
  · replace c3 := Bool.eq_false_iff.mpr c3
    subst c3
    have H1 : (none) = some r := by rw [if_neg (show ¬ (false = true) by decide)] at H; exact H
    cases H1
/-! ### incipitref08_Begins: function 22 -/
/-! ### incipitref21_small: function 39 -/
/-! ### incipitref21_name: function 23 -/
end Go.Proofs.Ytjcfjgcnkbbgmaa.PA

namespace Go.Proofs.Ytjcfjgcnkbbgmaa.PA
open Go.RowKit Go.Proofs.YtjcfjgcnkbbgmaaW.PrintWords Go.Proofs.YtjcfjgcnkbbgmaaW.PrintLast Go.Proofs.YtjcfjgcnkbbgmaaW.PrintMore
attribute [local go_sem] max2_int min2_int max_two min_two max_three min_three max_four min_four   -- for this text's walks alone
set_option linter.unusedVariables false
set_option linter.unusedSimpArgs false

/-! ### incipitref21_attribute: function 24 -/
end Go.Proofs.Ytjcfjgcnkbbgmaa.PA

namespace Go.Proofs.Ytjcfjgcnkbbgmaa.Pure
open Go.RowKit Go.Proofs.YtjcfjgcnkbbgmaaW.PrintWords Go.Proofs.YtjcfjgcnkbbgmaaW.PrintMore Go.Proofs.Ytjcfjgcnkbbgmaa.Pl Go.Proofs.Ytjcfjgcnkbbgmaa.PA

theorem Ev.const {α : Type} {g : Option α} {r : α} (h : g = some r) : Ev (fun _ => g) r := ⟨0, fun _ _ => h⟩
def sm (x : UInt8) : Bool := decide (97 ≤ x.toNat) && decide (x.toNat ≤ 122)
def dg (x : UInt8) : Bool := decide (48 ≤ x.toNat) && decide (x.toNat ≤ 57)
theorem small_f (x : UInt8) : tags_small.f (x.toNat : Int) = some (sm x) := by
  have h : ∀ n : Fin 256, tags_small.f ((n.val : Nat) : Int) = some (decide (97 ≤ n.val) && decide (n.val ≤ 122)) := by decide +kernel
  exact h ⟨x.toNat, x.toNat_lt⟩
theorem digit_f (x : UInt8) : class_Digit.f (x.toNat : Int) = some (dg x) := by
  have h : ∀ n : Fin 256, class_Digit.f ((n.val : Nat) : Int) = some (decide (48 ≤ n.val) && decide (n.val ≤ 57)) := by decide +kernel
  exact h ⟨x.toNat, x.toNat_lt⟩
/-- May a byte stand in a name, at a place? -/
def okN (d : Bool) (i : Nat) (x : UInt8) : Bool := if sm x = true then true else if 0 < i then (if dg x = true then true else if d = true then decide (x = 45) else false) else false
/-- How long a name is. -/
def nm (d : Bool) : Nat → List UInt8 → Nat
  | _, [] => 0
  | i, x :: t => if okN d i x = true then nm d (i + 1) t + 1 else 0
theorem nm_le (d : Bool) : ∀ (l : List UInt8) (i : Nat), nm d i l ≤ l.length
  | [], _ => Nat.le_refl _
  | x :: t, i => by
    have := nm_le d t (i + 1)
    unfold nm
    split
    · rw [List.length_cons]; omega
    · exact Nat.zero_le _
theorem named_body (d : Bool) (l : List UInt8) (hl : l.length ≤ 1099511627776) (k i : Nat) (x : UInt8) (t : List UInt8) (hd : l.drop i = x :: t) :
    tags_named.l0 (k + 1) (B l) d (i : Int) = if okN d i x = true then tags_named.l0 k (B l) d ((i + 1 : Nat) : Int) else some (B (l.take i), B (l.drop i)) := by
  have hi : i < l.length := by
    rcases Nat.lt_or_ge i l.length with h | h
    · exact h
    · rw [List.drop_of_length_le h] at hd; cases hd
  have hx : l[i] = x := by
    have := List.drop_eq_getElem_cons hi
    rw [hd] at this
    exact (List.cons.inj this).1.symm
  have hbt : bt (B l) (i : Int) = (x.toNat : Int) := by rw [B_bt l i hi, hx]
  have hw : wrap64 ((i : Int) + 1) = ((i + 1 : Nat) : Int) := by rw [w64 (by omega) (by omega)]; omega
  have he1 : (B l).extract 0 ((i : Int)).toNat = B (l.take i) := by rw [Int.toNat_natCast, B_to]
  have he2 : (B l).extract ((i : Int)).toNat (B l).size = B (l.drop i) := by rw [Int.toNat_natCast, B_from l i _ (B_size l)]
  have hsz := B_size l
  have hc : ((i : Int) ≤ ((B l).size : Int)) := by omega
  rw [tags_named.l0, if_pos (by omega), if_pos (by omega), hbt, small_f, hw, he1, he2, digit_f]
  simp only [if_pos hc, Option.bind_some]
  unfold okN
  by_cases hs : sm x = true
  · rw [if_pos hs, if_pos hs, if_pos rfl]
  · rw [if_neg hs, if_neg hs]
    by_cases h0 : 0 < i
    · rw [if_pos (by omega), if_pos h0]
      by_cases hg : dg x = true
      · rw [if_pos hg, if_pos hg, if_pos rfl]
      · rw [if_neg hg, if_neg hg]
        cases d with
        | false => simp
        | true =>
          rw [if_pos rfl, if_pos rfl]
          have e45 : ((x.toNat : Int) = 45) ↔ x = 45 := u8_eq x 45 (by decide)
          by_cases h45 : x = 45
          · rw [if_pos (e45.2 h45), if_pos (decide_eq_true h45)]
          · rw [if_neg (fun e => h45 (e45.1 e)), if_neg (by simpa using h45)]
    · rw [if_neg (by omega), if_neg h0, if_neg (by decide)]
theorem named_end (d : Bool) (l : List UInt8) (k : Nat) : tags_named.l0 (k + 1) (B l) d (l.length : Int) = some (B l, B []) := by
  have hsz := B_size l
  rw [tags_named.l0, if_neg (by omega), if_pos (by omega), if_pos (by omega), Int.toNat_natCast, B_to, B_from l _ _ hsz, List.take_length, List.drop_length]
theorem named_at (d : Bool) (l : List UInt8) (hl : l.length ≤ 1099511627776) : ∀ (m i : Nat), m = l.length - i → i ≤ l.length → Ev (fun k => tags_named.l0 k (B l) d (i : Int)) (B (l.take (i + nm d i (l.drop i))), B (l.drop (i + nm d i (l.drop i))))
  | 0, i, hm, hi => by
    obtain rfl : i = l.length := by omega
    rw [List.drop_length]
    refine Ev.step (fun k => named_end d l k) ?_
    rw [show nm d l.length [] = 0 from rfl, Nat.add_zero, List.take_length, List.drop_length]
    exact Ev.now _
  | m + 1, i, hm, hi => by
    have hlt : i < l.length := by omega
    have hd := List.drop_eq_getElem_cons hlt
    obtain ⟨x, hx⟩ : ∃ x, l[i] = x := ⟨_, rfl⟩
    rw [hx] at hd
    have ih := named_at d l hl m (i + 1) (by omega) (by omega)
    by_cases ho : okN d i x = true
    · refine Ev.step (f := fun k => tags_named.l0 k (B l) d ((i + 1 : Nat) : Int)) (fun k => by rw [named_body d l hl k i x _ hd, if_pos ho]) ?_
      rw [hd, nm, if_pos ho, show i + (nm d (i + 1) (List.drop (i + 1) l) + 1) = (i + 1) + nm d (i + 1) (List.drop (i + 1) l) by omega]
      exact ih
    · refine Ev.step (f := fun _ => some (B (l.take i), B (l.drop i))) (fun k => by rw [named_body d l hl k i x _ hd, if_neg ho]) ?_
      have e0 : nm d i (l.drop i) = 0 := by rw [hd, nm, if_neg ho]
      simp only [e0, Nat.add_zero]
      exact Ev.now _
theorem named_ev (l : List UInt8) (hl : l.length ≤ 1099511627776) (d : Bool) : Ev (fun k => tags_named.f k (B l) d) (B (l.take (nm d 0 l)), B (l.drop (nm d 0 l))) := by
  have := named_at d l hl l.length 0 rfl (Nat.zero_le _)
  rw [Nat.zero_add, List.drop_zero] at this
  exact this
theorem cutp (l p : List UInt8) : strings_CutPrefix.f (B l) (B p) = some (B (Lib.trimPrefix l p), p.isPrefixOf l) := by
  unfold strings_CutPrefix.f Lib.hasPrefix
  rw [B_data, B_data]
  rfl
/-- A text up to the first quote. -/
def up34 : List UInt8 → List UInt8
  | [] => []
  | x :: t => if x = 34 then [] else x :: up34 t
theorem up34_take : ∀ t : List UInt8, t.take (up34 t).length = up34 t
  | [] => rfl
  | x :: t => by
    unfold up34
    split
    · rfl
    · rw [List.length_cons, List.take_succ_cons, up34_take t]
theorem idx34 : ∀ t : List UInt8, Lib.index t [34] = if (34 : UInt8) ∈ t then ((up34 t).length : Int) else -1
  | [] => by rw [if_neg (by simp)]; rfl
  | x :: t => by
    rw [Lib.index, up34]
    by_cases hx : x = 34
    · subst hx
      rw [if_pos (by simp [List.isPrefixOf]), if_pos (by simp), if_pos rfl]
      rfl
    · have hm : (34 : UInt8) ∈ x :: t ↔ (34 : UInt8) ∈ t := by rw [List.mem_cons]; exact ⟨fun h => h.resolve_left (fun e => hx e.symm), .inr⟩
      rw [if_neg (by simp [List.isPrefixOf] <;> exact fun e => hx e.symm), idx34 t, if_neg hx]
      by_cases h : (34 : UInt8) ∈ t
      · rw [if_pos h, if_pos (hm.2 h), if_neg (by simp <;> omega)]
        simp
      · rw [if_neg h, if_neg (fun e => h (hm.1 e))]
        rfl
theorem cut34 (t : List UInt8) : Lib.cut t [34] = if (34 : UInt8) ∈ t then (up34 t, t.drop ((up34 t).length + 1), true) else (t, [], false) := by
  unfold Lib.cut
  rw [idx34]
  by_cases h : (34 : UInt8) ∈ t
  · rw [if_pos h, if_pos (by omega), if_pos h, Int.toNat_natCast, up34_take]
    rfl
  · rw [if_neg h, if_neg (by decide), if_neg h]
/-- A value, up to its quote. -/
def vl : List UInt8 → Option (List UInt8)
  | [] => none
  | x :: t => if x = 34 then some [] else if x = 60 ∨ x = 62 then none else (vl t).map (x :: ·)
def ang (x : UInt8) : Bool := decide (x = 60) || decide (x = 62)
theorem vl_eq : ∀ t : List UInt8, vl t = if (34 : UInt8) ∈ t then (if (up34 t).any ang = true then none else some (up34 t)) else none
  | [] => rfl
  | x :: t => by
    rw [vl, up34]
    by_cases hx : x = 34
    · rw [if_pos hx, if_pos hx, if_pos (by rw [hx]; exact List.mem_cons_self), if_neg (by simp)]
    · have hm : (34 : UInt8) ∈ x :: t ↔ (34 : UInt8) ∈ t := by rw [List.mem_cons]; exact ⟨fun h => h.resolve_left (fun e => hx e.symm), .inr⟩
      rw [if_neg hx, if_neg hx, vl_eq t]
      by_cases h : (34 : UInt8) ∈ t
      · rw [if_pos h, if_pos (hm.2 h), List.any_cons]
        by_cases ha : x = 60 ∨ x = 62
        · rw [if_pos ha, if_pos (by unfold ang; rcases ha with e | e <;> rw [e] <;> rfl)]
        · rw [if_neg ha, show ang x = false by unfold ang; rw [decide_eq_false (fun e => ha (.inl e)), decide_eq_false (fun e => ha (.inr e))]; rfl, Bool.false_or]
          by_cases hb : (up34 t).any ang = true
          · rw [if_pos hb, if_pos hb]; rfl
          · rw [if_neg hb, if_neg hb]; rfl
      · rw [if_neg h, if_neg (fun e => h (hm.1 e))]
        split <;> rfl
theorem vl_len : ∀ (t u : List UInt8), vl t = some u → u.length + 1 ≤ t.length
  | [], u, h => by cases h
  | x :: t, u, h => by
    rw [vl] at h
    split at h
    · cases h; simp
    · split at h
      · cases h
      · obtain ⟨v, hv, rfl⟩ := Option.map_eq_some_iff.1 h
        have := vl_len t v hv
        simp only [List.length_cons]
        omega
theorem ia_any : ∀ l : List UInt8, decide (Lib.indexAny l [60, 62] ≥ 0) = l.any ang
  | [] => rfl
  | x :: t => by
    have ih := ia_any t
    have hge := Lib.indexAny_ge [60, 62] t
    rw [Lib.indexAny, List.any_cons]
    have ha : ([60, 62] : List UInt8).contains x = ang x := by unfold ang; rw [Bool.eq_iff_iff]; simp
    rw [ha]
    by_cases hx : ang x = true
    · rw [if_pos hx, hx, Bool.true_or]; rfl
    · rw [if_neg hx, Bool.eq_false_iff.2 hx, Bool.false_or, ← ih]
      by_cases hm : Lib.indexAny t [60, 62] = -1
      · rw [if_pos (by rw [hm]; rfl), hm]
      · rw [if_neg (by rw [beq_iff_eq]; exact hm), decide_eq_true (by omega), decide_eq_true (by omega)]
/-- An attribute, and how long it is. -/
def att : List UInt8 → Option (S45 × Nat)
  | [] => none
  | x :: r => if x = 32 then (if nm true 0 r = 0 then none else if ([61, 34] : List UInt8).isPrefixOf (r.drop (nm true 0 r)) = true then (vl (r.drop (nm true 0 r + 2))).map (fun u => (⟨B (r.take (nm true 0 r)), B u⟩, nm true 0 r + u.length + 4)) else none) else none
theorem att_len (l : List UInt8) (a) (c : Nat) (h : att l = some (a, c)) : 0 < c ∧ c ≤ l.length := by
  cases l with
  | nil => cases h
  | cons x r =>
    rw [att] at h
    split at h
    · split at h
      · cases h
      · split at h
        · obtain ⟨u, hu, e⟩ := Option.map_eq_some_iff.1 h
          cases e
          have := vl_len _ _ hu
          rw [List.length_drop] at this
          rw [List.length_cons]
          omega
        · cases h
    · cases h
def attR (l : List UInt8) : ByteArray × ByteArray × ByteArray × Bool := match att l with
  | none => (⟨#[]⟩, ⟨#[]⟩, B l, false)
  | some (a, c) => (a.f0, a.f1, B (l.drop c), true)
theorem attr_ev (l : List UInt8) (hl : l.length ≤ 1073741824) : Ev (fun k => tags_attribute.f k (B l)) (attR l) := by
  obtain ⟨r, hr⟩ : ∃ r, Lib.trimPrefix l [32] = r := ⟨_, rfl⟩
  have hrl : r.length ≤ l.length := by rw [← hr]; unfold Lib.trimPrefix; split <;> simp
  have hn := nm_le true r 0
  have c1 : strings_CutPrefix.f (B l) (⟨#[32]⟩ : ByteArray) = some (B r, ([32] : List UInt8).isPrefixOf l) := by rw [← hr]; exact cutp l [32]
  simp only [tags_attribute.f, c1, Option.bind_some]
  refine Ev.bind (named_ev r (by omega) true) (Ev.const ?_)
  obtain ⟨q, hq⟩ : ∃ q, r.drop (nm true 0 r) = q := ⟨_, rfl⟩
  have c2 : strings_CutPrefix.f (B q) (⟨#[61, 34]⟩ : ByteArray) = some (B (Lib.trimPrefix q [61, 34]), ([61, 34] : List UInt8).isPrefixOf q) := cutp q [61, 34]
  have hql : q.length ≤ r.length := by rw [← hq, List.length_drop]; omega
  obtain ⟨v, hv⟩ : ∃ v, Lib.trimPrefix q [61, 34] = v := ⟨_, rfl⟩
  have hvl : v.length ≤ q.length := by rw [← hv]; unfold Lib.trimPrefix; split <;> simp
  have c3 : strings_Cut.f (B v) (⟨#[34]⟩ : ByteArray) = some (B (if (34 : UInt8) ∈ v then up34 v else v), B (if (34 : UInt8) ∈ v then v.drop ((up34 v).length + 1) else []), decide ((34 : UInt8) ∈ v)) := by
    unfold strings_Cut.f
    rw [if_pos (by rw [B_size]; omega), B_data, show (⟨#[34]⟩ : ByteArray).data.toList = [34] from rfl, cut34]
    by_cases h : (34 : UInt8) ∈ v
    · simp only [if_pos h, decide_eq_true h]; rfl
    · simp only [if_neg h, decide_eq_false h]; rfl
  dsimp only
  rw [hq, c2, hv]
  simp only [Option.bind_some]
  rw [c3]
  simp only [Option.bind_some]
  unfold attR
  cases l with
  | nil =>
    rw [if_neg (by decide)]
    rfl
  | cons x t =>
    by_cases hx : x = 32
    · subst hx
      obtain rfl : t = r := by rw [← hr]; simp [Lib.trimPrefix, Lib.hasPrefix, List.isPrefixOf]
      rw [if_pos (by simp [List.isPrefixOf]), att, if_pos rfl, B_toList]
      by_cases h0 : nm true 0 t = 0
      · rw [if_pos (by rw [h0]; rfl), if_pos h0]
      · rw [if_neg (fun e => h0 (by have h1 := congrArg List.length e; rw [List.length_take, List.length_nil] at h1; omega)), if_neg h0, hq]
        by_cases hp : ([61, 34] : List UInt8).isPrefixOf q = true
        · have hv2 : v = q.drop 2 := by rw [← hv]; unfold Lib.trimPrefix Lib.hasPrefix; rw [if_pos hp]; rfl
          have hvd : v = t.drop (nm true 0 t + 2) := by rw [hv2, ← hq, List.drop_drop]
          rw [if_pos hp, if_pos hp, ← hvd, vl_eq]
          by_cases h34 : (34 : UInt8) ∈ v
          · simp only [decide_eq_true h34, if_pos h34, if_true]
            have c4 : strings_ContainsAny.f (B (up34 v)) (⟨#[60, 62]⟩ : ByteArray) = some ((up34 v).any ang) := by
              have hul : (up34 v).length ≤ v.length := by have := congrArg List.length (up34_take v); rw [List.length_take] at this; omega
              unfold strings_ContainsAny.f strings_IndexAny.f
              rw [if_pos ⟨by decide, by decide, by rw [B_size]; omega, by decide⟩, B_data, Option.bind_some, show (⟨#[60, 62]⟩ : ByteArray).data.toList = [60, 62] from rfl, ia_any]
            rw [c4, Option.bind_some]
            by_cases ha : (up34 v).any ang = true
            · rw [if_pos ha, if_pos ha]
              rfl
            · rw [if_neg ha, if_neg ha]
              show some (B _, B _, B _, true) = some (B _, B _, B _, true)
              rw [hvd, List.drop_drop]
              congr 5
              rw [show nm true 0 t + (up34 (List.drop (nm true 0 t + 2) t)).length + 4 = (nm true 0 t + 2 + ((up34 (List.drop (nm true 0 t + 2) t)).length + 1)) + 1 by omega, List.drop_succ_cons]
          · simp only [decide_eq_false h34, if_neg h34]
            rw [if_neg (by decide)]
            rfl
        · rw [if_neg hp, if_neg hp]
    · rw [if_neg (by simp [List.isPrefixOf] <;> exact fun e => hx e.symm), att, if_neg hx]
end Go.Proofs.Ytjcfjgcnkbbgmaa.Pure

namespace Go.Proofs.Ytjcfjgcnkbbgmaa.PA
open Go.RowKit Go.Proofs.YtjcfjgcnkbbgmaaW.PrintWords Go.Proofs.YtjcfjgcnkbbgmaaW.PrintLast Go.Proofs.YtjcfjgcnkbbgmaaW.PrintMore
attribute [local go_sem] max2_int min2_int max_two min_two max_three min_three max_four min_four   -- for this text's walks alone
set_option linter.unusedVariables false
set_option linter.unusedSimpArgs false

/-! ### incipitref21_Read: function 9 -/
end Go.Proofs.Ytjcfjgcnkbbgmaa.PA

namespace Go.Proofs.Ytjcfjgcnkbbgmaa.Pure
open Go.RowKit Go.Proofs.YtjcfjgcnkbbgmaaW.PrintWords Go.Proofs.YtjcfjgcnkbbgmaaW.PrintMore Go.Proofs.Ytjcfjgcnkbbgmaa.Pl Go.Proofs.Ytjcfjgcnkbbgmaa.PA

/-- The attributes a text begins with, and what is left. -/
def ats : Nat → List UInt8 → List S45 × List UInt8
  | 0, l => ([], l)
  | f + 1, l => match att l with
    | none => ([], l)
    | some (a, c) => (a :: (ats f (l.drop c)).1, (ats f (l.drop c)).2)
theorem ats_none (f : Nat) (l : List UInt8) (h : att l = none) : ats f l = ([], l) := by
  cases f with
  | zero => rfl
  | succ f => rw [ats, h]
theorem ats_some (f : Nat) (l : List UInt8) (a) (c : Nat) (h : att l = some (a, c)) : ats (f + 1) l = (a :: (ats f (l.drop c)).1, (ats f (l.drop c)).2) := by rw [ats, h]
theorem ats_len : ∀ (f : Nat) (l : List UInt8), (ats f l).1.length + (ats f l).2.length ≤ l.length
  | 0, l => by simp [ats]
  | f + 1, l => by
    cases h : att l with
    | none => rw [ats_none _ _ h]; simp
    | some q =>
      obtain ⟨a, c⟩ := q
      rw [ats_some f l a c h]
      have h1 := att_len l a c h
      have h2 := ats_len f (l.drop c)
      rw [List.length_drop] at h2
      simp only [List.length_cons]
      omega
def endB (nz name : ByteArray) (e v : Bool) (aa : List S45) (r : List UInt8) : ByteArray × Bool × Bool × List S45 × ByteArray × Bool :=
  if ([32, 47, 62] : List UInt8).isPrefixOf r = true then (name, e, true, aa, B (r.drop 3), (nz.toList != ([] : List UInt8)))
  else if ([62] : List UInt8).isPrefixOf r = true then (name, e, v, aa, B (r.drop 1), (nz.toList != ([] : List UInt8))) else (name, e, v, aa, B r, false)
theorem trimp {l p : List UInt8} (h : p.isPrefixOf l = true) : Lib.trimPrefix l p = l.drop p.length := by unfold Lib.trimPrefix Lib.hasPrefix; rw [if_pos h]
theorem trimn {l p : List UInt8} (h : ¬ p.isPrefixOf l = true) : Lib.trimPrefix l p = l := by unfold Lib.trimPrefix Lib.hasPrefix; rw [if_neg h]
theorem begin_at (nz name : ByteArray) (e v : Bool) : ∀ (f : Nat) (l : List UInt8) (acc : List S45), l.length ≤ f → l.length + acc.length ≤ 1073741824 → Ev (fun k => tags_beginning.l0 k nz (B l) name e v acc) (endB nz name e v (acc ++ (ats f l).1) (ats f l).2) := by
  intro f
  induction f with
  | zero =>
    intro l acc h1 h2
    obtain rfl : l = [] := List.length_eq_zero_iff.1 (by omega)
    refine Ev.step (f := fun k => (tags_attribute.f k (B [])).bind fun bt120 => (if bt120.2.2.2 = true then (if acc.length < 4398046511104 then (tags_beginning.l0 k nz bt120.2.2.1 name e v (acc ++ [(⟨bt120.1, bt120.2.1⟩ : S45)])) else (none)) else ((strings_CutPrefix.f (B []) (⟨#[32, 47, 62]⟩ : ByteArray)).bind fun bt128 => (if bt128.2 = true then (some (name, e, true, acc, bt128.1, (nz.toList != ([] : List UInt8)))) else ((strings_CutPrefix.f (B []) (⟨#[62]⟩ : ByteArray)).bind fun bt130 => (if bt130.2 = true then (some (name, e, v, acc, bt130.1, (nz.toList != ([] : List UInt8)))) else (some (name, e, v, acc, bt130.1, false)))))))) (fun k => by rw [tags_beginning.l0]) ?_
    refine Ev.bind (attr_ev [] (by simp)) (Ev.const ?_)
    simp [attR, att, ats, endB, List.isPrefixOf]
    rfl
  | succ f ih =>
    intro l acc h1 h2
    refine Ev.step (f := fun k => (tags_attribute.f k (B l)).bind fun bt120 => (if bt120.2.2.2 = true then (if acc.length < 4398046511104 then (tags_beginning.l0 k nz bt120.2.2.1 name e v (acc ++ [(⟨bt120.1, bt120.2.1⟩ : S45)])) else (none)) else ((strings_CutPrefix.f (B l) (⟨#[32, 47, 62]⟩ : ByteArray)).bind fun bt128 => (if bt128.2 = true then (some (name, e, true, acc, bt128.1, (nz.toList != ([] : List UInt8)))) else ((strings_CutPrefix.f (B l) (⟨#[62]⟩ : ByteArray)).bind fun bt130 => (if bt130.2 = true then (some (name, e, v, acc, bt130.1, (nz.toList != ([] : List UInt8)))) else (some (name, e, v, acc, bt130.1, false)))))))) (fun k => by rw [tags_beginning.l0]) ?_
    refine Ev.bind (attr_ev l (by omega)) ?_
    cases h : att l with
    | none =>
      rw [show attR l = (⟨#[]⟩, ⟨#[]⟩, B l, false) by unfold attR; rw [h], ats_none _ _ h, List.append_nil]
      refine Ev.congr (f := fun _ => ((strings_CutPrefix.f (B l) (⟨#[32, 47, 62]⟩ : ByteArray)).bind fun bt128 => (if bt128.2 = true then (some (name, e, true, acc, bt128.1, (nz.toList != ([] : List UInt8)))) else ((strings_CutPrefix.f (B l) (⟨#[62]⟩ : ByteArray)).bind fun bt130 => (if bt130.2 = true then (some (name, e, v, acc, bt130.1, (nz.toList != ([] : List UInt8)))) else (some (name, e, v, acc, bt130.1, false))))))) (fun k => rfl) (Ev.const ?_)
      have c1 : strings_CutPrefix.f (B l) (⟨#[32, 47, 62]⟩ : ByteArray) = some (B (Lib.trimPrefix l [32, 47, 62]), ([32, 47, 62] : List UInt8).isPrefixOf l) := cutp l [32, 47, 62]
      have c2 : strings_CutPrefix.f (B l) (⟨#[62]⟩ : ByteArray) = some (B (Lib.trimPrefix l [62]), ([62] : List UInt8).isPrefixOf l) := cutp l [62]
      rw [c1, Option.bind_some]
      unfold endB
      by_cases p1 : ([32, 47, 62] : List UInt8).isPrefixOf l = true
      · rw [if_pos p1, if_pos p1, trimp p1]
        rfl
      · rw [if_neg p1, if_neg p1, c2, Option.bind_some]
        by_cases p2 : ([62] : List UInt8).isPrefixOf l = true
        · rw [if_pos p2, if_pos p2, trimp p2]
          rfl
        · rw [if_neg p2, if_neg p2, trimn p2]
    | some q =>
      obtain ⟨a, c⟩ := q
      have h3 := att_len l a c h
      rw [ats_some f l a c h]
      refine Ev.congr (f := fun k => tags_beginning.l0 k nz (B (l.drop c)) name e v (acc ++ [a])) (fun k => by rw [show attR l = (a.f0, a.f1, B (l.drop c), true) by unfold attR; rw [h], if_pos rfl, if_pos (by omega)]) ?_
      have := ih (l.drop c) (acc ++ [a]) (by rw [List.length_drop]; omega) (by rw [List.length_drop, List.length_append, List.length_singleton]; omega)
      rw [List.append_assoc, List.singleton_append] at this
      exact this
theorem begin_ev (t : List UInt8) (ht : t.length ≤ 1073741824) : Ev (fun k => tags_beginning.f k (B t)) (endB (B (t.take (nm false 0 t))) (B (t.take (nm false 0 t))) false false (ats t.length (t.drop (nm false 0 t))).1 (ats t.length (t.drop (nm false 0 t))).2) := by
  unfold tags_beginning.f
  refine Ev.bind (named_ev t (by omega) false) ?_
  have := begin_at (B (t.take (nm false 0 t))) (B (t.take (nm false 0 t))) false false t.length (t.drop (nm false 0 t)) [] (by rw [List.length_drop]; omega) (by rw [List.length_drop]; simp; omega)
  rw [List.nil_append] at this
  exact this
def zT : ByteArray × Bool × Bool × List S45 × Int := (⟨#[]⟩, false, false, [], 0)
/-- The tag a text begins with, and how long it is; 0: there is none. -/
def rdE (u : List UInt8) : ByteArray × Bool × Bool × List S45 × Int :=
  if nm false 0 u = 0 then zT else if ([62] : List UInt8).isPrefixOf (u.drop (nm false 0 u)) = true then (B (u.take (nm false 0 u)), true, false, [], ((nm false 0 u + 3 : Nat) : Int)) else zT
def rdB (t : List UInt8) : ByteArray × Bool × Bool × List S45 × Int :=
  if nm false 0 t = 0 then zT
  else if ([62] : List UInt8).isPrefixOf (ats t.length (t.drop (nm false 0 t))).2 = true then (B (t.take (nm false 0 t)), false, false, (ats t.length (t.drop (nm false 0 t))).1, ((t.length + 1 - (ats t.length (t.drop (nm false 0 t))).2.length + 1 : Nat) : Int))
  else if ([32, 47, 62] : List UInt8).isPrefixOf (ats t.length (t.drop (nm false 0 t))).2 = true then (B (t.take (nm false 0 t)), false, true, (ats t.length (t.drop (nm false 0 t))).1, ((t.length + 1 - (ats t.length (t.drop (nm false 0 t))).2.length + 3 : Nat) : Int)) else zT
def rdT : List UInt8 → ByteArray × Bool × Bool × List S45 × Int
  | [] => zT
  | x :: t => if x = 60 then (if ([47] : List UInt8).isPrefixOf t = true then rdE (t.drop 1) else rdB t) else zT
theorem not_both (r : List UInt8) (h : ([62] : List UInt8).isPrefixOf r = true) : ¬ ([32, 47, 62] : List UInt8).isPrefixOf r = true := by
  cases r with
  | nil => simp [List.isPrefixOf] at h
  | cons x r =>
    simp only [List.isPrefixOf, Bool.and_true, beq_iff_eq] at h
    subst h
    simp [List.isPrefixOf]
theorem read_ev (l : List UInt8) (hl : l.length ≤ 1073741824) : Ev (fun k => tags_Read.f k (B l)) (rdT l) := by
  cases l with
  | nil =>
    refine Ev.congr (f := fun _ => some zT) (fun k => ?_) (Ev.now _)
    unfold tags_Read.f
    rw [show strings_CutPrefix.f (B []) (⟨#[60]⟩ : ByteArray) = some (B [], false) from cutp [] [60], Option.bind_some, if_neg (by decide)]
    rfl
  | cons x t =>
    rw [List.length_cons] at hl
    have c1 : strings_CutPrefix.f (B (x :: t)) (⟨#[60]⟩ : ByteArray) = some (B (Lib.trimPrefix (x :: t) [60]), ([60] : List UInt8).isPrefixOf (x :: t)) := cutp (x :: t) [60]
    by_cases hx : x = 60
    · subst hx
      have p0 : ([60] : List UInt8).isPrefixOf (60 :: t) = true := by simp [List.isPrefixOf]
      rw [trimp p0, p0, show ((60 : UInt8) :: t).drop ([60] : List UInt8).length = t from rfl] at c1
      have c2 : strings_CutPrefix.f (B t) (⟨#[47]⟩ : ByteArray) = some (B (Lib.trimPrefix t [47]), ([47] : List UInt8).isPrefixOf t) := cutp t [47]
      have hsz : ((B (60 :: t)).size : Int) = (t.length : Int) + 1 := by rw [B_size, List.length_cons]; omega
      simp only [tags_Read.f, c1, Option.bind_some, if_true]
      refine Ev.bind (begin_ev t (by omega)) ?_
      simp only [c2, Option.bind_some]
      rw [rdT, if_pos rfl]
      by_cases p1 : ([47] : List UInt8).isPrefixOf t = true
      · simp only [p1, if_true]
        rw [trimp p1, show ([47] : List UInt8).length = 1 from rfl]
        have hu : (t.drop 1).length + 1 ≤ t.length := by
          have := (List.isPrefixOf_iff_prefix.1 p1).length_le
          rw [List.length_drop]
          simp at this
          omega
        obtain ⟨u, hu2⟩ : ∃ u, t.drop 1 = u := ⟨_, rfl⟩
        rw [hu2] at hu ⊢
        have hul : u.length + 1 = t.length := by
          have := (List.isPrefixOf_iff_prefix.1 p1).length_le
          rw [← hu2, List.length_drop]
          simp at this
          omega
        have hnu := nm_le false u 0
        have c3 : strings_CutPrefix.f (B (u.drop (nm false 0 u))) (⟨#[62]⟩ : ByteArray) = some (B (Lib.trimPrefix (u.drop (nm false 0 u)) [62]), ([62] : List UInt8).isPrefixOf (u.drop (nm false 0 u))) := cutp _ [62]
        have he : Ev (fun k => tags_ending.f k (B u)) (if ([62] : List UInt8).isPrefixOf (u.drop (nm false 0 u)) = true then (B (u.take (nm false 0 u)), true, false, [], B ((u.drop (nm false 0 u)).drop 1), ((B (u.take (nm false 0 u))).toList != ([] : List UInt8))) else (B (u.take (nm false 0 u)), true, false, [], B (u.drop (nm false 0 u)), false)) := by
          unfold tags_ending.f
          refine Ev.bind (named_ev u (by omega) false) (Ev.const ?_)
          dsimp only
          rw [c3, Option.bind_some]
          by_cases p2 : ([62] : List UInt8).isPrefixOf (u.drop (nm false 0 u)) = true
          · rw [if_pos p2, if_pos p2, trimp p2]
            rfl
          · rw [if_neg p2, if_neg p2, trimn p2]
        refine Ev.bind he (Ev.const ?_)
        unfold rdE
        by_cases p2 : ([62] : List UInt8).isPrefixOf (u.drop (nm false 0 u)) = true
        · have h2 := (List.isPrefixOf_iff_prefix.1 p2).length_le
          rw [List.length_drop] at h2
          simp only [List.length_singleton] at h2
          rw [if_pos p2, if_pos p2]
          show (if ((B (u.take (nm false 0 u))).toList != ([] : List UInt8)) = true then some (B (u.take (nm false 0 u)), true, false, ([] : List S45), wrap64 (((B (60 :: t)).size : Int) - ((B ((u.drop (nm false 0 u)).drop 1)).size : Int))) else some zT) = _
          rw [B_toList]
          by_cases h0 : nm false 0 u = 0
          · rw [if_pos h0, h0, List.take_zero, if_neg (by decide)]
          · rw [if_neg h0, if_pos (by rw [bne_iff_ne]; exact fun e => h0 (by have h1 := congrArg List.length e; rw [List.length_take, List.length_nil] at h1; omega))]
            rw [hsz, B_size, List.drop_drop, List.length_drop, w64 (by omega) (by omega), show (t.length : Int) + 1 - ((u.length - (nm false 0 u + 1) : Nat) : Int) = ((nm false 0 u + 3 : Nat) : Int) by omega]
        · rw [if_neg p2, if_neg p2]
          exact congrArg some (ite_self (c := nm false 0 u = 0) zT).symm
      · simp only [Bool.eq_false_iff.2 p1]
        refine Ev.const ?_
        have hn := nm_le false t 0
        obtain ⟨q, hq⟩ : ∃ q, ats t.length (t.drop (nm false 0 t)) = q := ⟨_, rfl⟩
        have hql := ats_len t.length (t.drop (nm false 0 t))
        rw [hq, List.length_drop] at hql
        have hb : (List.take (nm false 0 t) t != ([] : List UInt8)) = !decide (nm false 0 t = 0) := by
          rw [Bool.eq_iff_iff]
          simp only [bne_iff_ne, ne_eq, Bool.not_eq_true', decide_eq_false_iff_not]
          refine not_congr ⟨fun e => ?_, fun e => by rw [e]; rfl⟩
          have h1 := congrArg List.length e
          rw [List.length_take, List.length_nil] at h1
          omega
        have key : ∀ (v : Bool) (m : Nat), m ≤ q.2.length → (if ((B (t.take (nm false 0 t))).toList != ([] : List UInt8)) = true then some (B (t.take (nm false 0 t)), false, v, q.1, wrap64 (((B (60 :: t)).size : Int) - ((B (q.2.drop m)).size : Int))) else some zT) =
            some (if nm false 0 t = 0 then zT else (B (t.take (nm false 0 t)), false, v, q.1, ((t.length + 1 - q.2.length + m : Nat) : Int))) := by
          intro v m hm
          rw [B_toList, hb, hsz, B_size, List.length_drop, w64 (by omega) (by omega)]
          by_cases h0 : nm false 0 t = 0
          · rw [decide_eq_true h0, if_neg (by decide), if_pos h0]
          · rw [decide_eq_false h0, if_pos (by decide), if_neg h0, show (t.length : Int) + 1 - ((q.2.length - m : Nat) : Int) = ((t.length + 1 - q.2.length + m : Nat) : Int) by omega]
        unfold rdB
        rw [hq]
        by_cases p3 : ([32, 47, 62] : List UInt8).isPrefixOf q.2 = true
        · have p2 : ¬ ([62] : List UInt8).isPrefixOf q.2 = true := fun h => not_both _ h p3
          have h3 := (List.isPrefixOf_iff_prefix.1 p3).length_le
          rw [if_neg p2, if_pos p3]
          have e1 : endB (B (t.take (nm false 0 t))) (B (t.take (nm false 0 t))) false false q.1 q.2 = (B (t.take (nm false 0 t)), false, true, q.1, B (q.2.drop 3), ((B (t.take (nm false 0 t))).toList != ([] : List UInt8))) := by unfold endB; rw [if_pos p3]
          rw [e1]
          exact key true 3 h3
        · by_cases p2 : ([62] : List UInt8).isPrefixOf q.2 = true
          · have h3 := (List.isPrefixOf_iff_prefix.1 p2).length_le
            rw [if_pos p2]
            have e1 : endB (B (t.take (nm false 0 t))) (B (t.take (nm false 0 t))) false false q.1 q.2 = (B (t.take (nm false 0 t)), false, false, q.1, B (q.2.drop 1), ((B (t.take (nm false 0 t))).toList != ([] : List UInt8))) := by unfold endB; rw [if_neg p3, if_pos p2]
            rw [e1]
            exact key false 1 h3
          · have e1 : endB (B (t.take (nm false 0 t))) (B (t.take (nm false 0 t))) false false q.1 q.2 = (B (t.take (nm false 0 t)), false, false, q.1, B q.2, false) := by unfold endB; rw [if_neg p3, if_neg p2]
            rw [e1, if_neg p2, if_neg p3]
            exact congrArg some (ite_self (c := nm false 0 t = 0) zT).symm
    · have p0 : ¬ ([60] : List UInt8).isPrefixOf (x :: t) = true := by simp [List.isPrefixOf] <;> exact fun e => hx e.symm
      refine Ev.congr (f := fun _ => some zT) (fun k => ?_) ?_
      · unfold tags_Read.f
        rw [c1, Option.bind_some, if_neg p0]
        rfl
      · rw [rdT, if_neg hx]
        exact Ev.now _
end Go.Proofs.Ytjcfjgcnkbbgmaa.Pure

namespace Go.Proofs.Ytjcfjgcnkbbgmaa.Pure
open Go.RowKit Go.Proofs.YtjcfjgcnkbbgmaaW.PrintWords Go.Proofs.YtjcfjgcnkbbgmaaW.PrintMore Go.Proofs.Ytjcfjgcnkbbgmaa.Pl Go.Proofs.Ytjcfjgcnkbbgmaa.PA

end Go.Proofs.Ytjcfjgcnkbbgmaa.Pure

namespace Go.Proofs.Ytjcfjgcnkbbgmaa.Pure
open Go.RowKit Go.Proofs.YtjcfjgcnkbbgmaaW.PrintWords Go.Proofs.YtjcfjgcnkbbgmaaW.PrintMore Go.Proofs.Ytjcfjgcnkbbgmaa.Pl Go.Proofs.Ytjcfjgcnkbbgmaa.PA

/-- How long the tag is that a text begins with, how many attributes it has. -/
theorem rd_len (l : List UInt8) : 0 ≤ (rdT l).2.2.2.2 ∧ (rdT l).2.2.2.2 ≤ (l.length : Int) ∧ ((rdT l).2.2.2.1.length : Int) ≤ (rdT l).2.2.2.2 := by
  cases l with
  | nil => exact ⟨Int.le_refl _, Int.le_refl _, Int.le_refl _⟩
  | cons x t =>
    have z : 0 ≤ zT.2.2.2.2 ∧ zT.2.2.2.2 ≤ (((x :: t).length : Nat) : Int) ∧ (zT.2.2.2.1.length : Int) ≤ zT.2.2.2.2 := ⟨Int.le_refl _, Int.natCast_nonneg _, Int.le_refl _⟩
    rw [rdT]
    split
    · split
      · rename_i p1
        obtain ⟨u, rfl⟩ := List.isPrefixOf_iff_prefix.1 p1
        show 0 ≤ (rdE u).2.2.2.2 ∧ (rdE u).2.2.2.2 ≤ _ ∧ ((rdE u).2.2.2.1.length : Int) ≤ (rdE u).2.2.2.2
        unfold rdE
        have hn := nm_le false u 0
        split
        · exact z
        · split
          · rename_i p2
            have h2 := (List.isPrefixOf_iff_prefix.1 p2).length_le
            rw [List.length_drop] at h2
            simp only [List.length_singleton] at h2
            refine ⟨Int.natCast_nonneg _, ?_, ?_⟩
            · show ((nm false 0 u + 3 : Nat) : Int) ≤ _
              simp only [List.length_cons, List.length_append, List.length_nil]
              omega
            · show ((0 : Nat) : Int) ≤ ((nm false 0 u + 3 : Nat) : Int)
              omega
          · exact z
      · unfold rdB
        have hn := nm_le false t 0
        obtain ⟨q, hq⟩ : ∃ q, ats t.length (t.drop (nm false 0 t)) = q := ⟨_, rfl⟩
        have hql := ats_len t.length (t.drop (nm false 0 t))
        rw [hq] at hql ⊢
        rw [List.length_drop] at hql
        split
        · exact z
        · split
          · rename_i p2
            have h2 := (List.isPrefixOf_iff_prefix.1 p2).length_le
            simp only [List.length_singleton] at h2
            refine ⟨Int.natCast_nonneg _, ?_, ?_⟩
            · show ((t.length + 1 - q.2.length + 1 : Nat) : Int) ≤ _
              simp only [List.length_cons]
              omega
            · show ((q.1.length : Nat) : Int) ≤ ((t.length + 1 - q.2.length + 1 : Nat) : Int)
              omega
          · split
            · rename_i p3
              have h2 := (List.isPrefixOf_iff_prefix.1 p3).length_le
              simp only [List.length_cons, List.length_nil] at h2
              refine ⟨Int.natCast_nonneg _, ?_, ?_⟩
              · show ((t.length + 1 - q.2.length + 3 : Nat) : Int) ≤ _
                simp only [List.length_cons]
                omega
              · show ((q.1.length : Nat) : Int) ≤ ((t.length + 1 - q.2.length + 3 : Nat) : Int)
                omega
            · exact z
    · exact z
/-- A tag, or a byte. -/
abbrev Tok := (ByteArray × Bool × Bool × List S45) ⊕ UInt8
def tok : Nat → List UInt8 → List Tok
  | 0, _ => []
  | _ + 1, [] => []
  | f + 1, x :: t => if (rdT (x :: t)).2.2.2.2 = 0 then .inr x :: tok f t else .inl ((rdT (x :: t)).1, (rdT (x :: t)).2.1, (rdT (x :: t)).2.2.1, (rdT (x :: t)).2.2.2.1) :: tok f ((x :: t).drop (rdT (x :: t)).2.2.2.2.toNat)
theorem tok_nil (f : Nat) : tok f [] = [] := by cases f <;> rfl
theorem tok_byte (f : Nat) (x : UInt8) (t : List UInt8) (h : (rdT (x :: t)).2.2.2.2 = 0) : tok (f + 1) (x :: t) = .inr x :: tok f t := by rw [tok, if_pos h]
theorem tok_tag (f : Nat) (x : UInt8) (t : List UInt8) (h : ¬ (rdT (x :: t)).2.2.2.2 = 0) : tok (f + 1) (x :: t) = .inl ((rdT (x :: t)).1, (rdT (x :: t)).2.1, (rdT (x :: t)).2.2.1, (rdT (x :: t)).2.2.2.1) :: tok f ((x :: t).drop (rdT (x :: t)).2.2.2.2.toNat) := by rw [tok, if_neg h]
theorem tok_more : ∀ (f g : Nat) (l : List UInt8), l.length ≤ f → l.length ≤ g → tok f l = tok g l := by
  intro f
  induction f with
  | zero => intro g l h1 h2; obtain rfl : l = [] := List.length_eq_zero_iff.1 (by omega); rw [tok_nil, tok_nil]
  | succ f ih =>
    intro g l h1 h2
    cases l with
    | nil => rw [tok_nil, tok_nil]
    | cons x t =>
      rw [List.length_cons] at h1 h2
      obtain ⟨g, rfl⟩ : ∃ m, g = m + 1 := ⟨g - 1, by omega⟩
      have hd := rd_len (x :: t)
      rw [List.length_cons] at hd
      by_cases h0 : (rdT (x :: t)).2.2.2.2 = 0
      · rw [tok_byte f x t h0, tok_byte g x t h0, ih g t (by omega) (by omega)]
      · rw [tok_tag f x t h0, tok_tag g x t h0, ih g _ (by rw [List.length_drop, List.length_cons]; omega) (by rw [List.length_drop, List.length_cons]; omega)]
def tk (l : List UInt8) : List Tok := tok l.length l
theorem tk_nil : tk [] = [] := rfl
theorem tk_byte (x : UInt8) (t : List UInt8) (h : (rdT (x :: t)).2.2.2.2 = 0) : tk (x :: t) = .inr x :: tk t := tok_byte t.length x t h
theorem tk_tag (x : UInt8) (t : List UInt8) (h : ¬ (rdT (x :: t)).2.2.2.2 = 0) : tk (x :: t) = .inl ((rdT (x :: t)).1, (rdT (x :: t)).2.1, (rdT (x :: t)).2.2.1, (rdT (x :: t)).2.2.2.1) :: tk ((x :: t).drop (rdT (x :: t)).2.2.2.2.toNat) := by
  have hd := rd_len (x :: t)
  rw [List.length_cons] at hd
  show tok (t.length + 1) (x :: t) = _
  rw [tok_tag t.length x t h]
  congr 1
  exact tok_more _ _ _ (by rw [List.length_drop, List.length_cons]; omega) (Nat.le_refl _)
/-- What is gathered over tags and bytes. -/
def run {σ : Type} (fT : σ → ByteArray → Bool → Bool → List S45 → Option (Option σ)) (fO : σ → Int → Option (Option σ)) : σ → List Tok → Option (Option σ)
  | x, [] => some (some x)
  | x, .inl t :: r => (fT x t.1 t.2.1 t.2.2.1 t.2.2.2).bind fun q => (match q with | none => some none | some y => run fT fO y r)
  | x, .inr b :: r => (fO x (b.toNat : Int)).bind fun q => (match q with | none => some none | some y => run fT fO y r)
theorem each_run {σ : Type} (fT : σ → ByteArray → Bool → Bool → List S45 → Option (Option σ)) (fO : σ → Int → Option (Option σ)) : ∀ (g : Nat) (l : List UInt8), l.length ≤ g → l.length ≤ 1073741823 →
    ∃ K, ∀ k, K ≤ k → ∀ f, l.length < f → ∀ x, tags_each.l fT fO k f (B l) x = run fT fO x (tk l) := by
  intro g
  induction g with
  | zero =>
    intro l h1 h2
    obtain rfl : l = [] := List.length_eq_zero_iff.1 (by omega)
    refine ⟨0, fun k _ f hf x => ?_⟩
    obtain ⟨f, rfl⟩ : ∃ m, f = m + 1 := ⟨f - 1, by simp at hf; omega⟩
    rw [tags_each.l, if_pos (B_toList []), tk_nil, run]
  | succ g ih =>
    intro l h1 h2
    cases l with
    | nil =>
      refine ⟨0, fun k _ f hf x => ?_⟩
      obtain ⟨f, rfl⟩ : ∃ m, f = m + 1 := ⟨f - 1, by simp at hf; omega⟩
      rw [tags_each.l, if_pos (B_toList []), tk_nil, run]
    | cons x0 t =>
      obtain ⟨K0, hK0⟩ : ∃ K, ∀ k, K ≤ k → tags_Read.f k (B (x0 :: t)) = some (rdT (x0 :: t)) := read_ev (x0 :: t) (by omega)
      have hd := rd_len (x0 :: t)
      rw [List.length_cons] at h1 h2 hd
      have hsz : ((B (x0 :: t)).size : Int) = (t.length : Int) + 1 := by rw [B_size, List.length_cons]; omega
      have hbt := B_bt (x0 :: t) 0 (by simp)
      rw [List.getElem_cons_zero] at hbt
      by_cases h0 : (rdT (x0 :: t)).2.2.2.2 = 0
      · obtain ⟨K1, hK1⟩ := ih t (by omega) (by omega)
        refine ⟨max K0 K1, fun k hk f hf x => ?_⟩
        obtain ⟨f, rfl⟩ : ∃ m, f = m + 1 := ⟨f - 1, by omega⟩
        rw [List.length_cons] at hf
        have he : (B (x0 :: t)).extract 1 (B (x0 :: t)).size = B t := by rw [B_from _ 1 _ (B_size _)]; rfl
        rw [tags_each.l, if_neg (by rw [B_toList]; simp), hK0 k (by omega), Option.bind_some, if_pos h0, show bt (B (x0 :: t)) 0 = (x0.toNat : Int) from hbt, he, tk_byte x0 t h0, run]
        congr 1
        funext q
        cases q with
        | none => rfl
        | some y => exact hK1 k (by omega) f (by omega) y
      · obtain ⟨d, hdd⟩ : ∃ d : Nat, (rdT (x0 :: t)).2.2.2.2 = (d : Int) := ⟨(rdT (x0 :: t)).2.2.2.2.toNat, by omega⟩
        have hdl : ((x0 :: t).drop d).length ≤ t.length := by rw [List.length_drop, List.length_cons]; omega
        obtain ⟨K1, hK1⟩ := ih ((x0 :: t).drop d) (by omega) (by omega)
        refine ⟨max K0 K1, fun k hk f hf x => ?_⟩
        obtain ⟨f, rfl⟩ : ∃ m, f = m + 1 := ⟨f - 1, by omega⟩
        rw [List.length_cons] at hf
        rw [tags_each.l, if_neg (by rw [B_toList]; simp), hK0 k (by omega), Option.bind_some, if_neg h0, if_pos ⟨hd.1, by omega⟩, tk_tag x0 t h0, hdd, Int.toNat_natCast, B_from _ _ _ (B_size _), run]
        congr 1
        funext q
        cases q with
        | none => rfl
        | some y => exact hK1 k (by omega) f (by omega) y
theorem each_ev {σ : Type} (fT : σ → ByteArray → Bool → Bool → List S45 → Option (Option σ)) (fO : σ → Int → Option (Option σ)) (l : List UInt8) (hl : l.length ≤ 1073741823) (x : σ) (r : Option σ) (h : run fT fO x (tk l) = some r) :
    Ev (fun k => tags_each.l fT fO k k (B l) x) r := by
  obtain ⟨K, hK⟩ := each_run fT fO l.length l (Nat.le_refl _) hl
  exact ⟨max K (l.length + 1), fun k hk => (hK k (by omega) k (by omega) x).trans h⟩
theorem tok_len : ∀ (f : Nat) (l : List UInt8), l.length ≤ f → (tok f l).length ≤ l.length := by
  intro f
  induction f with
  | zero => intro l h; simp [tok]
  | succ f ih =>
    intro l h
    cases l with
    | nil => simp [tok]
    | cons x t =>
      have hd := rd_len (x :: t)
      rw [List.length_cons] at h hd ⊢
      by_cases h0 : (rdT (x :: t)).2.2.2.2 = 0
      · rw [tok_byte f x t h0, List.length_cons]
        have := ih t (by omega)
        omega
      · rw [tok_tag f x t h0, List.length_cons]
        have h2 : ((x :: t).drop (rdT (x :: t)).2.2.2.2.toNat).length ≤ t.length := by rw [List.length_drop, List.length_cons]; omega
        have := ih _ (Nat.le_trans h2 (by omega))
        omega
theorem tk_len (l : List UInt8) : (tk l).length ≤ l.length := tok_len _ l (Nat.le_refl _)
/-! #### what is left of a text -/
/-! #### ids -/
def idsK : List Tok → List ByteArray
  | [] => []
  | .inl t :: r => idsL t.2.2.2 ++ idsK r
  | .inr _ :: r => idsK r
def attN : List Tok → Nat
  | [] => 0
  | .inl t :: r => t.2.2.2.length + attN r
  | .inr _ :: r => attN r
theorem run_ids : ∀ (ts : List Tok) (x : List ByteArray), x.length + attN ts ≤ 1048576 → run idsT idsO x ts = some (some (x ++ idsK ts))
  | [], x, _ => by rw [run, idsK, List.append_nil]
  | .inl t :: r, x, h => by
    rw [attN] at h
    rw [run, idsK]
    unfold idsT
    rw [if_pos (by omega)]
    have hl := idsL_len t.2.2.2
    have := run_ids r (x ++ idsL t.2.2.2) (by rw [List.length_append]; omega)
    rw [List.append_assoc] at this
    exact this
  | .inr b :: r, x, h => by
    rw [attN] at h
    rw [run, idsK]
    exact run_ids r x h
theorem tok_att : ∀ (f : Nat) (l : List UInt8), l.length ≤ f → attN (tok f l) ≤ l.length := by
  intro f
  induction f with
  | zero => intro l h; simp [tok, attN]
  | succ f ih =>
    intro l h
    cases l with
    | nil => simp [tok, attN]
    | cons x t =>
      have hd := rd_len (x :: t)
      rw [List.length_cons] at h hd ⊢
      by_cases h0 : (rdT (x :: t)).2.2.2.2 = 0
      · rw [tok_byte f x t h0, attN]
        have := ih t (by omega)
        omega
      · rw [tok_tag f x t h0, attN]
        have h2 : ((x :: t).drop (rdT (x :: t)).2.2.2.2.toNat).length = t.length + 1 - (rdT (x :: t)).2.2.2.2.toNat := by rw [List.length_drop, List.length_cons]
        have := ih ((x :: t).drop (rdT (x :: t)).2.2.2.2.toNat) (by omega)
        dsimp only
        omega
theorem ids_ev (l : List UInt8) (hl : l.length ≤ 1048576) : Ev (fun k => tags_Ids.f k (B l)) (idsK (tk l)) := by
  have h := each_ev idsT idsO l (by omega) [] _ (run_ids (tk l) [] (by have := tok_att _ l (Nat.le_refl _); show 0 + attN (tok l.length l) ≤ _; omega))
  unfold tags_Ids.f
  rw [List.nil_append] at h
  exact Ev.bind h (Ev.now _)
/-! #### the check -/
def chkK : List ByteArray → List Tok → Option (List ByteArray)
  | x, [] => some x
  | x, .inl t :: r => if t.2.1 = true then (match x.getLast? with | none => none | some y => if y.toList = t.1.toList then chkK x.dropLast r else none) else if t.2.2.1 = true then chkK x r else chkK (x ++ [t.1]) r
  | x, .inr b :: r => if b = 60 ∨ b = 62 then none else chkK x r
theorem run_chk : ∀ (ts : List Tok) (x : List ByteArray), x.length + ts.length ≤ 1048576 → run chkT chkO x ts = some (chkK x ts)
  | [], x, _ => by rw [run, chkK]
  | .inl t :: r, x, h => by
    rw [List.length_cons] at h
    rw [run, chkK]
    unfold chkT
    by_cases he : t.2.1 = true
    · rw [if_pos he, if_pos he]
      cases hg : x.getLast? with
      | none => rfl
      | some y =>
        dsimp only
        by_cases hy : y.toList = t.1.toList
        · rw [if_pos hy, if_pos hy]
          exact run_chk r x.dropLast (by rw [List.length_dropLast]; omega)
        · rw [if_neg hy, if_neg hy]
          rfl
    · rw [if_neg he, if_neg he]
      by_cases hv : t.2.2.1 = true
      · rw [if_pos hv, if_pos hv]
        exact run_chk r x (by omega)
      · rw [if_neg hv, if_neg hv, if_pos (by omega)]
        exact run_chk r (x ++ [t.1]) (by rw [List.length_append, List.length_singleton]; omega)
  | .inr b :: r, x, h => by
    rw [List.length_cons] at h
    have e60 : ((b.toNat : Int) = 60) ↔ b = 60 := u8_eq b 60 (by decide)
    have e62 : ((b.toNat : Int) = 62) ↔ b = 62 := u8_eq b 62 (by decide)
    rw [run, chkK]
    unfold chkO
    by_cases hb : b = 60 ∨ b = 62
    · rw [if_pos hb, if_pos (hb.imp e60.2 e62.2)]
      rfl
    · rw [if_neg hb, if_neg (fun e => hb (e.imp e60.1 e62.1))]
      exact run_chk r x (by omega)
theorem check_ev (l : List UInt8) (hl : l.length ≤ 1048576) : Ev (fun k => tags_Check.f k (B l)) (chkR (chkK [] (tk l))) := by
  have h := each_ev chkT chkO l (by omega) [] _ (run_chk (tk l) [] (by have := tk_len l; simp; omega))
  obtain ⟨K, hK⟩ : ∃ K, ∀ k, K ≤ k → tags_each.l chkT chkO k k (B l) [] = some (chkK [] (tk l)) := h
  exact ⟨K, fun k hk => by show Option.map chkR (tags_each.l chkT chkO k k (B l) []) = _; rw [hK k hk]; rfl⟩
end Go.Proofs.Ytjcfjgcnkbbgmaa.Pure

namespace Go.Proofs.Ytjcfjgcnkbbgmaa.Pure
open Go.RowKit Go.Proofs.YtjcfjgcnkbbgmaaW.PrintWords Go.Proofs.YtjcfjgcnkbbgmaaW.PrintMore Go.Proofs.Ytjcfjgcnkbbgmaa.Pl Go.Proofs.Ytjcfjgcnkbbgmaa.PA

theorem nm_app (d : Bool) : ∀ (l m : List UInt8) (i : Nat), nm d i l < l.length → nm d i (l ++ m) = nm d i l
  | [], m, i, h => by simp at h
  | x :: t, m, i, h => by
    rw [List.cons_append]
    unfold nm at h ⊢
    by_cases ho : okN d i x = true
    · rw [if_pos ho] at h
      rw [if_pos ho, if_pos ho, nm_app d t m (i + 1) (by rw [List.length_cons] at h; omega)]
    · rw [if_neg ho, if_neg ho]
theorem pre_app {p l : List UInt8} (m : List UInt8) (h : p.isPrefixOf l = true) : p.isPrefixOf (l ++ m) = true :=
  List.isPrefixOf_iff_prefix.2 ((List.isPrefixOf_iff_prefix.1 h).trans (List.prefix_append _ _))
theorem vl_app : ∀ (t m u : List UInt8), vl t = some u → vl (t ++ m) = some u
  | [], m, u, h => by cases h
  | x :: t, m, u, h => by
    rw [List.cons_append]
    rw [vl] at h ⊢
    by_cases h1 : x = 34
    · rw [if_pos h1] at h ⊢; exact h
    · rw [if_neg h1] at h ⊢
      by_cases h2 : x = 60 ∨ x = 62
      · rw [if_pos h2] at h; cases h
      · rw [if_neg h2] at h ⊢
        obtain ⟨v, hv, rfl⟩ := Option.map_eq_some_iff.1 h
        rw [vl_app t m v hv]
        rfl
theorem att_app (l m : List UInt8) (q) (h : att l = some q) : att (l ++ m) = some q := by
  cases l with
  | nil => cases h
  | cons x r =>
    rw [List.cons_append]
    rw [att] at h ⊢
    by_cases hx : x = 32
    · rw [if_pos hx] at h ⊢
      by_cases h0 : nm true 0 r = 0
      · rw [if_pos h0] at h; cases h
      · rw [if_neg h0] at h
        by_cases hp : ([61, 34] : List UInt8).isPrefixOf (r.drop (nm true 0 r)) = true
        · rw [if_pos hp] at h
          have h2 := (List.isPrefixOf_iff_prefix.1 hp).length_le
          rw [List.length_drop] at h2
          simp only [List.length_cons, List.length_nil] at h2
          obtain ⟨u, hu, e⟩ := Option.map_eq_some_iff.1 h
          rw [nm_app true r m 0 (by omega), if_neg h0, List.drop_append_of_le_length (by omega), if_pos (pre_app m hp), List.drop_append_of_le_length (by omega), vl_app _ m u hu, List.take_append_of_le_length (by omega)]
          exact congrArg some e
        · rw [if_neg hp] at h; cases h
    · rw [if_neg hx] at h; cases h
def ends (r : List UInt8) : Prop := ([62] : List UInt8).isPrefixOf r = true ∨ ([32, 47, 62] : List UInt8).isPrefixOf r = true
theorem att_ends (r : List UInt8) (h : ends r) : att r = none := by
  rcases h with h | h
  · obtain ⟨u, rfl⟩ := List.isPrefixOf_iff_prefix.1 h
    rfl
  · obtain ⟨u, rfl⟩ := List.isPrefixOf_iff_prefix.1 h
    rfl
theorem ends_app {r : List UInt8} (m : List UInt8) (h : ends r) : ends (r ++ m) := h.imp (pre_app m) (pre_app m)
theorem ats_app : ∀ (f g : Nat) (l m : List UInt8), l.length ≤ f → l.length ≤ g → ends (ats f l).2 → ats g (l ++ m) = ((ats f l).1, (ats f l).2 ++ m) := by
  intro f
  induction f with
  | zero =>
    intro g l m h1 h2 he
    obtain rfl : l = [] := List.length_eq_zero_iff.1 (by omega)
    rcases he with he | he <;> simp [ats] at he
  | succ f ih =>
    intro g l m h1 h2 he
    cases h : att l with
    | none =>
      rw [ats_none _ _ h] at he ⊢
      exact ats_none _ _ (att_ends _ (ends_app m he))
    | some q =>
      obtain ⟨a, c⟩ := q
      have h3 := att_len l a c h
      rw [ats_some f l a c h] at he ⊢
      obtain ⟨g, rfl⟩ : ∃ i, g = i + 1 := ⟨g - 1, by omega⟩
      have := ih g (l.drop c) m (by rw [List.length_drop]; omega) (by rw [List.length_drop]; omega) he
      rw [ats_some g _ a c (att_app l m _ h), List.drop_append_of_le_length (by omega), this]
theorem rdE_app (u m : List UInt8) (h : (rdE u).2.2.2.2 ≠ 0) : rdE (u ++ m) = rdE u := by
  unfold rdE at h ⊢
  by_cases h0 : nm false 0 u = 0
  · rw [if_pos h0] at h; exact absurd rfl h
  · rw [if_neg h0] at h ⊢
    by_cases hp : ([62] : List UInt8).isPrefixOf (u.drop (nm false 0 u)) = true
    · have h2 := (List.isPrefixOf_iff_prefix.1 hp).length_le
      rw [List.length_drop] at h2
      simp only [List.length_singleton] at h2
      rw [nm_app false u m 0 (by omega), if_neg h0, if_pos hp, List.drop_append_of_le_length (by omega), if_pos (pre_app m hp), List.take_append_of_le_length (by omega)]
    · rw [if_neg hp] at h; exact absurd rfl h
theorem rdB_app (t m : List UInt8) (h : (rdB t).2.2.2.2 ≠ 0) : rdB (t ++ m) = rdB t := by
  unfold rdB at h ⊢
  by_cases h0 : nm false 0 t = 0
  · rw [if_pos h0] at h; exact absurd rfl h
  · rw [if_neg h0] at h
    have hql := ats_len t.length (t.drop (nm false 0 t))
    have hn := nm_le false t 0
    have he : ends (ats t.length (t.drop (nm false 0 t))).2 := by
      by_cases p1 : ([62] : List UInt8).isPrefixOf (ats t.length (t.drop (nm false 0 t))).2 = true
      · exact .inl p1
      · rw [if_neg p1] at h
        by_cases p2 : ([32, 47, 62] : List UInt8).isPrefixOf (ats t.length (t.drop (nm false 0 t))).2 = true
        · exact .inr p2
        · rw [if_neg p2] at h; exact absurd rfl h
    have h1 : 1 ≤ (ats t.length (t.drop (nm false 0 t))).2.length := by
      rcases he with he | he
      · have := (List.isPrefixOf_iff_prefix.1 he).length_le; simpa using this
      · have := (List.isPrefixOf_iff_prefix.1 he).length_le; simp only [List.length_cons, List.length_nil] at this; omega
    rw [List.length_drop] at hql
    have ha := ats_app t.length (t ++ m).length (t.drop (nm false 0 t)) m (by rw [List.length_drop]; omega) (by rw [List.length_drop, List.length_append]; omega) he
    rw [nm_app false t m 0 (by omega), if_neg h0, if_neg h0, List.drop_append_of_le_length (by omega), ha, List.take_append_of_le_length (by omega), List.length_append, List.length_append]
    obtain ⟨q, hq⟩ : ∃ q, ats t.length (t.drop (nm false 0 t)) = q := ⟨_, rfl⟩
    rw [hq] at hql he h1 ⊢
    dsimp only
    rw [show t.length + m.length + 1 - (q.2.length + m.length) = t.length + 1 - q.2.length by omega]
    by_cases p1 : ([62] : List UInt8).isPrefixOf q.2 = true
    · rw [if_pos p1, if_pos (pre_app m p1)]
    · have p2 : ([32, 47, 62] : List UInt8).isPrefixOf q.2 = true := he.resolve_left p1
      rw [if_neg p1, if_pos p2, if_neg (fun e => not_both _ e (pre_app m p2)), if_pos (pre_app m p2)]
theorem rdT_app (l m : List UInt8) (h : (rdT l).2.2.2.2 ≠ 0) : rdT (l ++ m) = rdT l := by
  cases l with
  | nil => exact absurd rfl h
  | cons x t =>
    rw [List.cons_append]
    rw [rdT] at h ⊢
    rw [rdT]
    by_cases hx : x = 60
    · rw [if_pos hx] at h
      rw [if_pos hx, if_pos hx]
      by_cases p1 : ([47] : List UInt8).isPrefixOf t = true
      · rw [if_pos p1] at h
        have h2 := (List.isPrefixOf_iff_prefix.1 p1).length_le
        simp only [List.length_singleton] at h2
        rw [if_pos p1, if_pos (pre_app m p1), List.drop_append_of_le_length (by omega)]
        exact rdE_app _ m h
      · rw [if_neg p1] at h
        have ht : t ≠ [] := by
          rintro rfl
          exact h rfl
        have p2 : ¬ ([47] : List UInt8).isPrefixOf (t ++ m) = true := by
          cases t with
          | nil => exact absurd rfl ht
          | cons y t => simpa [List.isPrefixOf] using p1
        rw [if_neg p1, if_neg p2]
        exact rdB_app t m h
    · rw [if_neg hx] at h
      exact absurd rfl h
def clean (ts : List Tok) : Prop := ∀ b, Sum.inr b ∈ ts → b ≠ (60 : UInt8)
theorem tk_app : ∀ (n : Nat) (l m : List UInt8), l.length ≤ n → clean (tk l) → tk (l ++ m) = tk l ++ tk m := by
  intro n
  induction n with
  | zero => intro l m h hc; obtain rfl : l = [] := List.length_eq_zero_iff.1 (by omega); rfl
  | succ n ih =>
    intro l m h hc
    cases l with
    | nil => rfl
    | cons x t =>
      rw [List.length_cons] at h
      have hd := rd_len (x :: t)
      rw [List.length_cons] at hd
      by_cases h0 : (rdT (x :: t)).2.2.2.2 = 0
      · rw [tk_byte x t h0] at hc ⊢
        have hx : x ≠ 60 := hc x List.mem_cons_self
        have h1 : (rdT (x :: (t ++ m))).2.2.2.2 = 0 := by rw [rdT, if_neg hx]; rfl
        rw [List.cons_append, tk_byte x _ h1, ih t m (by omega) (fun b hb => hc b (List.mem_cons_of_mem _ hb)), List.cons_append]
      · rw [tk_tag x t h0] at hc ⊢
        have h1 := rdT_app (x :: t) m h0
        rw [List.cons_append] at h1 ⊢
        rw [tk_tag x _ (by rw [h1]; exact h0), h1, ← List.cons_append, List.drop_append_of_le_length (by rw [List.length_cons]; omega), ih _ m (by rw [List.length_drop, List.length_cons]; omega) (fun b hb => hc b (List.mem_cons_of_mem _ hb)), List.cons_append]
theorem chkK_clean : ∀ (ts : List Tok) (x y : List ByteArray), chkK x ts = some y → clean ts
  | [], x, y, h => by intro b hb; cases hb
  | .inl t :: r, x, y, h => by
    intro b hb
    rcases List.mem_cons.1 hb with e | hb
    · cases e
    rw [chkK] at h
    split at h
    · cases hg : x.getLast? with
      | none => rw [hg] at h; cases h
      | some z =>
        rw [hg] at h
        dsimp only at h
        split at h
        · exact chkK_clean r _ y h b hb
        · cases h
    · split at h
      · exact chkK_clean r _ y h b hb
      · exact chkK_clean r _ y h b hb
  | .inr c :: r, x, y, h => by
    intro b hb
    rw [chkK] at h
    split at h
    · cases h
    · rename_i hn
      rcases List.mem_cons.1 hb with e | hb
      · cases e; exact fun e => hn (.inl e)
      · exact chkK_clean r _ y h b hb
theorem idsK_app : ∀ (a b : List Tok), idsK (a ++ b) = idsK a ++ idsK b
  | [], b => rfl
  | .inl t :: r, b => by rw [List.cons_append, idsK, idsK, idsK_app r b, List.append_assoc]
  | .inr c :: r, b => by rw [List.cons_append, idsK, idsK, idsK_app r b]
theorem chkR_true {r : Option (List ByteArray)} (h : chkR r = true) : r = some [] := by
  cases r with
  | none => cases h
  | some x =>
    cases x with
    | nil => rfl
    | cons a b => cases h
/-- Letters. -/
def lets (l : List UInt8) : Prop := ∀ x ∈ l, sm x = true
theorem nm_lets (d : Bool) (y : UInt8) (r : List UInt8) (hy : ∀ i, okN d i y = false) : ∀ (l : List UInt8) (i : Nat), lets l → nm d i (l ++ y :: r) = l.length
  | [], i, h => by rw [List.nil_append, nm, if_neg (by rw [hy]; decide)]; rfl
  | x :: t, i, h => by
    have hx : okN d i x = true := by unfold okN; rw [if_pos (h x List.mem_cons_self)]
    rw [List.cons_append, nm, if_pos hx, nm_lets d y r hy t (i + 1) (fun z hz => h z (List.mem_cons_of_mem _ hz)), List.length_cons]
theorem ok62 (d : Bool) : ∀ i, okN d i 62 = false := by
  intro i
  unfold okN
  rw [if_neg (by decide)]
  split
  · rw [if_neg (by decide)]
    split <;> rfl
  · rfl
theorem ok32 (d : Bool) : ∀ i, okN d i 32 = false := by
  intro i
  unfold okN
  rw [if_neg (by decide)]
  split
  · rw [if_neg (by decide)]
    split <;> rfl
  · rfl
theorem not47 (n r : List UInt8) (hl : lets n) (hn : n ≠ []) : ¬ ([47] : List UInt8).isPrefixOf (n ++ r) = true := by
  cases n with
  | nil => exact absurd rfl hn
  | cons x t =>
    have := hl x List.mem_cons_self
    intro h
    simp [List.isPrefixOf] at h
    subst h
    exact absurd this (by decide)
theorem rd_end (n r : List UInt8) (hl : lets n) (hn : n ≠ []) : rdT (60 :: 47 :: (n ++ 62 :: r)) = (B n, true, false, [], ((n.length + 3 : Nat) : Int)) := by
  have h0 : n.length ≠ 0 := fun e => hn (List.length_eq_zero_iff.1 e)
  rw [rdT, if_pos rfl, if_pos (by simp [List.isPrefixOf]), List.drop_one, List.tail_cons]
  unfold rdE
  rw [nm_lets false 62 r (ok62 false) n 0 hl, if_neg h0, List.drop_left, if_pos (by simp [List.isPrefixOf]), List.take_left]
theorem tk_end (n r : List UInt8) (hl : lets n) (hn : n ≠ []) : tk (60 :: 47 :: (n ++ 62 :: r)) = .inl (B n, true, false, []) :: tk r := by
  have h := rd_end n r hl hn
  rw [tk_tag 60 _ (by rw [h]; show ¬ ((n.length + 3 : Nat) : Int) = 0; omega), h]
  dsimp only
  rw [Int.toNat_natCast, List.drop_succ_cons, List.drop_succ_cons, List.drop_append, Nat.add_sub_cancel_left]
  simp
  rw [List.drop_of_length_le (by omega), List.nil_append]
theorem awake_ev : Ev (fun k => incipitlaw21_awake.f k) true := Ev.of (k := 40) (fun k => incipitlaw21_awake.mono k) (by decide +kernel)
end Go.Proofs.Ytjcfjgcnkbbgmaa.Pure

namespace Go.Proofs.Ytjcfjgcnkbbgmaa.Pure
open Go.RowKit Go.Proofs.YtjcfjgcnkbbgmaaW.PrintWords Go.Proofs.YtjcfjgcnkbbgmaaW.PrintMore Go.Proofs.Ytjcfjgcnkbbgmaa.Pl Go.Proofs.Ytjcfjgcnkbbgmaa.PA

theorem Ev.guard {α : Type} {c : Prop} [Decidable c] {g f : Nat → Option α} {r : α} (h : c) (k : Ev g r) : Ev (fun n => if c then g n else f n) r := Ev.congr (fun _ => if_pos h) k
theorem Ev.other {α : Type} {c : Prop} [Decidable c] {g f : Nat → Option α} {r : α} (h : ¬ c) (k : Ev f r) : Ev (fun n => if c then g n else f n) r := Ev.congr (fun _ => if_neg h) k
theorem Ev.succ {α : Type} {g : Nat → Option α} {r : α} (h : Ev (fun k => g (k + 1)) r) : Ev g r := Ev.step (fun _ => rfl) h
theorem okSep (d : Bool) (y : UInt8) (h1 : sm y = false) (h2 : dg y = false) (h3 : y ≠ 45) : ∀ i, okN d i y = false := by
  intro i
  unfold okN
  rw [if_neg (by rw [h1]; decide)]
  split
  · rw [if_neg (by rw [h2]; decide)]
    split
    · exact decide_eq_false h3
    · rfl
  · rfl
theorem vl_plain : ∀ (v r : List UInt8), (∀ x ∈ v, x ≠ 34 ∧ x ≠ 60 ∧ x ≠ 62) → vl (v ++ 34 :: r) = some v
  | [], r, h => rfl
  | x :: t, r, h => by
    have hx := h x List.mem_cons_self
    rw [List.cons_append, vl, if_neg hx.1, if_neg (by rintro (e | e); exact hx.2.1 e; exact hx.2.2 e), vl_plain t r (fun y hy => h y (List.mem_cons_of_mem _ hy))]
    rfl
theorem att_at (n v r : List UInt8) (hl : lets n) (hn : n ≠ []) (hv : ∀ x ∈ v, x ≠ 34 ∧ x ≠ 60 ∧ x ≠ 62) : att (32 :: (n ++ 61 :: 34 :: (v ++ 34 :: r))) = some (⟨B n, B v⟩, n.length + v.length + 4) := by
  have h0 : n.length ≠ 0 := fun e => hn (List.length_eq_zero_iff.1 e)
  have hd : (n ++ 61 :: 34 :: (v ++ 34 :: r)).drop (n.length + 2) = v ++ 34 :: r := by
    rw [← List.drop_drop, List.drop_left]
    rfl
  rw [att, if_pos rfl, nm_lets true 61 _ (okSep true 61 (by decide) (by decide) (by decide)) n 0 hl, if_neg h0, List.drop_left, if_pos (by simp [List.isPrefixOf]), hd, vl_plain v r hv, List.take_left]
  rfl
theorem att_rest (n v r : List UInt8) : (32 :: (n ++ 61 :: 34 :: (v ++ 34 :: r))).drop (n.length + v.length + 4) = r := by
  rw [show n.length + v.length + 4 = (n.length + (2 + (v.length + 1))) + 1 by omega, List.drop_succ_cons, ← List.drop_drop, List.drop_left, ← List.drop_drop]
  show List.drop (v.length + 1) (v ++ 34 :: r) = r
  rw [← List.drop_drop, List.drop_left]
  rfl
theorem ats_one (f : Nat) (n v r : List UInt8) (hl : lets n) (hn : n ≠ []) (hv : ∀ x ∈ v, x ≠ 34 ∧ x ≠ 60 ∧ x ≠ 62) : ats (f + 1) (32 :: (n ++ 61 :: 34 :: (v ++ 34 :: r))) = (⟨B n, B v⟩ :: (ats f r).1, (ats f r).2) := by
  rw [ats_some f _ _ _ (att_at n v r hl hn hv), att_rest]
/-- A tag that begins, with attributes. -/
theorem tk_gen (n pre rr : List UInt8) (aa : List S45) (y : UInt8) (q : List UInt8) (hq : pre ++ rr = y :: q) (hy : ∀ i, okN false i y = false) (hl : lets n) (hn : n ≠ []) (hat : ats (n ++ (pre ++ rr)).length (pre ++ rr) = (aa, rr)) (v : Bool) (m : Nat)
    (hm : (v = false ∧ m = 1 ∧ ([62] : List UInt8).isPrefixOf rr = true) ∨ (v = true ∧ m = 3 ∧ ([32, 47, 62] : List UInt8).isPrefixOf rr = true)) : tk (60 :: (n ++ (pre ++ rr))) = .inl (B n, false, v, aa) :: tk (rr.drop m) := by
  have h0 : n.length ≠ 0 := fun e => hn (List.length_eq_zero_iff.1 e)
  have hnm : nm false 0 (n ++ (pre ++ rr)) = n.length := by rw [hq]; exact nm_lets false y q hy n 0 hl
  have hr : rdT (60 :: (n ++ (pre ++ rr))) = (B n, false, v, aa, ((n.length + pre.length + 1 + m : Nat) : Int)) := by
    rw [rdT, if_pos rfl, if_neg (not47 n _ hl hn)]
    unfold rdB
    rw [hnm, if_neg h0, List.drop_left, hat, List.take_left]
    dsimp only
    have hlen : (n ++ (pre ++ rr)).length + 1 - rr.length = n.length + pre.length + 1 := by rw [List.length_append, List.length_append]; omega
    rw [hlen]
    rcases hm with ⟨rfl, rfl, hp⟩ | ⟨rfl, rfl, hp⟩
    · rw [if_pos hp]
    · rw [if_neg (fun e => not_both _ e hp), if_pos hp]
  rw [tk_tag 60 _ (by rw [hr]; show ¬ ((n.length + pre.length + 1 + m : Nat) : Int) = 0; omega), hr]
  dsimp only
  rw [Int.toNat_natCast, show n.length + pre.length + 1 + m = (n.length + (pre.length + m)) + 1 by omega, List.drop_succ_cons, ← List.drop_drop, List.drop_left, ← List.drop_drop, List.drop_left]
end Go.Proofs.Ytjcfjgcnkbbgmaa.Pure

namespace Go.Proofs.Ytjcfjgcnkbbgmaa.PA
open Go.RowKit Go.Proofs.YtjcfjgcnkbbgmaaW.PrintWords Go.Proofs.YtjcfjgcnkbbgmaaW.PrintLast Go.Proofs.YtjcfjgcnkbbgmaaW.PrintMore
attribute [local go_sem] max2_int min2_int max_two min_two max_three min_three max_four min_four   -- for this text's walks alone
set_option linter.unusedVariables false
set_option linter.unusedSimpArgs false

/-! ### incipitlaw21_TagsPlain: function 5 -/
/-! ### incipitlaw21_TagsIds: function 6 -/
mutual
def incipitlaw21_TagsIds.j0 : Nat → ByteArray → ByteArray → ByteArray → Bool → Bool → Option (Bool)
  | 0, _, _, _, _, _ => none
  | k + 1, x0, x1, x2, x7, x28 => if x28 = true then (some x7) else (incipitlaw21_TagsIds.l0 k x0 x1 x2 x7 0)
def incipitlaw21_TagsIds.l0 : Nat → ByteArray → ByteArray → ByteArray → Bool → Int → Option (Bool)
  | 0, _, _, _, _, _ => none
  | k + 1, x0, x1, x2, x7, x8 => if x0.size + x1.size ≤ 9223372036854775807 then (if x8 < ((x0 ++ x1).size : Int) then (if 0 ≤ x8 then (if (bt (x0 ++ x1) x8) < 97 then (some x7) else (if (bt (x0 ++ x1) x8) > 122 then (some x7) else (incipitlaw21_TagsIds.l0 k x0 x1 x2 x7 (wrap64 (x8 + 1))))) else (none)) else (if 7 + x0.size ≤ 9223372036854775807 then (if ((⟨#[60, 112, 32, 105, 100, 61, 34]⟩ : ByteArray) ++ x0).size + 2 ≤ 9223372036854775807 then (if (((⟨#[60, 112, 32, 105, 100, 61, 34]⟩ : ByteArray) ++ x0) ++ (⟨#[34, 62]⟩ : ByteArray)).size + x2.size ≤ 9223372036854775807 then (if ((((⟨#[60, 112, 32, 105, 100, 61, 34]⟩ : ByteArray) ++ x0) ++ (⟨#[34, 62]⟩ : ByteArray)) ++ x2).size + 21 ≤ 9223372036854775807 then (if (((((⟨#[60, 112, 32, 105, 100, 61, 34]⟩ : ByteArray) ++ x0) ++ (⟨#[34, 62]⟩ : ByteArray)) ++ x2) ++ (⟨#[60, 47, 112, 62, 60, 113, 32, 99, 108, 97, 115, 115, 61, 34, 120, 34, 32, 105, 100, 61, 34]⟩ : ByteArray)).size + x1.size ≤ 9223372036854775807 then (if ((((((⟨#[60, 112, 32, 105, 100, 61, 34]⟩ : ByteArray) ++ x0) ++ (⟨#[34, 62]⟩ : ByteArray)) ++ x2) ++ (⟨#[60, 47, 112, 62, 60, 113, 32, 99, 108, 97, 115, 115, 61, 34, 120, 34, 32, 105, 100, 61, 34]⟩ : ByteArray)) ++ x1).size + 4 ≤ 9223372036854775807 then ((tags_Ids.f k (((((((⟨#[60, 112, 32, 105, 100, 61, 34]⟩ : ByteArray) ++ x0) ++ (⟨#[34, 62]⟩ : ByteArray)) ++ x2) ++ (⟨#[60, 47, 112, 62, 60, 113, 32, 99, 108, 97, 115, 115, 61, 34, 120, 34, 32, 105, 100, 61, 34]⟩ : ByteArray)) ++ x1) ++ (⟨#[34, 32, 47, 62]⟩ : ByteArray))).bind fun t303 => ((tags_Ids.f k x2).bind fun t306 => (if x7 = true then (if (t303.length : Int) = (wrap64 ((t306.length : Int) + 2)) then (if 0 < (t303.length : Int) then (if (rdOf ByteArray.empty t303 0).toList = x0.toList then (if 0 ≤ (wrap64 ((t303.length : Int) - 1)) then (if (wrap64 ((t303.length : Int) - 1)) < (t303.length : Int) then (some ((rdOf ByteArray.empty t303 (wrap64 ((t303.length : Int) - 1))).toList == x1.toList)) else (none)) else (none)) else (none)) else (none)) else (none)) else (none)))) else (none)) else (none)) else (none)) else (none)) else (none)) else (none))) else (none)
end
def incipitlaw21_TagsIds.f (k : Nat) (a0 : ByteArray) (a1 : ByteArray) (a2 : ByteArray) : Option (Bool) := (incipitlaw21_awake.f k).bind fun t301 => (if (wrap64 ((a0.size : Int) + (a1.size : Int))) > 300 then (incipitlaw21_TagsIds.j0 k a0 a1 a2 t301 true) else (if (a2.size : Int) > 500 then (incipitlaw21_TagsIds.j0 k a0 a1 a2 t301 true) else ((tags_Check.f k a2).bind fun t302 => (incipitlaw21_TagsIds.j0 k a0 a1 a2 t301 (!t302)))))
set_option maxHeartbeats 8000000 in
set_option maxRecDepth 100000 in
theorem incipitlaw21_TagsIds.calls (k : Nat) (a0 : ByteArray) (a1 : ByteArray) (a2 : ByteArray) (r : Bool) (w : World) (hLd : Laid w) (h : incipitlaw21_TagsIds.f k a0 a1 a2 = some r) :
    Calls Try.prog 6 #[.string a0, .string a1, .string a2] w fun e w' => e = .returned (.bool r) ∧ Below w.heap.size w w' := by
  have HB := Aside0.mk (Below.refl w.heap.size w)
  have H : ((incipitlaw21_awake.f k).bind fun t301 => (if (wrap64 ((a0.size : Int) + (a1.size : Int))) > 300 then (incipitlaw21_TagsIds.j0 k a0 a1 a2 t301 true) else (if (a2.size : Int) > 500 then (incipitlaw21_TagsIds.j0 k a0 a1 a2 t301 true) else ((tags_Check.f k a2).bind fun t302 => (incipitlaw21_TagsIds.j0 k a0 a1 a2 t301 (!t302)))))) = some r := h
  clear h
  replace H := Option.bind_eq_some_iff.mp H
  obtain ⟨t301, A40, H⟩ := H
  replace H : (if (wrap64 ((a0.size : Int) + (a1.size : Int))) > 300 then (incipitlaw21_TagsIds.j0 k a0 a1 a2 t301 true) else (if (a2.size : Int) > 500 then (incipitlaw21_TagsIds.j0 k a0 a1 a2 t301 true) else ((tags_Check.f k a2).bind fun t302 => (incipitlaw21_TagsIds.j0 k a0 a1 a2 t301 (!t302))))) = some r := H
  have A4 := Aside0.mk A40
  clear A40
  have HC5 := Aside0.mk H
  clear H
  go_enter Try.func6, Try.ntmps6
  go_upto_region 2 with (first | ((with_reducible refine gate_callee (f := 7) rfl ?_); refine goesL_ (some 12) rfl rfl Try.func7 (by kernel_rfl) rfl #[] rfl (by (try simp only [List.map_toArray, List.map_cons, List.map_nil]); first | done | rfl | (simp only [List.length_drop, List.length_take]; rfl)) ?_; (with_reducible refine (incipitlaw21_awake.calls k  t301 _ ?side1 A4.out).mono ?_); (case side1 => exact Laid.go hLd (by repeat (first | (with_reducible first | exact HB.out | apply below_alloc | apply pw_below_drewN | apply below_drew1) | exact HB.out))); rintro e w6 ⟨rfl, hb⟩; refine ⟨_, rfl, ?_⟩; have n0_ := Aside0.mk (below_step (by repeat (first | (with_reducible first | exact HB.out | apply below_alloc | apply pw_below_drewN | apply below_drew1) | exact HB.out)) hb); clear HB; have HB := n0_; clear n0_; (try clear hb); (try clear hb2); (try clear hk); (try clear hi)))
  (try simp only [Act.put, List.setIfInBounds_toArray, List.set_cons_zero, List.set_cons_succ])
  go_cut [28] (fun v28 wc => ∃ (kq : Nat) (x28_4 : Bool), v28 = .bool x28_4 ∧ Aside0 (incipitlaw21_TagsIds.j0 kq a0 a1 a2 t301 x28_4 = some r) ∧ Aside0 (kq ≤ k) ∧ Aside0 (Below w.heap.size w wc))
  case first =>
    have H := HC5.out
    clear HC5
    by_cases c7 : (wrap64 ((a0.size : Int) + (a1.size : Int))) > 300
    · rw [if_pos c7] at H
      have c7b0 : decide (300 < (wrap64 ((a0.size : Int) + (a1.size : Int)))) = true := decide_eq_true c7
      clear c7
      (first | rw [c7b0] | (simp only [i64_w, i32_w]; rw [c7b0]) | skip)
      have H' := Aside0.mk H
      clear H
      go_wp2
      go_meet
      case rel => exact ⟨_, (true), (by first | rfl | (simp; done) | (simp [*]; done)), H', ⟨by first | omega | exact Nat.le_refl _⟩, ⟨by repeat (first | (with_reducible first | exact HB.out | apply below_alloc | apply pw_below_drewN | apply below_drew1) | exact HB.out)⟩⟩
    · rw [if_neg c7] at H
      have c7b0 : decide (300 < (wrap64 ((a0.size : Int) + (a1.size : Int)))) = false := decide_eq_false c7
      clear c7
      (first | rw [c7b0] | (simp only [i64_w, i32_w]; rw [c7b0]) | skip)
      by_cases c8 : (a2.size : Int) > 500
      · rw [if_pos c8] at H
        have c8b0 : decide (500 < (a2.size : Int)) = true := decide_eq_true c8
        have c8b1 : decide (500 < a2.size) = true := decide_eq_true (by omega)
        clear c8
        have H' := Aside0.mk H
        clear H
        go_wp2
        go_meet
        case rel => exact ⟨_, (true), (by first | rfl | (simp; done) | (simp [*]; done)), H', ⟨by first | omega | exact Nat.le_refl _⟩, ⟨by repeat (first | (with_reducible first | exact HB.out | apply below_alloc | apply pw_below_drewN | apply below_drew1) | exact HB.out)⟩⟩
      · rw [if_neg c8] at H
        have c8b0 : decide (500 < (a2.size : Int)) = false := decide_eq_false c8
        have c8b1 : decide (500 < a2.size) = false := decide_eq_false (by omega)
        clear c8
        replace H := Option.bind_eq_some_iff.mp H
        obtain ⟨t302, A90, H⟩ := H
        replace H : (incipitlaw21_TagsIds.j0 k a0 a1 a2 t301 (!t302)) = some r := H
        have A9 := Aside0.mk A90
        clear A90
        have H' := Aside0.mk H
        clear H
        go_wp2_with (first | (go_at_call 12; (with_reducible refine (tags_Check.calls k a2 t302 _ ?side1 A9.out).mono ?_); (case side1 => exact Laid.go hLd (by repeat (first | (with_reducible first | exact HB.out | apply below_alloc | apply pw_below_drewN | apply below_drew1) | exact HB.out))); rintro e w10 ⟨rfl, hb⟩; have n0_ := Aside0.mk (below_step (by repeat (first | (with_reducible first | exact HB.out | apply below_alloc | apply pw_below_drewN | apply below_drew1) | exact HB.out)) hb); clear HB; have HB := n0_; clear n0_; (try clear hb); (try clear hb2); (try clear hk); (try clear hi)))
        go_meet
        case rel => exact ⟨_, (!t302), (by first | rfl | (simp; done) | (simp [*]; done)), H', ⟨by first | omega | exact Nat.le_refl _⟩, ⟨by repeat (first | (with_reducible first | exact HB.out | apply below_alloc | apply pw_below_drewN | apply below_drew1) | exact HB.out)⟩⟩
  case rest =>
    clear HC5
    try clear p2
    try clear c6
    try clear p6
    try clear c7
    try clear c7b0
    try clear c8
    try clear c8b0
    try clear c8b1
    obtain ⟨kq, x28_4, rfl, HA, HJ4, HB⟩ := hcut
    cases kq with
    | zero => exact absurd HA.out (by simp [incipitlaw21_TagsIds.j0])
    | succ kj4 =>
      have H := HA.out
      clear HA
      simp only [incipitlaw21_TagsIds.j0] at H
      by_cases c11 : x28_4 = true
      · subst c11
        have H1 : (some t301) = some r := by rw [if_pos rfl] at H; exact H
        clear H
        have H := H1
        clear H1
        obtain rfl := Option.some.inj H
        go_wp2
        go_ret
        exact ⟨by first | rfl | (refine retEq ?_; first | exact szw c23b7 (by decide) (by decide) | exact szw c22b7 (by decide) (by decide) | exact szw c21b7 (by decide) (by decide) | exact szw c20b7 (by decide) (by decide) | exact szw c19b7 (by decide) (by decide)) | (simp [errW_none, errW_some] <;> rfl) | (simp [*, errW_none, errW_some] <;> rfl), by repeat (first | (with_reducible first | exact HB.out | apply below_alloc | apply pw_below_drewN | apply below_drew1) | exact HB.out)⟩
      · replace c11 := Bool.eq_false_iff.mpr c11
        subst c11
        have H1 : (incipitlaw21_TagsIds.l0 kj4 a0 a1 a2 t301 0) = some r := by rw [if_neg (show ¬ (false = true) by decide)] at H; exact H
        clear H
        have H := H1
        clear H1
        have H' := Aside0.mk H
        clear H
        go_wp2
        go_loopg [8] kj4 (fun kq v8 w' => ∃ (x8_2 : Int), v8 = .int .i64 x8_2 ∧ Aside0 (incipitlaw21_TagsIds.l0 kq a0 a1 a2 t301 x8_2 = some r) ∧ Aside0 (kq ≤ kj4) ∧ Aside0 (Below w.heap.size w w'))
        case atStart => exact ⟨(0), (by first | rfl | (simp; done) | (simp [*]; done)), H', ⟨Nat.le_refl _⟩, ⟨by repeat (first | (with_reducible first | exact HB.out | apply below_alloc | apply pw_below_drewN | apply below_drew1) | exact HB.out)⟩⟩
        case round =>
          clear H'
          try clear c1
          try clear p2
          try clear c6
          try clear p6
          try clear c7
          try clear c7b0
          try clear c8
          try clear c8b0
          try clear c8b1
          try clear c11
          try clear p2
          try clear p6
          obtain ⟨x8_2, rfl, HA, HK2, HB⟩ := hrel
          cases gk with
          | zero => exact absurd HA.out (by simp [incipitlaw21_TagsIds.l0])
          | succ k2 =>
            have H := HA.out
            clear HA
            simp only [incipitlaw21_TagsIds.l0] at H
            by_cases c12 : a0.size + a1.size ≤ 9223372036854775807
            · rw [if_pos c12] at H
              have c12b0 := eq_true c12
              have c12b1 : decide (a0.size + a1.size ≤ 9223372036854775807) = true := decide_eq_true c12
              try have c12b2 : (9223372036854775807 < a0.size + a1.size) = False := eq_false (Nat.not_lt.2 c12)
              by_cases c13 : x8_2 < ((a0 ++ a1).size : Int)
              · rw [if_pos c13] at H
                have c13b0 : decide (x8_2 < ((a0 ++ a1).size : Int)) = true := decide_eq_true c13
                have c13b0s := c13b0
                (try simp only [ByteArray.size_append, ByteArray.size_extract, Int.natCast_add] at c13b0s)
                (try have c13b0t := eq_true (of_decide_eq_true c13b0s))
                clear c13
                by_cases c14 : 0 ≤ x8_2
                · rw [if_pos c14] at H
                  have c14b0 : decide (0 ≤ x8_2) = true := decide_eq_true c14
                  clear c14
                  by_cases c16 : (bt (a0 ++ a1) x8_2) < 97
                  · rw [if_pos c16] at H
                    have c16b0 : decide ((bt (a0 ++ a1) x8_2) < 97) = true := decide_eq_true c16
                    clear c16
                    obtain rfl := Option.some.inj H
                    have p15 : 0 ≤ (x8_2 : Int) := of_decide_eq_true (by first | (with_reducible assumption) | assumption)
                    have q15 : x8_2 < ((a0 ++ a1).size : Int) := of_decide_eq_true (by first | (with_reducible assumption) | assumption)
                    have hx15 := bt_at (a0 ++ a1) x8_2
                    replace p15 := eq_true p15
                    replace q15 := eq_true q15
                    go_wp2
                    go_ret
                    exact ⟨by first | rfl | (refine retEq ?_; first | exact szw c23b7 (by decide) (by decide) | exact szw c22b7 (by decide) (by decide) | exact szw c21b7 (by decide) (by decide) | exact szw c20b7 (by decide) (by decide) | exact szw c19b7 (by decide) (by decide)) | (simp [errW_none, errW_some] <;> rfl) | (simp [*, errW_none, errW_some] <;> rfl), by repeat (first | (with_reducible first | exact HB.out | apply below_alloc | apply pw_below_drewN | apply below_drew1) | exact HB.out)⟩
                  · rw [if_neg c16] at H
                    have c16b0 : decide ((bt (a0 ++ a1) x8_2) < 97) = false := decide_eq_false c16
                    clear c16
                    by_cases c17 : (bt (a0 ++ a1) x8_2) > 122
                    · rw [if_pos c17] at H
                      have c17b0 : decide (122 < (bt (a0 ++ a1) x8_2)) = true := decide_eq_true c17
                      clear c17
                      obtain rfl := Option.some.inj H
                      have p15 : 0 ≤ (x8_2 : Int) := of_decide_eq_true (by first | (with_reducible assumption) | assumption)
                      have q15 : x8_2 < ((a0 ++ a1).size : Int) := of_decide_eq_true (by first | (with_reducible assumption) | assumption)
                      have hx15 := bt_at (a0 ++ a1) x8_2
                      replace p15 := eq_true p15
                      replace q15 := eq_true q15
                      go_wp2
                      go_ret
                      exact ⟨by first | rfl | (refine retEq ?_; first | exact szw c23b7 (by decide) (by decide) | exact szw c22b7 (by decide) (by decide) | exact szw c21b7 (by decide) (by decide) | exact szw c20b7 (by decide) (by decide) | exact szw c19b7 (by decide) (by decide)) | (simp [errW_none, errW_some] <;> rfl) | (simp [*, errW_none, errW_some] <;> rfl), by repeat (first | (with_reducible first | exact HB.out | apply below_alloc | apply pw_below_drewN | apply below_drew1) | exact HB.out)⟩
                    · rw [if_neg c17] at H
                      have c17b0 : decide (122 < (bt (a0 ++ a1) x8_2)) = false := decide_eq_false c17
                      clear c17
                      have H' := Aside0.mk H
                      clear H
                      have p15 : 0 ≤ (x8_2 : Int) := of_decide_eq_true (by first | (with_reducible assumption) | assumption)
                      have q15 : x8_2 < ((a0 ++ a1).size : Int) := of_decide_eq_true (by first | (with_reducible assumption) | assumption)
                      have hx15 := bt_at (a0 ++ a1) x8_2
                      replace p15 := eq_true p15
                      replace q15 := eq_true q15
                      go_wp2
                      go_roundg k2
                      case measure => have := HJ4.out; have := HK2.out; omega
                      case rel => exact ⟨(wrap64 (x8_2 + 1)), (by first | rfl | (simp; done) | (simp [*]; done)), H', ⟨by have := HJ4.out; have := HK2.out; omega⟩, ⟨by repeat (first | (with_reducible first | exact HB.out | apply below_alloc | apply pw_below_drewN | apply below_drew1) | exact HB.out)⟩⟩
                · rw [if_neg c14] at H
                  exact absurd H (by simp)
              · rw [if_neg c13] at H
                have c13b0 : decide (x8_2 < ((a0 ++ a1).size : Int)) = false := decide_eq_false c13
                have c13b0s := c13b0
                (try simp only [ByteArray.size_append, ByteArray.size_extract, Int.natCast_add] at c13b0s)
                (try have c13b0t := eq_true (of_decide_eq_true c13b0s))
                clear c13
                by_cases c18 : 7 + a0.size ≤ 9223372036854775807
                · rw [if_pos c18] at H
                  have c18b0 := eq_true c18
                  have c18b1 : decide (7 + a0.size ≤ 9223372036854775807) = true := decide_eq_true c18
                  try have c18b2 : (9223372036854775807 < 7 + a0.size) = False := eq_false (Nat.not_lt.2 c18)
                  by_cases c19 : ((⟨#[60, 112, 32, 105, 100, 61, 34]⟩ : ByteArray) ++ a0).size + 2 ≤ 9223372036854775807
                  · rw [if_pos c19] at H
                    have c19b0 := eq_true c19
                    have c19b1 : decide (((⟨#[60, 112, 32, 105, 100, 61, 34]⟩ : ByteArray) ++ a0).size + 2 ≤ 9223372036854775807) = true := decide_eq_true c19
                    have c19b4 := c19
                    (try simp only [ByteArray.size_append, ByteArray.size_extract, Nat.min_self] at c19b4)
                    (try have c19b5 := Nat.not_lt.2 c19b4)
                    (try have c19b7 : ¬ 9223372036854775807 < 7 + a0.size + 2 := by have hh := c19; simp only [ByteArray.size_append] at hh; exact Nat.not_lt.2 hh)
                    try have c19b2 : (9223372036854775807 < ((⟨#[60, 112, 32, 105, 100, 61, 34]⟩ : ByteArray) ++ a0).size + 2) = False := eq_false (Nat.not_lt.2 c19)
                    by_cases c20 : (((⟨#[60, 112, 32, 105, 100, 61, 34]⟩ : ByteArray) ++ a0) ++ (⟨#[34, 62]⟩ : ByteArray)).size + a2.size ≤ 9223372036854775807
                    · rw [if_pos c20] at H
                      have c20b0 := eq_true c20
                      have c20b1 : decide ((((⟨#[60, 112, 32, 105, 100, 61, 34]⟩ : ByteArray) ++ a0) ++ (⟨#[34, 62]⟩ : ByteArray)).size + a2.size ≤ 9223372036854775807) = true := decide_eq_true c20
                      have c20b4 := c20
                      (try simp only [ByteArray.size_append, ByteArray.size_extract, Nat.min_self] at c20b4)
                      (try have c20b5 := Nat.not_lt.2 c20b4)
                      (try have c20b7 : ¬ 9223372036854775807 < 7 + a0.size + 2 + a2.size := by have hh := c20; simp only [ByteArray.size_append] at hh; exact Nat.not_lt.2 hh)
                      try have c20b2 : (9223372036854775807 < (((⟨#[60, 112, 32, 105, 100, 61, 34]⟩ : ByteArray) ++ a0) ++ (⟨#[34, 62]⟩ : ByteArray)).size + a2.size) = False := eq_false (Nat.not_lt.2 c20)
                      by_cases c21 : ((((⟨#[60, 112, 32, 105, 100, 61, 34]⟩ : ByteArray) ++ a0) ++ (⟨#[34, 62]⟩ : ByteArray)) ++ a2).size + 21 ≤ 9223372036854775807
                      · rw [if_pos c21] at H
                        have c21b0 := eq_true c21
                        have c21b1 : decide (((((⟨#[60, 112, 32, 105, 100, 61, 34]⟩ : ByteArray) ++ a0) ++ (⟨#[34, 62]⟩ : ByteArray)) ++ a2).size + 21 ≤ 9223372036854775807) = true := decide_eq_true c21
                        have c21b4 := c21
                        (try simp only [ByteArray.size_append, ByteArray.size_extract, Nat.min_self] at c21b4)
                        (try have c21b5 := Nat.not_lt.2 c21b4)
                        (try have c21b7 : ¬ 9223372036854775807 < 7 + a0.size + 2 + a2.size + 21 := by have hh := c21; simp only [ByteArray.size_append] at hh; exact Nat.not_lt.2 hh)
                        try have c21b2 : (9223372036854775807 < ((((⟨#[60, 112, 32, 105, 100, 61, 34]⟩ : ByteArray) ++ a0) ++ (⟨#[34, 62]⟩ : ByteArray)) ++ a2).size + 21) = False := eq_false (Nat.not_lt.2 c21)
                        by_cases c22 : (((((⟨#[60, 112, 32, 105, 100, 61, 34]⟩ : ByteArray) ++ a0) ++ (⟨#[34, 62]⟩ : ByteArray)) ++ a2) ++ (⟨#[60, 47, 112, 62, 60, 113, 32, 99, 108, 97, 115, 115, 61, 34, 120, 34, 32, 105, 100, 61, 34]⟩ : ByteArray)).size + a1.size ≤ 9223372036854775807
                        · rw [if_pos c22] at H
                          have c22b0 := eq_true c22
                          have c22b1 : decide ((((((⟨#[60, 112, 32, 105, 100, 61, 34]⟩ : ByteArray) ++ a0) ++ (⟨#[34, 62]⟩ : ByteArray)) ++ a2) ++ (⟨#[60, 47, 112, 62, 60, 113, 32, 99, 108, 97, 115, 115, 61, 34, 120, 34, 32, 105, 100, 61, 34]⟩ : ByteArray)).size + a1.size ≤ 9223372036854775807) = true := decide_eq_true c22
                          have c22b4 := c22
                          (try simp only [ByteArray.size_append, ByteArray.size_extract, Nat.min_self] at c22b4)
                          (try have c22b5 := Nat.not_lt.2 c22b4)
                          (try have c22b7 : ¬ 9223372036854775807 < 7 + a0.size + 2 + a2.size + 21 + a1.size := by have hh := c22; simp only [ByteArray.size_append] at hh; exact Nat.not_lt.2 hh)
                          try have c22b2 : (9223372036854775807 < (((((⟨#[60, 112, 32, 105, 100, 61, 34]⟩ : ByteArray) ++ a0) ++ (⟨#[34, 62]⟩ : ByteArray)) ++ a2) ++ (⟨#[60, 47, 112, 62, 60, 113, 32, 99, 108, 97, 115, 115, 61, 34, 120, 34, 32, 105, 100, 61, 34]⟩ : ByteArray)).size + a1.size) = False := eq_false (Nat.not_lt.2 c22)
                          by_cases c23 : ((((((⟨#[60, 112, 32, 105, 100, 61, 34]⟩ : ByteArray) ++ a0) ++ (⟨#[34, 62]⟩ : ByteArray)) ++ a2) ++ (⟨#[60, 47, 112, 62, 60, 113, 32, 99, 108, 97, 115, 115, 61, 34, 120, 34, 32, 105, 100, 61, 34]⟩ : ByteArray)) ++ a1).size + 4 ≤ 9223372036854775807
                          · rw [if_pos c23] at H
                            have c23b0 := eq_true c23
                            have c23b1 : decide (((((((⟨#[60, 112, 32, 105, 100, 61, 34]⟩ : ByteArray) ++ a0) ++ (⟨#[34, 62]⟩ : ByteArray)) ++ a2) ++ (⟨#[60, 47, 112, 62, 60, 113, 32, 99, 108, 97, 115, 115, 61, 34, 120, 34, 32, 105, 100, 61, 34]⟩ : ByteArray)) ++ a1).size + 4 ≤ 9223372036854775807) = true := decide_eq_true c23
                            have c23b4 := c23
                            (try simp only [ByteArray.size_append, ByteArray.size_extract, Nat.min_self] at c23b4)
                            (try have c23b5 := Nat.not_lt.2 c23b4)
                            (try have c23b7 : ¬ 9223372036854775807 < 7 + a0.size + 2 + a2.size + 21 + a1.size + 4 := by have hh := c23; simp only [ByteArray.size_append] at hh; exact Nat.not_lt.2 hh)
                            try have c23b2 : (9223372036854775807 < ((((((⟨#[60, 112, 32, 105, 100, 61, 34]⟩ : ByteArray) ++ a0) ++ (⟨#[34, 62]⟩ : ByteArray)) ++ a2) ++ (⟨#[60, 47, 112, 62, 60, 113, 32, 99, 108, 97, 115, 115, 61, 34, 120, 34, 32, 105, 100, 61, 34]⟩ : ByteArray)) ++ a1).size + 4) = False := eq_false (Nat.not_lt.2 c23)
                            replace H := Option.bind_eq_some_iff.mp H
                            obtain ⟨t303, A240, H⟩ := H
                            replace H : ((tags_Ids.f k2 a2).bind fun t306 => (if t301 = true then (if (t303.length : Int) = (wrap64 ((t306.length : Int) + 2)) then (if 0 < (t303.length : Int) then (if (rdOf ByteArray.empty t303 0).toList = a0.toList then (if 0 ≤ (wrap64 ((t303.length : Int) - 1)) then (if (wrap64 ((t303.length : Int) - 1)) < (t303.length : Int) then (some ((rdOf ByteArray.empty t303 (wrap64 ((t303.length : Int) - 1))).toList == a1.toList)) else (none)) else (none)) else (none)) else (none)) else (none)) else (none))) = some r := H
                            have A24 := Aside0.mk A240
                            clear A240
                            replace H := Option.bind_eq_some_iff.mp H
                            obtain ⟨t306, A250, H⟩ := H
                            replace H : (if t301 = true then (if (t303.length : Int) = (wrap64 ((t306.length : Int) + 2)) then (if 0 < (t303.length : Int) then (if (rdOf ByteArray.empty t303 0).toList = a0.toList then (if 0 ≤ (wrap64 ((t303.length : Int) - 1)) then (if (wrap64 ((t303.length : Int) - 1)) < (t303.length : Int) then (some ((rdOf ByteArray.empty t303 (wrap64 ((t303.length : Int) - 1))).toList == a1.toList)) else (none)) else (none)) else (none)) else (none)) else (none)) else (none)) = some r := H
                            have A25 := Aside0.mk A250
                            clear A250
                            by_cases c26 : t301 = true
                            · subst c26
                              have H1 : (if (t303.length : Int) = (wrap64 ((t306.length : Int) + 2)) then (if 0 < (t303.length : Int) then (if (rdOf ByteArray.empty t303 0).toList = a0.toList then (if 0 ≤ (wrap64 ((t303.length : Int) - 1)) then (if (wrap64 ((t303.length : Int) - 1)) < (t303.length : Int) then (some ((rdOf ByteArray.empty t303 (wrap64 ((t303.length : Int) - 1))).toList == a1.toList)) else (none)) else (none)) else (none)) else (none)) else (none)) = some r := by rw [if_pos rfl] at H; exact H
                              clear H
                              have H := H1
                              clear H1
                              by_cases c27 : (t303.length : Int) = (wrap64 ((t306.length : Int) + 2))
                              · rw [if_pos c27] at H
                                have c27b0 : ((t303.length : Int) == (wrap64 ((t306.length : Int) + 2))) = true := beq_iff_eq.mpr c27
                                have c27b1 : ((t303.length : Int) != (wrap64 ((t306.length : Int) + 2))) = false := bne_eq_false_iff_eq.mpr c27
                                clear c27
                                by_cases c28 : 0 < (t303.length : Int)
                                · rw [if_pos c28] at H
                                  have c28b0 : decide (0 < (t303.length : Int)) = true := decide_eq_true c28
                                  have c28b1 : decide (0 < t303.length) = true := decide_eq_true (by omega)
                                  clear c28
                                  by_cases c29 : (rdOf ByteArray.empty t303 0).toList = a0.toList
                                  · rw [if_pos c29] at H
                                    have c29b0 : ((rdOf ByteArray.empty t303 0).toList == a0.toList) = true := beq_iff_eq.mpr c29
                                    have c29b1 : ((rdOf ByteArray.empty t303 0).toList != a0.toList) = false := bne_eq_false_iff_eq.mpr c29
                                    clear c29
                                    obtain ⟨ji30, hji30⟩ : ∃ j_ : Int, (wrap64 ((t303.length : Int) - 1)) = j_ := ⟨_, rfl⟩
                                    replace H : (if 0 ≤ (ji30) then (if (ji30) < (t303.length : Int) then (some ((rdOf ByteArray.empty t303 (ji30)).toList == a1.toList)) else (none)) else (none)) = some r := by first | (rw [hji30] at H; exact H) | (simp only [hji30] at H ⊢; exact H)
                                    (try rw [hji30] at A24)
                                    (try rw [hji30] at A25)
                                    have hji30w : (IntKind.i64.wrap ((t303.length : Int) - 1)) = ji30 := (i64_w _).trans hji30
                                    by_cases c31 : 0 ≤ (ji30)
                                    · rw [if_pos c31] at H
                                      have c31b0 : decide (0 ≤ (ji30)) = true := decide_eq_true c31
                                      clear c31
                                      by_cases c32 : (ji30) < (t303.length : Int)
                                      · rw [if_pos c32] at H
                                        have c32b0 : decide ((ji30) < (t303.length : Int)) = true := decide_eq_true c32
                                        clear c32
                                        obtain rfl := Option.some.inj H
                                        go_wp2_with (first | ((with_reducible refine gate_callee (f := 15) rfl ?_); refine goesL_ (some 59) rfl rfl Try.func15 (by kernel_rfl) rfl #[.string (((((((⟨#[60, 112, 32, 105, 100, 61, 34]⟩ : ByteArray) ++ a0) ++ (⟨#[34, 62]⟩ : ByteArray)) ++ a2) ++ (⟨#[60, 47, 112, 62, 60, 113, 32, 99, 108, 97, 115, 115, 61, 34, 120, 34, 32, 105, 100, 61, 34]⟩ : ByteArray)) ++ a1) ++ (⟨#[34, 32, 47, 62]⟩ : ByteArray))] rfl (by (try simp only [List.map_toArray, List.map_cons, List.map_nil]); first | done | rfl | (simp only [List.length_drop, List.length_take]; rfl)) ?_; (with_reducible refine (tags_Ids.calls k2 (((((((⟨#[60, 112, 32, 105, 100, 61, 34]⟩ : ByteArray) ++ a0) ++ (⟨#[34, 62]⟩ : ByteArray)) ++ a2) ++ (⟨#[60, 47, 112, 62, 60, 113, 32, 99, 108, 97, 115, 115, 61, 34, 120, 34, 32, 105, 100, 61, 34]⟩ : ByteArray)) ++ a1) ++ (⟨#[34, 32, 47, 62]⟩ : ByteArray)) t303 _ ?side1 A24.out).mono ?_); (case side1 => exact Laid.go hLd (by repeat (first | (with_reducible first | exact HB.out | apply below_alloc | apply pw_below_drewN | apply below_drew1) | exact HB.out))); rintro e w33 ⟨v304, rfl, ho0, hb⟩; refine ⟨_, rfl, ?_⟩; have n0_ := Aside0.mk (Kd.R_lower ho0 (below_size (by repeat (first | (with_reducible first | exact HB.out | apply below_alloc | apply pw_below_drewN | apply below_drew1) | exact HB.out)))); have n1_ := Aside0.mk (below_step (by repeat (first | (with_reducible first | exact HB.out | apply below_alloc | apply pw_below_drewN | apply below_drew1) | exact HB.out)) hb); clear HB; have HO305 := n0_; have HB := n1_; clear n0_ n1_; (try clear hb); (try clear hb2); (try clear hk); (try clear hi); (try clear ho0)) | ((with_reducible refine gate_callee (f := 15) rfl ?_); refine goesL_ (some 61) rfl rfl Try.func15 (by kernel_rfl) rfl #[.string a2] rfl (by (try simp only [List.map_toArray, List.map_cons, List.map_nil]); first | done | rfl | (simp only [List.length_drop, List.length_take]; rfl)) ?_; (with_reducible refine (tags_Ids.calls k2 a2 t306 _ ?side1 A25.out).mono ?_); (case side1 => exact Laid.go hLd (by repeat (first | (with_reducible first | exact HB.out | apply below_alloc | apply pw_below_drewN | apply below_drew1) | exact HB.out))); rintro e w34 ⟨v307, rfl, ho0, hb⟩; refine ⟨_, rfl, ?_⟩; have n0_ := Aside0.mk (Kd.R_elder' (by (with_reducible repeat (first | apply Kd.R_alloc | apply Kd.R_drewN | apply Kd.R_drew)); exact HO305.out) (Kd.R_base ho0) hb); have n1_ := Aside0.mk (Kd.R_lower (Kd.R_new' ho0 (Kd.R_lt (by (with_reducible repeat (first | apply Kd.R_alloc | apply Kd.R_drewN | apply Kd.R_drew)); exact HO305.out))) (below_size (by repeat (first | (with_reducible first | exact HB.out | apply below_alloc | apply pw_below_drewN | apply below_drew1) | exact HB.out)))); have n2_ := Aside0.mk (below_step (by repeat (first | (with_reducible first | exact HB.out | apply below_alloc | apply pw_below_drewN | apply below_drew1) | exact HB.out)) hb); clear HO305; clear HB; have HO305 := n0_; have HO308 := n1_; have HB := n2_; clear n0_ n1_ n2_; (try clear hb); (try clear hb2); (try clear hk); (try clear hi); (try clear ho0); obtain ⟨Ao35, co35, eo35⟩ := Kd.R_slice HO305.out; subst eo35; obtain ⟨Ao36, co36, eo36⟩ := Kd.R_slice HO308.out; subst eo36; have p309 : 0 ≤ (0 : Int) := (by omega); have q309 : 0 < (t303.length : Int) := of_decide_eq_true (by first | (with_reducible assumption) | assumption); obtain ⟨ad309, e309, hx309_0⟩ := Kd.at_string (Kd.R_reads' HO305.out).2.2 0 p309 q309; cases e309; have qi309 : (0 < t303.length) = True := eq_true (by omega); (try rw [show ((0 : Int)).toNat = 0 from rfl] at hx309_0); (try rw [Addr.add_zero'] at hx309_0); replace p309 := eq_true p309; replace q309 := eq_true q309; have p310 : 0 ≤ ((ji30) : Int) := of_decide_eq_true (by first | (with_reducible assumption) | assumption); have q310 : (ji30) < (t303.length : Int) := of_decide_eq_true (by first | (with_reducible assumption) | assumption); obtain ⟨ad310, e310, hx310_0⟩ := Kd.at_string (Kd.R_reads' HO305.out).2.2 (ji30) p310 q310; obtain rfl : ad309 = ad310 := (by injection e310); replace p310 := eq_true p310; replace q310 := eq_true q310))
                                        go_ret
                                        exact ⟨by first | rfl | (refine retEq ?_; first | exact szw c23b7 (by decide) (by decide) | exact szw c22b7 (by decide) (by decide) | exact szw c21b7 (by decide) (by decide) | exact szw c20b7 (by decide) (by decide) | exact szw c19b7 (by decide) (by decide)) | (simp [errW_none, errW_some] <;> rfl) | (simp only [← hji30]; first | rfl | (simp [errW_none, errW_some] <;> rfl)) | (simp [*, errW_none, errW_some] <;> rfl), by repeat (first | (with_reducible first | exact HB.out | apply below_alloc | apply pw_below_drewN | apply below_drew1) | exact HB.out)⟩
                                      · rw [if_neg c32] at H
                                        exact absurd H (by simp)
                                    · rw [if_neg c31] at H
                                      exact absurd H (by simp)
                                  · rw [if_neg c29] at H
                                    cases H
                                · rw [if_neg c28] at H
                                  exact absurd H (by simp)
                              · rw [if_neg c27] at H
                                cases H
                            · replace c26 := Bool.eq_false_iff.mpr c26
                              subst c26
                              have H1 : (none) = some r := by rw [if_neg (show ¬ (false = true) by decide)] at H; exact H
                              cases H1
                          · rw [if_neg c23] at H
                            exact absurd H (by simp)
                        · rw [if_neg c22] at H
                          exact absurd H (by simp)
                      · rw [if_neg c21] at H
                        exact absurd H (by simp)
                    · rw [if_neg c20] at H
                      exact absurd H (by simp)
                  · rw [if_neg c19] at H
                    exact absurd H (by simp)
                · rw [if_neg c18] at H
                  exact absurd H (by simp)
            · rw [if_neg c12] at H
              exact absurd H (by simp)

end Go.Proofs.Ytjcfjgcnkbbgmaa.PA

namespace Go.Proofs.Ytjcfjgcnkbbgmaa.Pure
open Go.RowKit Go.Proofs.YtjcfjgcnkbbgmaaW.PrintWords Go.Proofs.YtjcfjgcnkbbgmaaW.PrintMore Go.Proofs.Ytjcfjgcnkbbgmaa.Pl Go.Proofs.Ytjcfjgcnkbbgmaa.PA

theorem lets_plain {a : List UInt8} (h : lets a) : ∀ x ∈ a, x ≠ 34 ∧ x ≠ 60 ∧ x ≠ 62 := by
  intro x hx
  have := h x hx
  refine ⟨?_, ?_, ?_⟩ <;> rintro rfl <;> exact absurd this (by decide)
theorem tk_p (a r : List UInt8) (ha : lets a) : tk ([60, 112, 32, 105, 100, 61, 34] ++ a ++ [34, 62] ++ r) = .inl (B [112], false, false, [⟨B [105, 100], B a⟩]) :: tk r := by
  have hat : ∀ f, ats (f + 2) (32 :: ([105, 100] ++ 61 :: 34 :: (a ++ 34 :: 62 :: r))) = ([⟨B [105, 100], B a⟩], 62 :: r) := by
    intro f
    rw [ats_one (f + 1) [105, 100] a (62 :: r) (by intro x hx; simp at hx; rcases hx with rfl | rfl <;> decide) (by decide) (lets_plain ha), ats_none _ (62 :: r) rfl]
  have h := tk_gen [112] (32 :: ([105, 100] ++ 61 :: 34 :: (a ++ [34]))) (62 :: r) [⟨B [105, 100], B a⟩] 32 ([105, 100] ++ 61 :: 34 :: (a ++ 34 :: 62 :: r)) (by simp) (ok32 false) (by intro x hx; simp at hx; subst hx; decide) (by decide)
    (by
      have e : 32 :: ([105, 100] ++ 61 :: 34 :: (a ++ [34])) ++ 62 :: r = 32 :: ([105, 100] ++ 61 :: 34 :: (a ++ 34 :: 62 :: r)) := by simp
      rw [e]
      obtain ⟨f, hf⟩ : ∃ f, ([112] ++ 32 :: ([105, 100] ++ 61 :: 34 :: (a ++ 34 :: 62 :: r))).length = f + 2 := ⟨([112] ++ 32 :: ([105, 100] ++ 61 :: 34 :: (a ++ 34 :: 62 :: r))).length - 2, by simp⟩
      rw [hf]
      exact hat f) false 1 (.inl ⟨rfl, rfl, by simp [List.isPrefixOf]⟩)
  have e : [60, 112, 32, 105, 100, 61, 34] ++ a ++ [34, 62] ++ r = 60 :: ([112] ++ (32 :: ([105, 100] ++ 61 :: 34 :: (a ++ [34])) ++ 62 :: r)) := by simp
  rw [e, h]
  rfl
theorem tk_q (b : List UInt8) (hb : lets b) : tk ([60, 113, 32, 99, 108, 97, 115, 115, 61, 34, 120, 34, 32, 105, 100, 61, 34] ++ b ++ [34, 32, 47, 62]) = [.inl (B [113], false, true, [⟨B [99, 108, 97, 115, 115], B [120]⟩, ⟨B [105, 100], B b⟩])] := by
  have hat : ∀ f, ats (f + 3) (32 :: ([99, 108, 97, 115, 115] ++ 61 :: 34 :: ([120] ++ 34 :: (32 :: ([105, 100] ++ 61 :: 34 :: (b ++ 34 :: [32, 47, 62])))))) = ([⟨B [99, 108, 97, 115, 115], B [120]⟩, ⟨B [105, 100], B b⟩], [32, 47, 62]) := by
    intro f
    rw [ats_one (f + 2) [99, 108, 97, 115, 115] [120] _ (by intro x hx; simp at hx; rcases hx with rfl | rfl | rfl | rfl | rfl <;> decide) (by decide) (by intro x hx; simp at hx; subst hx; decide),
      ats_one (f + 1) [105, 100] b [32, 47, 62] (by intro x hx; simp at hx; rcases hx with rfl | rfl <;> decide) (by decide) (lets_plain hb), ats_none _ [32, 47, 62] rfl]
  have h := tk_gen [113] (32 :: ([99, 108, 97, 115, 115] ++ 61 :: 34 :: ([120] ++ 34 :: (32 :: ([105, 100] ++ 61 :: 34 :: (b ++ [34])))))) [32, 47, 62] [⟨B [99, 108, 97, 115, 115], B [120]⟩, ⟨B [105, 100], B b⟩] 32 ([99, 108, 97, 115, 115] ++ 61 :: 34 :: ([120] ++ 34 :: (32 :: ([105, 100] ++ 61 :: 34 :: (b ++ 34 :: [32, 47, 62]))))) (by simp) (ok32 false) (by intro x hx; simp at hx; subst hx; decide) (by decide)
    (by
      have e : 32 :: ([99, 108, 97, 115, 115] ++ 61 :: 34 :: ([120] ++ 34 :: (32 :: ([105, 100] ++ 61 :: 34 :: (b ++ [34]))))) ++ [32, 47, 62] = 32 :: ([99, 108, 97, 115, 115] ++ 61 :: 34 :: ([120] ++ 34 :: (32 :: ([105, 100] ++ 61 :: 34 :: (b ++ 34 :: [32, 47, 62]))))) := by simp
      rw [e]
      obtain ⟨f, hf⟩ : ∃ f, ([113] ++ 32 :: ([99, 108, 97, 115, 115] ++ 61 :: 34 :: ([120] ++ 34 :: (32 :: ([105, 100] ++ 61 :: 34 :: (b ++ 34 :: [32, 47, 62])))))).length = f + 3 := ⟨([113] ++ 32 :: ([99, 108, 97, 115, 115] ++ 61 :: 34 :: ([120] ++ 34 :: (32 :: ([105, 100] ++ 61 :: 34 :: (b ++ 34 :: [32, 47, 62])))))).length - 3, by simp⟩
      rw [hf]
      exact hat f) true 3 (.inr ⟨rfl, rfl, by simp [List.isPrefixOf]⟩)
  have e : [60, 113, 32, 99, 108, 97, 115, 115, 61, 34, 120, 34, 32, 105, 100, 61, 34] ++ b ++ [34, 32, 47, 62] = 60 :: ([113] ++ (32 :: ([99, 108, 97, 115, 115] ++ 61 :: 34 :: ([120] ++ 34 :: (32 :: ([105, 100] ++ 61 :: 34 :: (b ++ [34]))))) ++ [32, 47, 62])) := by simp
  rw [e, h]
  rfl
theorem ids_last (a b s : List UInt8) (ha : a.length + b.length ≤ 300) (hs : s.length ≤ 500) (hl : lets (a ++ b)) (CS : Hid (chkK [] (tk s) = some [])) : Ev (fun k => incipitlaw21_TagsIds.l0 k (B a) (B b) (B s) true (((a ++ b).length : Nat) : Int)) true := by
  have la : lets a := fun x hx => hl x (List.mem_append_left _ hx)
  have lb : lets b := fun x hx => hl x (List.mem_append_right _ hx)
  have l1 : (⟨#[60, 112, 32, 105, 100, 61, 34]⟩ : ByteArray) = B [60, 112, 32, 105, 100, 61, 34] := rfl
  have l2 : (⟨#[34, 62]⟩ : ByteArray) = B [34, 62] := rfl
  have l3 : (⟨#[60, 47, 112, 62, 60, 113, 32, 99, 108, 97, 115, 115, 61, 34, 120, 34, 32, 105, 100, 61, 34]⟩ : ByteArray) = B [60, 47, 112, 62, 60, 113, 32, 99, 108, 97, 115, 115, 61, 34, 120, 34, 32, 105, 100, 61, 34] := rfl
  have l4 : (⟨#[34, 32, 47, 62]⟩ : ByteArray) = B [34, 32, 47, 62] := rfl
  have hcs := chkK_clean _ _ _ CS.out
  have k1 : idsK (tk ([60, 112, 32, 105, 100, 61, 34] ++ a ++ [34, 62] ++ s ++ [60, 47, 112, 62, 60, 113, 32, 99, 108, 97, 115, 115, 61, 34, 120, 34, 32, 105, 100, 61, 34] ++ b ++ [34, 32, 47, 62])) = B a :: (idsK (tk s) ++ [B b]) := by
    have e : [60, 112, 32, 105, 100, 61, 34] ++ a ++ [34, 62] ++ s ++ [60, 47, 112, 62, 60, 113, 32, 99, 108, 97, 115, 115, 61, 34, 120, 34, 32, 105, 100, 61, 34] ++ b ++ [34, 32, 47, 62] =
        [60, 112, 32, 105, 100, 61, 34] ++ a ++ [34, 62] ++ (s ++ 60 :: 47 :: ([112] ++ 62 :: ([60, 113, 32, 99, 108, 97, 115, 115, 61, 34, 120, 34, 32, 105, 100, 61, 34] ++ b ++ [34, 32, 47, 62]))) := by simp
    rw [e, tk_p a _ la, tk_app _ s _ (Nat.le_refl _) hcs, tk_end [112] _ (by intro x hx; simp at hx; subst hx; decide) (by decide), tk_q b lb, idsK, idsK_app, idsK, idsK, idsK]
    show idsL [⟨B [105, 100], B a⟩] ++ (idsK (tk s) ++ (idsL [] ++ (idsL [⟨B [99, 108, 97, 115, 115], B [120]⟩, ⟨B [105, 100], B b⟩] ++ []))) = _
    have i1 : idsL [(⟨B [105, 100], B a⟩ : S45)] = [B a] := by unfold idsL; simp [B_toList]
    have i2 : idsL [(⟨B [99, 108, 97, 115, 115], B [120]⟩ : S45), ⟨B [105, 100], B b⟩] = [B b] := by unfold idsL; simp [B_toList]
    rw [i1, i2]
    simp [idsL]
  have e1 := ids_ev ([60, 112, 32, 105, 100, 61, 34] ++ a ++ [34, 62] ++ s ++ [60, 47, 112, 62, 60, 113, 32, 99, 108, 97, 115, 115, 61, 34, 120, 34, 32, 105, 100, 61, 34] ++ b ++ [34, 32, 47, 62]) (by simp; omega)
  rw [k1] at e1
  have e2 := ids_ev s (by omega)
  have E1 := Lib.hid e1
  have E2 := Lib.hid e2
  clear e1 e2 k1 hcs la lb
  have hln : (idsK (tk s)).length ≤ 500 := by
    have h : ∀ ts : List Tok, (idsK ts).length ≤ attN ts := by
      intro ts
      induction ts with
      | nil => exact Nat.le_refl _
      | cons q ts ih =>
        cases q with
        | inl t => have := idsL_len t.2.2.2; rw [idsK, attN, List.length_append]; omega
        | inr c => rw [idsK, attN]; exact ih
    have := h (tk s)
    have := tok_att _ s (Nat.le_refl _)
    have h2 : attN (tk s) ≤ s.length := this
    omega
  have hll : (B a :: (idsK (tk s) ++ [B b])).length = (idsK (tk s)).length + 2 := by simp
  refine Ev.succ ?_
  simp only [incipitlaw21_TagsIds.l0, l1, l2, l3, l4, B_append, B_size, List.length_append, List.length_cons, List.length_nil]
  refine Ev.guard (by omega) (Ev.other (by omega) ?_)
  refine Ev.guard (by omega) (Ev.guard (by omega) (Ev.guard (by omega) (Ev.guard (by omega) (Ev.guard (by omega) (Ev.guard (by omega) ?_)))))
  refine Ev.bind E1.out (Ev.bind E2.out ?_)
  rw [hll]
  have w1 : wrap64 (((idsK (tk s)).length : Int) + 2) = (((idsK (tk s)).length + 2 : Nat) : Int) := by rw [w64 (by omega) (by omega)]; omega
  have w2 : wrap64 ((((idsK (tk s)).length + 2 : Nat) : Int) - 1) = (((idsK (tk s)).length + 1 : Nat) : Int) := by rw [w64 (by omega) (by omega)]; omega
  refine Ev.const ?_
  have g0 : rdOf ByteArray.empty (B a :: (idsK (tk s) ++ [B b])) 0 = B a := rfl
  have g1 : rdOf ByteArray.empty (B a :: (idsK (tk s) ++ [B b])) (((idsK (tk s)).length + 1 : Nat) : Int) = B b := by
    unfold rdOf
    rw [Int.toNat_natCast, List.getD_cons_succ, List.getD_eq_getElem?_getD, List.getElem?_append_right (Nat.le_refl _), Nat.sub_self]
    rfl
  have c1 : (0 : Int) < (((idsK (tk s)).length + 2 : Nat) : Int) := by omega
  have c2 : (0 : Int) ≤ (((idsK (tk s)).length + 1 : Nat) : Int) := by omega
  have c3 : (((idsK (tk s)).length + 1 : Nat) : Int) < (((idsK (tk s)).length + 2 : Nat) : Int) := by omega
  rw [w1, w2, if_pos trivial, if_pos rfl, if_pos c1, g0, if_pos rfl, if_pos c2, if_pos c3, g1, beq_self_eq_true]
theorem ids_step (a b s c : List UInt8) (hbb : B a ++ B b = B c) (ha : a.length + b.length ≤ 300) (hcl : c.length ≤ 300) (i : Nat) (hlt : i < c.length) (x : UInt8) (hx : c[i] = x) (k : Nat) :
    incipitlaw21_TagsIds.l0 (k + 1) (B a) (B b) (B s) true (i : Int) = if (x.toNat : Int) < 97 then some true else if (x.toNat : Int) > 122 then some true else incipitlaw21_TagsIds.l0 k (B a) (B b) (B s) true ((i + 1 : Nat) : Int) := by
  have hsz := B_size c
  have hbt := B_bt c i hlt
  rw [hx] at hbt
  have hw : wrap64 ((i : Int) + 1) = ((i + 1 : Nat) : Int) := by rw [w64 (by omega) (by omega)]; omega
  have g1 : (i : Int) < ((B c).size : Int) := by rw [hsz]; exact Int.ofNat_lt.2 hlt
  have g0 : (B a).size + (B b).size ≤ 9223372036854775807 := by rw [B_size, B_size]; omega
  have g2 : (0 : Int) ≤ (i : Int) := Int.natCast_nonneg i
  rw [incipitlaw21_TagsIds.l0, if_pos g0, hbb, if_pos g1, if_pos g2, hbt, hw]
theorem ids_at (a b s c : List UInt8) (hc : Hid (c = a ++ b)) (hcl : c.length ≤ 300) (ha : a.length + b.length ≤ 300) (hs : s.length ≤ 500) (cs : Hid (chkK [] (tk s) = some [])) : ∀ (m i : Nat), m = c.length - i → i ≤ c.length → lets (c.take i) → Ev (fun k => incipitlaw21_TagsIds.l0 k (B a) (B b) (B s) true (i : Int)) true := by
  intro m
  induction m with
  | zero =>
    intro i hm hi h
    obtain rfl : i = c.length := by omega
    rw [List.take_length] at h
    have e := hc.out
    subst e
    exact ids_last a b s ha hs h cs
  | succ m ih =>
    intro i hm hi h
    have hlt : i < c.length := by omega
    obtain ⟨x, hx⟩ : ∃ x, c[i] = x := ⟨_, rfl⟩
    refine Ev.step (ids_step a b s c (by rw [B_append, hc.out]) ha hcl i hlt x hx) ?_
    by_cases h1 : (x.toNat : Int) < 97
    · exact Ev.guard h1 (Ev.now _)
    · refine Ev.other h1 ?_
      by_cases h2 : (x.toNat : Int) > 122
      · exact Ev.guard h2 (Ev.now _)
      · refine Ev.other h2 (ih (i + 1) (by omega) (by omega) ?_)
        intro y hy
        rw [← List.take_append_getElem hlt, hx, List.mem_append, List.mem_singleton] at hy
        rcases hy with hy | rfl
        · exact h y hy
        · unfold sm
          rw [decide_eq_true (by omega), decide_eq_true (by omega)]
          rfl
theorem TagsIds : ∀ (a0 : ByteArray) (a1 : ByteArray) (a2 : ByteArray), a0.size ≤ 140737488351232 → a1.size ≤ 140737488351232 → a2.size ≤ 140737488351232 → ∃ k, PA.incipitlaw21_TagsIds.f k a0 a1 a2 = some true := by
  intro a0 a1 a2 z0 z1 z2
  refine Ev.rounds ?_
  obtain ⟨a, rfl⟩ : ∃ l, a0 = B l := ⟨a0.data.toList, (B_eta a0).symm⟩
  obtain ⟨b, rfl⟩ : ∃ l, a1 = B l := ⟨a1.data.toList, (B_eta a1).symm⟩
  obtain ⟨s, rfl⟩ : ∃ l, a2 = B l := ⟨a2.data.toList, (B_eta a2).symm⟩
  rw [B_size] at z0 z1 z2
  have z : Ev (fun k => incipitlaw21_TagsIds.j0 k (B a) (B b) (B s) true true) true := Ev.step (f := fun _ => some true) (fun k => by rw [incipitlaw21_TagsIds.j0, if_pos rfl]) (Ev.now _)
  have hw : wrap64 ((a.length : Int) + (b.length : Int)) = (a.length : Int) + (b.length : Int) := w64 (by omega) (by omega)
  unfold incipitlaw21_TagsIds.f
  refine Ev.bind awake_ev ?_
  simp only [B_size, hw]
  by_cases h1 : (a.length : Int) + (b.length : Int) > 300
  · exact Ev.guard h1 z
  · refine Ev.other h1 ?_
    by_cases h2 : (s.length : Int) > 500
    · exact Ev.guard h2 z
    · refine Ev.other h2 ?_
      refine Ev.bind (check_ev s (by omega)) ?_
      cases hc : chkR (chkK [] (tk s)) with
      | false => exact z
      | true =>
        refine Ev.succ ?_
        simp only [incipitlaw21_TagsIds.j0]
        refine Ev.other (by decide) ?_
        exact ids_at a b s (a ++ b) (Lib.hid rfl) (by rw [List.length_append]; omega) (by omega) (by omega) (Lib.hid (chkR_true hc)) _ 0 rfl (Nat.zero_le _) (fun y hy => by rw [List.take_zero] at hy; cases hy)
end Go.Proofs.Ytjcfjgcnkbbgmaa.Pure
