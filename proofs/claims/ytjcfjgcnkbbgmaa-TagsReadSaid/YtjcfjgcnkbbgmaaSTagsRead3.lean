/-
  Texts of the proof of TagsRead, part 3 of 6: contracts and plain laws. Conditions: see each statement.
-/
import Derived.Test.YtjcfjgcnkbbgmaaSTagsRead2
import Derived.Test.YtjcfjgcnkbbgmaaSTagsRead1
import Derived.Lib.Hide
import Derived.WalkKit
import Derived.BigCall
import Derived.WalkLawsBesides
import Derived.Outline
import Derived.RangeFuncBox
import Derived.Lib.FrozenHead
import Derived.Maps.AppendAt
import Derived.Recover
import Derived.StillTailTactics
import Derived.Deep.RegionWith
import Derived.Defers
set_option linter.unusedVariables false
namespace Go.Proofs.Ytjcfjgcnkbbgmaa.PA
open Go.RowKit Go.Proofs.Ytjcfjgcnkbbgmaa.Pl Go.Proofs.YtjcfjgcnkbbgmaaW.PrintWords Go.Proofs.YtjcfjgcnkbbgmaaW.PrintLast Go.Proofs.YtjcfjgcnkbbgmaaW.PrintMore
set_option linter.unusedVariables false

/-- How a call ends that is told a tag or a byte: it goes on with what it has gathered, or it panics. -/
def EndE {σ : Type} (I : σ → World → Prop) (J : List PanicEntry → World → Prop) (r : Option σ) (e : Ending) (w : World) : Prop :=
  match r with
  | none => ∃ ch, e = .panicked ch ∧ J ch w
  | some y => e = .returned (.tuple #[]) ∧ I y w
/-- A text's tags and the bytes between them, told in order. -/
def tags_each.l {σ : Type} (fT : σ → ByteArray → Bool → Bool → List S45 → Option (Option σ)) (fO : σ → Int → Option (Option σ)) (k : Nat) : Nat → ByteArray → σ → Option (Option σ)
  | 0, _, _ => none
  | f + 1, s, x => if s.toList = [] then some (some x) else (tags_Read.f k s).bind fun t =>
      if t.2.2.2.2 = 0 then (fO x (bt s 0)).bind fun r => (match r with | none => some none | some y => tags_each.l fT fO k f (s.extract 1 s.size) y)
      else if 0 ≤ t.2.2.2.2 ∧ t.2.2.2.2 ≤ (s.size : Int) then (fT x t.1 t.2.1 t.2.2.1 t.2.2.2.1).bind fun r => (match r with | none => some none | some y => tags_each.l fT fO k f (s.extract t.2.2.2.2.toNat s.size) y) else none
set_option maxHeartbeats 4000000 in
set_option maxRecDepth 100000 in
theorem each_walk {σ : Type} (fT : σ → ByteArray → Bool → Bool → List S45 → Option (Option σ)) (fO : σ → Int → Option (Option σ)) (I : σ → World → Prop) (J : List PanicEntry → World → Prop) (k ft fo : Nat) (ct co : Array Value)
    (eft : ∀ args w, (callFunc ft args).run Try.prog w = .ok (.enter ft args) w) (efo : ∀ args w, (callFunc fo args).run Try.prog w = .ok (.enter fo args) w)
    (hI : ∀ x W W', I x W → Below W.heap.size W W' → I x W') (hL : ∀ x W, I x W → Laid W)
    (hT : ∀ x W n e v A c l b r, fT x n e v l = some r → I x W → Kd.R k45 45 W b (fun _ => True) (.slice A l.length c) l → Calls Try.prog ft (#[.agg #[.string n, .bool e, .bool v, .slice A l.length c]] ++ ct) W (EndE I J r))
    (hO : ∀ x W b r, fO x b = some r → 0 ≤ b → b ≤ 255 → I x W → Calls Try.prog fo (#[.int .u8 b] ++ co) W (EndE I J r))
    (s0 : ByteArray) (x0 : σ) (R : Option σ) (f0 : Nat) (hR : tags_each.l fT fO k f0 s0 x0 = some R) (w : World) (h0 : I x0 w) :
    Calls Try.prog 26 #[.string s0, .func (.func ft) #[] ct, .func (.func fo) #[] co] w (EndE I J R) := by
  have HI := Lib.hid hI
  have HL := Lib.hid hL
  have HT := Lib.hid hT
  have HO := Lib.hid hO
  clear hI hL hT hO
  go_enter Try.func26, Try.ntmps26
  go_wp2
  go_loopw [0] (fun v0 wr => ∃ f s x, v0 = .string s ∧ Hid (tags_each.l fT fO k f s x = some R) ∧ Hid (I x wr))
    (fun v0 wr => match v0 with | .string s => s.size | _ => 0)
  case atStart => exact ⟨f0, s0, x0, rfl, Lib.hid hR, Lib.hid h0⟩
  case round =>
    obtain ⟨f, s, x, rfl, HA, HX⟩ := hrel
    have hA := HA.out
    clear HA
    cases f with
    | zero => cases hA
    | succ f =>
    rw [tags_each.l] at hA
    by_cases hs : s.toList = []
    · rw [if_pos hs] at hA
      cases hA
      have q : (!s.toList.isEmpty) = false := by rw [hs]; rfl
      go_wp2
      first | (exact ⟨rfl, rfl, HX.out⟩) | (refine bodyPost_ret (results_none rfl _ _ _) rfl ?_; exact ⟨rfl, HX.out⟩) | (go_end0; exact ⟨rfl, HX.out⟩)
    · rw [if_neg hs] at hA
      obtain ⟨⟨n, e, v, l, d⟩, hRd, hA⟩ := Option.bind_eq_some_iff.1 hA
      dsimp only at hA
      have q : (!s.toList.isEmpty) = true := by cases hq : s.toList with | nil => exact absurd hq hs | cons _ _ => rfl
      have hsz : 0 < s.size := by
        rcases Nat.eq_zero_or_pos s.size with h | h
        · exact absurd (by rw [Lib.toList_data]; exact List.length_eq_zero_iff.1 (by simpa using h)) hs
        · exact h
      have HRd := Lib.hid (fun W hW => tags_Read.calls k s n e v l d W hW hRd)
      have HA := Lib.hid hA
      clear hRd hA
      go_wp2_with fail
      refine (HRd.out _ (HL.out _ _ HX.out)).mono ?_
      rintro e1 w1 ⟨v3, rfl, hv, hb1⟩
      obtain ⟨Ao, co_, rfl⟩ := Kd.R_slice hv
      have HX1 := Lib.hid (HI.out _ _ _ HX.out hb1)
      have HV := Lib.hid hv
      clear hb1 hv HX HRd
      by_cases hd : d = 0
      · subst hd
        have hbt : bt s 0 = (s[0].toNat : Int) := by unfold bt; rw [dif_pos (show Int.toNat 0 < s.size from hsz)]; rfl
        have hb0 := s[0].toNat_lt
        have hA := HA.out
        first | rw [if_pos rfl, hbt] at hA | rw [if_pos trivial, hbt] at hA
        obtain ⟨r, hf, hA⟩ := Option.bind_eq_some_iff.1 hA
        have HF := Lib.hid hf
        clear hf
        go_wp2_with fail
        refine (HO.out x _ _ r HF.out (by omega) (by omega) (HI.out _ _ _ HX1.out (below_alloc (Below.refl _ _) _))).mono ?_
        intro e2 w2 he
        cases r with
        | none =>
          obtain ⟨ch, rfl, hJ⟩ := he
          cases hA
          have HJ := Lib.hid hJ
          clear hJ
          go_wp2
          exact ⟨rfl, ch, rfl, HJ.out⟩
        | some y =>
          obtain ⟨rfl, hX2⟩ := he
          have HX2 := Lib.hid hX2
          have HA2 := Lib.hid hA
          clear hA HA hX2 hbt hb0
          go_wp2
          go_roundw
          case rel => exact ⟨f, _, y, rfl, HA2, HX2⟩
          case measure => simp; omega
      · have hq : (d == 0) = false := beq_eq_false_iff_ne.2 hd
        have hA := HA.out
        rw [if_neg hd] at hA
        by_cases hn : 0 ≤ d ∧ d ≤ (s.size : Int)
        case neg => rw [if_neg hn] at hA; cases hA
        rw [if_pos hn] at hA
        obtain ⟨hn0, hn1⟩ := hn
        obtain ⟨r, hf, hA⟩ := Option.bind_eq_some_iff.1 hA
        have HF := Lib.hid hf
        clear hf
        go_wp2_with fail
        refine (HT.out x _ n e v Ao co_ l wr.heap.size r HF.out (HI.out _ _ _ HX1.out (below_alloc (Below.refl _ _) _)) (Kd.R_alloc HV.out _)).mono ?_
        intro e2 w2 he
        cases r with
        | none =>
          obtain ⟨ch, rfl, hJ⟩ := he
          cases hA
          have HJ := Lib.hid hJ
          clear hJ
          go_wp2
          exact ⟨rfl, ch, rfl, HJ.out⟩
        | some y =>
          obtain ⟨rfl, hX2⟩ := he
          have HX2 := Lib.hid hX2
          have HA2 := Lib.hid hA
          clear hA HA hX2
          go_wp2
          go_roundw
          case rel => exact ⟨f, _, y, rfl, HA2, HX2⟩
          case measure => simp; omega
theorem tags_each.mono_l {σ : Type} (fT : σ → ByteArray → Bool → Bool → List S45 → Option (Option σ)) (fO : σ → Int → Option (Option σ)) : ∀ (f k : Nat) (s : ByteArray) (x : σ) (r), tags_each.l fT fO k f s x = some r → tags_each.l fT fO (k + 1) (f + 1) s x = some r
  | 0, _, _, _, _, h => by cases h
  | f + 1, k, s, x, r, h => by
    rw [tags_each.l] at h
    rw [tags_each.l]
    by_cases hs : s.toList = []
    · rw [if_pos hs] at h ⊢
      exact h
    · rw [if_neg hs] at h ⊢
      obtain ⟨t, hT, h⟩ := Option.bind_eq_some_iff.1 h
      rw [tags_Read.mono s k t hT]
      show (if _ then _ else _) = _
      by_cases h0 : t.2.2.2.2 = 0
      · rw [if_pos h0] at h ⊢
        obtain ⟨q, hq, h⟩ := Option.bind_eq_some_iff.1 h
        rw [hq]
        cases q with
        | none => exact h
        | some y => exact tags_each.mono_l fT fO f k _ _ _ h
      · rw [if_neg h0] at h ⊢
        by_cases hn : 0 ≤ t.2.2.2.2 ∧ t.2.2.2.2 ≤ (s.size : Int)
        · rw [if_pos hn] at h ⊢
          obtain ⟨q, hq, h⟩ := Option.bind_eq_some_iff.1 h
          rw [hq]
          cases q with
          | none => exact h
          | some y => exact tags_each.mono_l fT fO f k _ _ _ h
        · rw [if_neg hn] at h
          cases h
end Go.Proofs.Ytjcfjgcnkbbgmaa.PA

namespace Go.Proofs.Ytjcfjgcnkbbgmaa.PA
open Go.RowKit Go.Proofs.Ytjcfjgcnkbbgmaa.Pl Go.Proofs.YtjcfjgcnkbbgmaaW.PrintWords Go.Proofs.YtjcfjgcnkbbgmaaW.PrintLast Go.Proofs.YtjcfjgcnkbbgmaaW.PrintMore
set_option linter.unusedVariables false

theorem isB_below {T e B b : Nat} {bs : List Value} {w w' : World} (h : Lib.IsBuilder T e B b bs w) (hb : Below w.heap.size w w') : Lib.IsBuilder T e B b bs w' := by
  have go : ∀ p, Lib.BuilderAt T e B b p bs w → Lib.BuilderAt T e B b p bs w' := by
    intro p h
    have hlt := h.lt
    obtain ⟨h1, v, h2, h3, h4⟩ := h
    exact ⟨h1, v, (hb.block _ hlt).trans h2, pw_own_below h3 hb, h4⟩
  rcases h with h | h
  · exact .inl (go _ h)
  · exact .inr (go _ h)
theorem byteCells_snoc (x : List UInt8) (b : Int) (h0 : 0 ≤ b) (h1 : b ≤ 255) : Lib.byteCells x ++ [.int .u8 b] = Lib.byteCells (x ++ [b.toNat.toUInt8]) := by
  unfold Lib.byteCells
  rw [List.map_append, List.map_cons, List.map_nil]
  have : ((b.toNat.toUInt8.toNat : Nat) : Int) = b := by
    rw [show b.toNat.toUInt8.toNat = b.toNat % 256 from rfl]
    omega
  rw [this]
theorem text_tag (n : ByteArray) (e v : Bool) (A : Option Addr) (m c : Nat) (W : World) :
    Calls Try.prog 32 #[.agg #[.string n, .bool e, .bool v, .slice A m c]] W fun e w' => e = .returned (.tuple #[]) ∧ Below W.heap.size W w' := by
  go_enter Try.func32, Try.ntmps32
  go_wp2
  first | go_end0 | refine bodyPost_ret (results_none rfl _ _ _) rfl ?_
  exact ⟨rfl, below_alloc (Below.refl _ _) _⟩
/-- What is left of a text: the bytes between its tags. -/
def txtT : List UInt8 → ByteArray → Bool → Bool → List S45 → Option (Option (List UInt8)) := fun x _ _ _ _ => some (some x)
def txtO : List UInt8 → Int → Option (Option (List UInt8)) := fun x b => if x.length < 1048576 then some (some (x ++ [b.toNat.toUInt8])) else none
structure TxI (w : World) (x : List UInt8) (W : World) : Prop where
  isb : Lib.IsBuilder 58 5 w.heap.size w.heap.size (Lib.byteCells x) W
  bel : Below w.heap.size w W
theorem TxI.go {w : World} {x : List UInt8} {W W' : World} (h : TxI w x W) (hb : Below W.heap.size W W') : TxI w x W' := ⟨isB_below h.isb hb, h.bel.trans (hb.mono h.bel.size)⟩
theorem text_byte (w : World) (x : List UInt8) (W : World) (b : Int) (h0 : 0 ≤ b) (h1 : b ≤ 255) (hx : x.length < 1048576) (h : TxI w x W) :
    Calls Try.prog 33 #[.int .u8 b, .pointer (some ⟨w.heap.size, 0, none⟩)] W fun e w' => e = .returned (.tuple #[]) ∧ TxI w (x ++ [b.toNat.toUInt8]) w' := by
  have HW := Lib.hid (Try.Builder_WriteByte w.heap.size w.heap.size (Lib.byteCells x) b W h.isb (by rw [Lib.byteCells_length]; omega) h.bel.size)
  have HX := Lib.hid h
  clear h
  go_enter Try.func33, Try.ntmps33
  go_wp2_with fail
  refine HW.out.mono ?_
  rintro e w1 ⟨rfl, hB, hb⟩
  have HI := Lib.hid (show TxI w (x ++ [b.toNat.toUInt8]) w1 from ⟨by rw [← byteCells_snoc x b h0 h1]; exact .inr hB, HX.out.bel.trans hb⟩)
  clear hB hb HW HX
  go_wp2
  first | go_end0 | refine bodyPost_ret (results_none rfl _ _ _) rfl ?_
  exact ⟨rfl, HI.out⟩
def tags_Text.f (k : Nat) (a0 : ByteArray) : Option ByteArray := (tags_each.l txtT txtO k k a0 []).bind fun r => r.map B
set_option maxHeartbeats 1000000 in
set_option maxRecDepth 100000 in
theorem tags_Text.calls (k : Nat) (a0 : ByteArray) (r : ByteArray) (w : World) (hLd : Laid w) (h : tags_Text.f k a0 = some r) :
    Calls Try.prog 17 #[.string a0] w fun e w' => e = .returned (.string r) ∧ Below w.heap.size w w' := by
  obtain ⟨q, hq, hr⟩ := Option.bind_eq_some_iff.1 h
  cases q with
  | none => cases hr
  | some x =>
  obtain rfl := Option.some.inj hr
  have HB0 := Lib.hid ((Below.refl w.heap.size w).alloc (Nat.le_refl _) (.cells #[.pointer none, .slice none 0 0] 58 (0, 0)))
  have HI0 := Lib.hid (Lib.fresh_isBuilder 58 5 w)
  have HE := Lib.hid (fun W (hW : TxI w [] W) => each_walk txtT txtO (TxI w) (fun _ _ => False) k 32 33 #[] #[.pointer (some ⟨w.heap.size, 0, none⟩)]
    (enters_of Try.func32 (by kernel_rfl) rfl) (enters_of Try.func33 (by kernel_rfl) rfl)
    (fun x W W' h hb => h.go hb) (fun x W h => hLd.go h.bel)
    (fun x W n e v A c l b r hf hI hR => by
      obtain rfl := Option.some.inj hf
      refine (text_tag n e v A l.length c W).mono ?_
      rintro e2 w2 ⟨rfl, hb⟩
      exact ⟨rfl, hI.go hb⟩)
    (fun x W b r hf h0 h1 hI => by
      unfold txtO at hf
      split at hf
      · rename_i hx
        obtain rfl := Option.some.inj hf
        exact text_byte w x W b h0 h1 hx hI
      · cases hf)
    a0 [] (some x) k hq W hW)
  clear h hq hr hLd
  go_enter Try.func17, Try.ntmps17
  go_wp2_with fail
  refine (HE.out _ ⟨HI0.out, HB0.out⟩).mono ?_
  rintro e w1 ⟨rfl, hX⟩
  have HX := Lib.hid hX
  have hbs := hX.bel.size
  clear hX HE HI0 HB0
  go_wp2_with fail
  refine (Try.Builder_String_any w.heap.size w.heap.size x _ HX.out.isb hbs).mono ?_
  rintro e w2 ⟨rfl, h2⟩
  go_wp2
  go_ret
  exact ⟨rfl, HX.out.bel.trans h2⟩
theorem tags_Text.mono : ∀ a0 k, LeO (tags_Text.f k a0) (tags_Text.f (k + 1) a0) := by
  intro a0 k r h
  obtain ⟨q, hq, h⟩ := Option.bind_eq_some_iff.1 h
  exact Option.bind_eq_some_iff.2 ⟨q, tags_each.mono_l _ _ _ _ _ _ _ hq, h⟩
end Go.Proofs.Ytjcfjgcnkbbgmaa.PA

namespace Go.Proofs.Ytjcfjgcnkbbgmaa.PA
open Go.RowKit Go.Proofs.Ytjcfjgcnkbbgmaa.Pl Go.Proofs.YtjcfjgcnkbbgmaaW.PrintWords Go.Proofs.YtjcfjgcnkbbgmaaW.PrintLast Go.Proofs.YtjcfjgcnkbbgmaaW.PrintMore
set_option linter.unusedVariables false

/-- Where a tag's attributes lie. -/
def At2 (W : World) (A : Option Addr) (l : List S45) : Prop := l = [] ∨ ∃ g cur, A = some ⟨g, 0, none⟩ ∧ W.heap[g]? = some (Obj.cells cur 45 (0, 0)) ∧
  ∀ j, (hj : j < l.length) → cur[j * 2]? = some (.string l[j].f0) ∧ cur[j * 2 + 1]? = some (.string l[j].f1)
theorem At2.of {W : World} {b c : Nat} {A : Option Addr} {l : List S45} (h : Kd.R k45 45 W b (fun _ => True) (.slice A l.length c) l) : At2 W A l := by
  rcases Nat.eq_zero_or_pos l.length with h0 | h0
  · exact .inl (List.length_eq_zero_iff.1 h0)
  obtain ⟨A', c', e, _, hC⟩ := Kd.R_reads h
  cases e
  obtain ⟨_, inner, ho, _⟩ := h
  rcases ho.2 with ⟨e, e2⟩ | ⟨g, cap, cur, e, _, hg, _⟩
  · omega
  cases e
  refine .inr ⟨g, cur, rfl, hg, fun j hj => ?_⟩
  obtain ⟨ad, e, hc⟩ := hC.2.2 h0
  cases e
  obtain ⟨cs, hl, hr, hx⟩ := hc j _ (List.getElem?_eq_getElem hj)
  obtain rfl := k45_open hr
  have x0 := hx 0 _ rfl
  have x1 := hx 1 _ rfl
  have ad0 : ∀ n, (⟨g, 0, none⟩ : Addr).add n = ⟨g, n, none⟩ := by
    intro n
    unfold Addr.add
    split
    · rename_i h; subst h; rfl
    · rw [Nat.zero_add]
  rw [ad0, blk_cell hg] at x0 x1
  exact ⟨x0, x1⟩
theorem At2.go {W W' : World} {A : Option Addr} {l : List S45} (h : At2 W A l) (hk : ∀ (g : Nat) (cur : Array Value), W.heap[g]? = some (Obj.cells cur 45 (0, 0)) → W'.heap[g]? = some (Obj.cells cur 45 (0, 0))) : At2 W' A l := by
  rcases h with h | ⟨g, cur, e, hg, hc⟩
  · exact .inl h
  · exact .inr ⟨g, cur, e, hk g cur hg, hc⟩
theorem row_ne {W : World} {g t e : Nat} {cs : Array Value} (hg : W.heap[g]? = some (Obj.cells cs t (0, 0))) (hte : t ≠ e) {base size k : Nat} {v : Value} {xs : List Value} (hr : W.ownsRow base e size v k xs) : some g ≠ v.ownBlock := by
  rcases hr.2 with ⟨rfl, _⟩ | ⟨g', cap, cur, rfl, _, hgb, _⟩
  · simp [Value.ownBlock]
  · intro e'
    obtain rfl : g = g' := by simpa [Value.ownBlock] using e'
    have := hg.symm.trans hgb
    simp at this
    exact hte this.2
/-- The ids of a tag. -/
def idsL (l : List S45) : List ByteArray := (l.filter fun a => a.f0.toList == [105, 100]).map (·.f1)
theorem idsL_take (l : List S45) (j : Nat) (hj : j < l.length) : idsL (l.take (j + 1)) = idsL (l.take j) ++ (if l[j].f0.toList == [105, 100] then [l[j].f1] else []) := by
  unfold idsL
  rw [← List.take_append_getElem hj, List.filter_append, List.map_append]
  congr 1
  by_cases h : (l[j].f0.toList == [105, 100]) = true
  · simp [h]
  · simp [h]
theorem idsL_len (l : List S45) : (idsL l).length ≤ l.length := by unfold idsL; rw [List.length_map]; exact List.length_filter_le _ _
def idsT : List ByteArray → ByteArray → Bool → Bool → List S45 → Option (Option (List ByteArray)) := fun x _ _ _ l => if x.length + l.length ≤ 1048576 then some (some (x ++ idsL l)) else none
def idsO : List ByteArray → Int → Option (Option (List ByteArray)) := fun x _ => some (some x)
structure IdI (w : World) (x : List ByteArray) (W : World) : Prop where
  box : ∃ v, Boxed W w.heap.size 35 v ∧ W.ownsRow w.heap.size 9 1 v x.length (x.map Value.string)
  bel : Below w.heap.size w W
theorem IdI.go {w : World} {x : List ByteArray} {W W' : World} (h : IdI w x W) (hb : Below W.heap.size W W') : IdI w x W' := by
  obtain ⟨v, h1, h2⟩ := h.box
  exact ⟨⟨v, (hb.block _ h1.lt).trans h1, pw_own_below h2 hb⟩, h.bel.trans (hb.mono h.bel.size)⟩
theorem infoS : (Try.prog.info? 9).map (fun i => (i.zero, i.size, i.bytes)) = some (some (.string ByteArray.empty), 1, 16) := by kernel_rfl
theorem ids_byte (a : Int) (W : World) : Calls Try.prog 31 #[.int .u8 a] W fun e w' => e = .returned (.tuple #[]) ∧ W = w' := by
  go_enter Try.func31, Try.ntmps31
  go_wp2
  first | go_end0 | refine bodyPost_ret (results_none rfl _ _ _) rfl ?_
  exact ⟨rfl, rfl⟩
set_option maxHeartbeats 4000000 in
set_option maxRecDepth 100000 in
theorem ids_tag (w : World) (x : List ByteArray) (n : ByteArray) (e v : Bool) (A : Option Addr) (c : Nat) (l : List S45) (hl : x.length + l.length ≤ 1048576) (W : World) (hA : At2 W A l) (h : IdI w x W) :
    Calls Try.prog 30 #[.agg #[.string n, .bool e, .bool v, .slice A l.length c], .pointer (some ⟨w.heap.size, 0, none⟩)] W fun e w' => e = .returned (.tuple #[]) ∧ IdI w (x ++ idsL l) w' := by
  have hb0 := below_alloc (Below.refl W.heap.size W) (.cells #[.string n, .bool e, .bool v, .slice A l.length c] 25)
  have HX := Lib.hid (h.go hb0)
  have HA := Lib.hid (hA.go (W' := W.alloc (.cells #[.string n, .bool e, .bool v, .slice A l.length c] 25)) (fun g cur hg => blk_alloc hg _))
  have hlt := (h.bel.size)
  clear h hA hb0
  go_enter Try.func30, Try.ntmps30
  go_wp2
  go_outline
  go_loopw [8] (fun v8 wr => ∃ j : Nat, v8 = .int .i64 j ∧ j ≤ l.length ∧ Hid (IdI w (x ++ idsL (l.take j)) wr) ∧ Hid (At2 wr A l))
    (fun v8 _ => l.length - (intOf v8).toNat)
  case atStart => exact ⟨0, rfl, Nat.zero_le _, by rw [List.take_zero]; show Hid (IdI w (x ++ []) _); rw [List.append_nil]; exact HX, HA⟩
  case round =>
    obtain ⟨j, rfl, hj, HI, HAt⟩ := hrel
    clear HX HA
    by_cases hjl : j < l.length
    · have hA := HAt.out
      rcases hA with h | ⟨g, cur, rfl, hg, hcur⟩
      · rw [h] at hjl; exact absurd hjl (by simp)
      obtain ⟨c0, c1⟩ := hcur j hjl
      have hc0 := (blk_cell hg (j * 2)).trans c0
      have hc1 := (blk_cell hg (j * 2 + 1)).trans c1
      have htk := idsL_take l j hjl
      obtain ⟨y, hy⟩ : ∃ y, l[j] = y := ⟨_, rfl⟩
      rw [hy] at hc0 hc1 htk
      have HC := Lib.hid hcur
      clear hcur c0 c1 hy
      by_cases hid : y.f0.toList = [105, 100]
      · have q : (y.f0.toList == [105, 100]) = true := beq_iff_eq.2 hid
        rw [if_pos q] at htk
        obtain ⟨v0, hv, hrow⟩ := HI.out.box
        rw [List.length_append] at hrow
        have e1 : (x ++ idsL (l.take (j + 1))).length = x.length + (idsL (l.take j)).length + 1 := by rw [htk]; simp; omega
        have e2 : (x ++ idsL (l.take (j + 1))).map Value.string = (x ++ idsL (l.take j)).map Value.string ++ [.string y.f1] := by rw [htk]; simp
        have E1 := Lib.hid e1
        have E2 := Lib.hid e2
        clear e1 e2
        have hv1 := hv.alloc (Obj.cells #[.string y.f0, .string y.f1] 45)
        have hrow1 := hrow.alloc (Obj.cells #[.string y.f0, .string y.f1] 45)
        have hB1 : Below w.heap.size w (wr.alloc (Obj.cells #[.string y.f0, .string y.f1] 45)) := HI.out.bel.trans (below_alloc (Below.refl _ _) _ |>.mono HI.out.bel.size)
        have hxl : x.length + (idsL (l.take j)).length + 1 ≤ 1048577 := by
          have := idsL_len (l.take j)
          rw [List.length_take] at this
          omega
        have hne1 := row_ne hg (by decide) hrow
        have hne2 := blk_ne hg hv (by decide)
        have hltb := hv.lt
        have hvc := hv.cell
        have hvc1 := hv1.cell
        obtain ⟨i0, hi, hi0, hi1, hi2⟩ := info_parts infoS
        clear HI
        go_wp2_with (at_builtin; refine wpList_append_own _ rfl _ _ 35 rfl w.heap.size 9 i0 (.string ByteArray.empty) 1 16 Try.underlying35 hi hi0 hi1 hi2 rfl (by decide) _ _ _ rfl (hrow1.alloc _) ⟨wr.heap.size + 1, 0, none⟩ 1 1 [.string y.f1] rfl rfl (by simpa using cell_one_new (wr.alloc (Obj.cells #[.string y.f0, .string y.f1] 45)) (Value.string y.f1) 9) (fun x hx => by simp at hx; subst hx; rfl) (by unfold maxLen; omega) (by omega) (by simp; omega) ?_; intro v' w1 hown' hgrow _; obtain ⟨g', cap', rfl⟩ := ownsRow_succ hown'; obtain ⟨hv3, hv4, hr4, hk4, hb4⟩ := hv1.appended (by decide) hrow1 hB1.size (Nat.le_refl _) hown' hgrow; have hg3 := blk_grown (blk_alloc (blk_alloc hg _) _) hgrow hne1; have HV4 := Lib.hid hv4; have HR4 := Lib.hid hr4; have HB4 := Lib.hid hb4; have HG3 := Lib.hid hg3; clear hown' hgrow hv4 hr4 hk4 hb4 hg3; have hc3 := hv3.cell; have hf3 := hv3.frozen; clear hv3)
        have HI2 := Lib.hid (show IdI w (x ++ idsL (l.take (j + 1))) _ from ⟨⟨_, HV4.out, by rw [E1.out, E2.out]; exact HR4.out⟩, hB1.trans HB4.out⟩)
        have HA2 := Lib.hid (show At2 _ (some ⟨g, 0, none⟩) l from .inr ⟨g, cur, rfl, blk_far HG3.out (p := ⟨w.heap.size, 0, none⟩) hne2 (.slice (some ⟨g', 0, none⟩) (x.length + (idsL (l.take j)).length + 1) cap'), HC.out⟩)
        go_wp2
        go_roundw
        case rel => exact ⟨j + 1, by go_num, by omega, HI2, HA2⟩
        case measure => simp [intOf]; omega
      · have q : (y.f0.toList == [105, 100]) = false := beq_eq_false_iff_ne.2 hid
        rw [if_neg (by rw [q]; decide), List.append_nil] at htk
        have HI2 := Lib.hid (show IdI w (x ++ idsL (l.take (j + 1))) (wr.alloc (.cells #[.string y.f0, .string y.f1] 45)) by rw [htk]; exact HI.out.go (below_alloc (Below.refl _ _) _))
        have HA2 := Lib.hid (HAt.out.go (W' := wr.alloc (.cells #[.string y.f0, .string y.f1] 45)) (fun g cur hg => blk_alloc hg _))
        clear htk HI HAt hg
        go_wp2
        go_roundw
        case rel => exact ⟨j + 1, by go_num, by omega, HI2, HA2⟩
        case measure => simp [intOf]; omega
    · have hI := HI.out
      rw [List.take_of_length_le (by omega)] at hI
      have HI2 := Lib.hid hI
      clear hI HI HAt
      go_wp2
      first | (exact ⟨rfl, rfl, HI2.out⟩) | (refine bodyPost_ret (results_none rfl _ _ _) rfl ?_; exact ⟨rfl, HI2.out⟩) | (go_end0; exact ⟨rfl, HI2.out⟩)
def tags_Ids.f (k : Nat) (a0 : ByteArray) : Option (List ByteArray) := (tags_each.l idsT idsO k k a0 []).bind id
set_option maxHeartbeats 1000000 in
set_option maxRecDepth 100000 in
theorem tags_Ids.calls (k : Nat) (a0 : ByteArray) (r : List ByteArray) (w : World) (hLd : Laid w) (h : tags_Ids.f k a0 = some r) :
    Calls Try.prog 15 #[.string a0] w fun e w' => ∃ v0_ : Value, e = .returned v0_ ∧ Kd.R Kd.string 9 w' w.heap.size (fun _ => True) v0_ r ∧ Below w.heap.size w w' := by
  obtain ⟨q, hq, hr⟩ := Option.bind_eq_some_iff.1 h
  obtain rfl : q = some r := hr
  have HB0 := Lib.hid ((Below.refl w.heap.size w).alloc (Nat.le_refl _) (.cells #[.slice none 0 0] 35 (0, 0)))
  have HX0 := Lib.hid (show IdI w [] (w.alloc (.cells #[.slice none 0 0] 35 (0, 0))) from ⟨⟨_, Boxed.new w 35 (.slice none 0 0), World.ownsRow_nil _ _ _ _⟩, HB0.out⟩)
  have HE := Lib.hid (fun W (hW : IdI w [] W) => each_walk idsT idsO (IdI w) (fun _ _ => False) k 30 31 #[.pointer (some ⟨w.heap.size, 0, none⟩)] #[]
    (enters_of Try.func30 (by kernel_rfl) rfl) (enters_of Try.func31 (by kernel_rfl) rfl)
    (fun x W W' h hb => h.go hb) (fun x W h => hLd.go h.bel)
    (fun x W n e v A c l b r hf hI hR => by
      unfold idsT at hf
      split at hf
      · rename_i hx
        obtain rfl := Option.some.inj hf
        exact ids_tag w x n e v A c l hx W (At2.of hR) hI
      · cases hf)
    (fun x W b r hf h0 h1 hI => by
      obtain rfl := Option.some.inj hf
      refine (ids_byte b W).mono ?_
      rintro e2 w2 ⟨rfl, rfl⟩
      exact ⟨rfl, hI⟩)
    a0 [] (some r) k hq W hW)
  clear h hq hLd
  go_enter Try.func15, Try.ntmps15
  go_wp2_with fail
  refine (HE.out _ HX0.out).mono ?_
  rintro e w1 ⟨rfl, hX⟩
  obtain ⟨v, hv, hrow⟩ := hX.box
  have HX := Lib.hid hX
  have HR := Lib.hid hrow
  have hvc := hv.cell
  clear hX HE HX0 HB0 hrow hv
  go_wp2
  go_ret
  exact ⟨_, rfl, Kd.R_of_own HR.out (fun _ _ => trivial), HX.out.bel⟩
theorem tags_Ids.mono : ∀ a0 k, LeO (tags_Ids.f k a0) (tags_Ids.f (k + 1) a0) := by
  intro a0 k r h
  obtain ⟨q, hq, h⟩ := Option.bind_eq_some_iff.1 h
  exact Option.bind_eq_some_iff.2 ⟨q, tags_each.mono_l _ _ _ _ _ _ _ hq, h⟩
end Go.Proofs.Ytjcfjgcnkbbgmaa.PA

namespace Go.Proofs.Ytjcfjgcnkbbgmaa.PA
open Go.RowKit Go.Proofs.Ytjcfjgcnkbbgmaa.Pl Go.Proofs.YtjcfjgcnkbbgmaaW.PrintWords Go.Proofs.YtjcfjgcnkbbgmaaW.PrintLast Go.Proofs.YtjcfjgcnkbbgmaaW.PrintMore
set_option linter.unusedVariables false

/-- What ends a check. -/
def wrongC : List PanicEntry := [{ v := .iface 49 (.agg #[]), recovered := false }]
theorem need_yes (W : World) : Calls Try.prog 28 #[.bool true] W fun e w' => e = .returned (.tuple #[]) ∧ W = w' := by
  go_enter Try.func28, Try.ntmps28
  go_wp2
  first | go_end0 | refine bodyPost_ret (results_none rfl _ _ _) rfl ?_
  exact ⟨rfl, rfl⟩
theorem need_no (W : World) : Calls Try.prog 28 #[.bool false] W fun e w' => e = .panicked wrongC ∧ W = w' := by
  unfold wrongC
  go_enter Try.func28, Try.ntmps28
  go_wp2
  exact ⟨rfl, rfl, rfl⟩
/-- A check's step at a tag, at a byte. -/
def chkT : List ByteArray → ByteArray → Bool → Bool → List S45 → Option (Option (List ByteArray)) := fun x n e v _ =>
  if e then (match x.getLast? with | none => some none | some y => if y.toList = n.toList then some (some x.dropLast) else some none)
  else if v then some (some x) else if x.length < 1048576 then some (some (x ++ [n])) else none
def chkO : List ByteArray → Int → Option (Option (List ByteArray)) := fun x b => if b = 60 ∨ b = 62 then some none else some (some x)
structure CkI (w : World) (x : List ByteArray) (W : World) : Prop where
  box : ∃ v, Boxed W (w.heap.size + 1) 35 v ∧ W.ownsRow w.heap.size 9 1 v x.length (x.map Value.string)
  ok : Boxed W w.heap.size 4 (.bool false)
  bel : Below w.heap.size w W
structure CkJ (w : World) (ch : List PanicEntry) (W : World) : Prop where
  ch : ch = wrongC
  ok : Boxed W w.heap.size 4 (.bool false)
  bel : Below w.heap.size w W
theorem CkI.go {w : World} {x : List ByteArray} {W W' : World} (h : CkI w x W) (hb : Below W.heap.size W W') : CkI w x W' := by
  obtain ⟨v, h1, h2⟩ := h.box
  exact ⟨⟨v, (hb.block _ h1.lt).trans h1, pw_own_below h2 hb⟩, (hb.block _ h.ok.lt).trans h.ok, h.bel.trans (hb.mono h.bel.size)⟩
theorem CkI.j {w : World} {x : List ByteArray} {W : World} (h : CkI w x W) : CkJ w wrongC W := ⟨rfl, h.ok, h.bel⟩
theorem chk_byte (w : World) (x : List ByteArray) (b : Int) (W : World) (r : Option (List ByteArray)) (hr : chkO x b = some r) (h : CkI w x W) : Calls Try.prog 29 #[.int .u8 b] W (EndE (CkI w) (CkJ w) r) := by
  have HX := Lib.hid h
  clear h
  unfold chkO at hr
  by_cases h1 : b = 60
  · rw [if_pos (.inl h1)] at hr
    obtain rfl := Option.some.inj hr
    have q : (b != 60) = false := by rw [h1]; rfl
    clear hr h1
    go_enter Try.func29, Try.ntmps29
    go_wp2_with fail
    refine (need_no _).mono ?_
    rintro e w1 ⟨rfl, rfl⟩
    go_wp2
    exact ⟨rfl, _, rfl, HX.out.j⟩
  · have q : (b != 60) = true := by simpa using h1
    by_cases h2 : b = 62
    · rw [if_pos (.inr h2)] at hr
      obtain rfl := Option.some.inj hr
      have q2 : (b != 62) = false := by rw [h2]; rfl
      clear hr h1 h2
      go_enter Try.func29, Try.ntmps29
      go_wp2_with fail
      refine (need_no _).mono ?_
      rintro e w1 ⟨rfl, rfl⟩
      go_wp2
      exact ⟨rfl, _, rfl, HX.out.j⟩
    · rw [if_neg (by rintro (h | h); exact h1 h; exact h2 h)] at hr
      obtain rfl := Option.some.inj hr
      have q2 : (b != 62) = true := by simpa using h2
      clear hr h1 h2
      go_enter Try.func29, Try.ntmps29
      go_wp2_with fail
      refine (need_yes _).mono ?_
      rintro e w1 ⟨rfl, rfl⟩
      go_wp2
      first | (exact ⟨rfl, rfl, HX.out⟩) | (refine bodyPost_ret (results_none rfl _ _ _) rfl ?_; exact ⟨rfl, HX.out⟩) | (go_end0; exact ⟨rfl, HX.out⟩)
theorem own_slice {W : World} {base e size n : Nat} {v : Value} {xs : List Value} (h : W.ownsRow base e size v n xs) : ∃ A c, v = .slice A n c ∧ n ≤ c ∧ c ≤ 9223372036854775807 := by
  rcases h.2 with ⟨rfl, rfl⟩ | ⟨g, cap, cur, rfl, _, _, h, h2, _⟩
  · exact ⟨none, 0, rfl, Nat.le_refl _, by decide⟩
  · exact ⟨_, _, rfl, h, by unfold maxLen at h2; omega⟩
theorem own_take {W : World} {base e n c m : Nat} {A : Option Addr} {xs : List Value} (h : W.ownsRow base e 1 (.slice A n c) n xs) (hm : m ≤ n) (hn : 0 < n) : W.ownsRow base e 1 (.slice A m c) m (xs.take m) := by
  obtain ⟨h1, h2⟩ := h
  rcases h2 with ⟨_, h0⟩ | ⟨g, cap, cur, e1, hb, hg, hc, hcm, hs, ht⟩
  · omega
  · cases e1
    refine ⟨by rw [List.length_take]; omega, .inr ⟨g, c, cur, rfl, hb, hg, by omega, hcm, hs, ?_⟩⟩
    rw [← ht, List.take_take]
    congr 1
    omega
theorem own_cell {W : World} {base e n c j : Nat} {A : Option Addr} {xs : List Value} (h : W.ownsRow base e 1 (.slice A n c) n xs) (hj : j < n) : ∃ g, A = some ⟨g, 0, none⟩ ∧ W.cell? ⟨g, j, none⟩ = xs[j]? := by
  obtain ⟨h1, h2⟩ := h
  rcases h2 with ⟨_, h0⟩ | ⟨g, cap, cur, e1, hb, hg, hc, hcm, hs, ht⟩
  · omega
  · cases e1
    refine ⟨g, rfl, ?_⟩
    rw [blk_cell hg, ← ht, List.getElem?_take, if_pos (by omega)]
    simp
set_option maxHeartbeats 4000000 in
set_option maxRecDepth 100000 in
theorem chk_none (w : World) (n : ByteArray) (v : Bool) (A : Option Addr) (c : Nat) (l : List S45) (W : World) (h : CkI w [] W) :
    Calls Try.prog 27 #[.agg #[.string n, .bool true, .bool v, .slice A l.length c], .pointer (some ⟨w.heap.size + 1, 0, none⟩)] W (EndE (CkI w) (CkJ w) none) := by
  have HX := Lib.hid (h.go (below_alloc (Below.refl W.heap.size W) (.cells #[.string n, .bool true, .bool v, .slice A l.length c] 25)))
  obtain ⟨v0, hv, hrow⟩ := h.box
  have hltb := hv.lt
  obtain ⟨A0, c0, rfl, hc0, hcm⟩ := own_slice hrow
  rw [List.length_nil] at hv
  have hvc1 := (hv.alloc (Obj.cells #[.string n, .bool true, .bool v, .slice A l.length c] 25)).cell
  have hvc := hv.cell
  clear hv hrow h hc0 hcm
  go_enter Try.func27, Try.ntmps27
  go_wp2
  refine wp_region_any (by kernel_rfl) ?_
  change wpAny _ _ _ _ _ _ _ (World.drew _)
  refine wpAny_take (i := 0) (v := ?_) rfl (by kernel_rfl) (by kernel_rfl) (by kernel_rfl) (fun _ _ _ h => h) (Or.inl ⟨by rfl, ?_⟩) ?_
  rotate_left
  · intro w; go_simp; try with_reducible rfl
  refine wpAny_take (i := 1) (v := ?_) rfl (by kernel_rfl) (by kernel_rfl) (by kernel_rfl) (fun _ _ _ h => h) (Or.inl ⟨by rfl, ?_⟩) ?_
  rotate_left
  · intro w; go_simp; try with_reducible rfl
  refine wpAny_take (i := 2) (v := ?_) rfl (by kernel_rfl) (by kernel_rfl) (by kernel_rfl) (fun _ _ _ h => h) (Or.inl ⟨by rfl, ?_⟩) ?_
  rotate_left
  · intro w; go_simp; try with_reducible rfl
  refine wpAny_take (i := 4) (v := undef) rfl (by kernel_rfl) (by kernel_rfl) (by kernel_rfl) (fun _ _ _ h => h) (Or.inr ⟨by rfl, rfl⟩) ?_
  refine wpAny_take (i := 7) (v := undef) rfl (by kernel_rfl) (by kernel_rfl) (by kernel_rfl) (fun _ _ _ h => h) (Or.inr ⟨by rfl, rfl⟩) ?_
  refine wpAny_ready (rs := [3, 8]) (by kernel_rfl) (by simp) ?_
  refine AllReady.cons rfl (fun K hK => ?_) ?_
  · go_simp
    refine hK _ _ ?_
    clear hK K
    refine wpAny_ready (rs := [5, 8]) (by kernel_rfl) (by simp) ?_
    refine AllReady.cons rfl (fun K hK => ?_) ?_
    · go_simp
      refine hK _ _ ?_
      clear hK K
      refine wpAny_ready (rs := [6, 8]) (by kernel_rfl) (by simp) ?_
      refine AllReady.cons rfl (fun K hK => ?_) ?_
      · go_simp
        refine hK _ _ ?_
        clear hK K
        refine wpAny_ready (rs := [8]) (by kernel_rfl) (by simp) ?_
        refine AllReady.cons rfl (fun K hK => ?_) AllReady.nil
        go_simp
        refine hK _ _ ?_
        clear hK K
        refine wpAny_ready (rs := [9]) (by kernel_rfl) (by simp) ?_
        refine AllReady.cons rfl (fun K hK => ?_) AllReady.nil
        go_simp
        refine hK _ _ ?_
        clear hK K
        refine wpAny_take (i := 10) (v := ?_) rfl (by kernel_rfl) (by kernel_rfl) (by kernel_rfl) (fun _ _ _ h => h) (Or.inl ⟨by rfl, ?_⟩) ?_
        rotate_left
        · intro w; go_simp; try with_reducible rfl
        refine wpAny_ready (rs := [11]) (by kernel_rfl) (by simp) ?_
        refine AllReady.cons rfl (fun K hK => ?_) AllReady.nil
        go_simp
        (go_at_call 28; refine (need_no _).mono ?_; rintro e w1 ⟨rfl, rfl⟩; exact ⟨rfl, _, rfl, (HX.out.go (below_drew1 (Below.refl _ _))).j⟩)
      refine AllReady.cons rfl (fun K hK => ?_) AllReady.nil
      go_simp
      refine hK _ _ ?_
      clear hK K
      refine wpAny_ready (rs := [6]) (by kernel_rfl) (by simp) ?_
      refine AllReady.cons rfl (fun K hK => ?_) AllReady.nil
      go_simp
      refine hK _ _ ?_
      clear hK K
      refine wpAny_ready (rs := [9]) (by kernel_rfl) (by simp) ?_
      refine AllReady.cons rfl (fun K hK => ?_) AllReady.nil
      go_simp
      refine hK _ _ ?_
      clear hK K
      refine wpAny_take (i := 10) (v := ?_) rfl (by kernel_rfl) (by kernel_rfl) (by kernel_rfl) (fun _ _ _ h => h) (Or.inl ⟨by rfl, ?_⟩) ?_
      rotate_left
      · intro w; go_simp; try with_reducible rfl
      refine wpAny_ready (rs := [11]) (by kernel_rfl) (by simp) ?_
      refine AllReady.cons rfl (fun K hK => ?_) AllReady.nil
      go_simp
      (go_at_call 28; refine (need_no _).mono ?_; rintro e w1 ⟨rfl, rfl⟩; exact ⟨rfl, _, rfl, (HX.out.go (below_drew1 (Below.refl _ _))).j⟩)
    refine AllReady.cons rfl (fun K hK => ?_) AllReady.nil
    go_simp
    refine hK _ _ ?_
    clear hK K
    refine wpAny_ready (rs := [5]) (by kernel_rfl) (by simp) ?_
    refine AllReady.cons rfl (fun K hK => ?_) AllReady.nil
    go_simp
    refine hK _ _ ?_
    clear hK K
    refine wpAny_ready (rs := [6]) (by kernel_rfl) (by simp) ?_
    refine AllReady.cons rfl (fun K hK => ?_) AllReady.nil
    go_simp
    refine hK _ _ ?_
    clear hK K
    refine wpAny_ready (rs := [9]) (by kernel_rfl) (by simp) ?_
    refine AllReady.cons rfl (fun K hK => ?_) AllReady.nil
    go_simp
    refine hK _ _ ?_
    clear hK K
    refine wpAny_take (i := 10) (v := ?_) rfl (by kernel_rfl) (by kernel_rfl) (by kernel_rfl) (fun _ _ _ h => h) (Or.inl ⟨by rfl, ?_⟩) ?_
    rotate_left
    · intro w; go_simp; try with_reducible rfl
    refine wpAny_ready (rs := [11]) (by kernel_rfl) (by simp) ?_
    refine AllReady.cons rfl (fun K hK => ?_) AllReady.nil
    go_simp
    (go_at_call 28; refine (need_no _).mono ?_; rintro e w1 ⟨rfl, rfl⟩; exact ⟨rfl, _, rfl, (HX.out.go (below_drew1 (Below.refl _ _))).j⟩)
  refine AllReady.cons rfl (fun K hK => ?_) AllReady.nil
  go_simp
  refine hK _ _ ?_
  clear hK K
  refine wpAny_ready (rs := [3]) (by kernel_rfl) (by simp) ?_
  refine AllReady.cons rfl (fun K hK => ?_) AllReady.nil
  go_simp
  refine hK _ _ ?_
  clear hK K
  refine wpAny_ready (rs := [5]) (by kernel_rfl) (by simp) ?_
  refine AllReady.cons rfl (fun K hK => ?_) AllReady.nil
  go_simp
  refine hK _ _ ?_
  clear hK K
  refine wpAny_ready (rs := [6]) (by kernel_rfl) (by simp) ?_
  refine AllReady.cons rfl (fun K hK => ?_) AllReady.nil
  go_simp
  refine hK _ _ ?_
  clear hK K
  refine wpAny_ready (rs := [9]) (by kernel_rfl) (by simp) ?_
  refine AllReady.cons rfl (fun K hK => ?_) AllReady.nil
  go_simp
  refine hK _ _ ?_
  clear hK K
  refine wpAny_take (i := 10) (v := ?_) rfl (by kernel_rfl) (by kernel_rfl) (by kernel_rfl) (fun _ _ _ h => h) (Or.inl ⟨by rfl, ?_⟩) ?_
  rotate_left
  · intro w; go_simp; try with_reducible rfl
  refine wpAny_ready (rs := [11]) (by kernel_rfl) (by simp) ?_
  refine AllReady.cons rfl (fun K hK => ?_) AllReady.nil
  go_simp
  (go_at_call 28; refine (need_no _).mono ?_; rintro e w1 ⟨rfl, rfl⟩; exact ⟨rfl, _, rfl, (HX.out.go (below_drew1 (Below.refl _ _))).j⟩)
set_option maxHeartbeats 4000000 in
set_option maxRecDepth 100000 in
theorem chk_pop (w : World) (xs : List ByteArray) (y : ByteArray) (n : ByteArray) (v : Bool) (A : Option Addr) (c : Nat) (l : List S45) (W : World) (h : CkI w (xs ++ [y]) W) (hyn : y.toList = n.toList) :
    Calls Try.prog 27 #[.agg #[.string n, .bool true, .bool v, .slice A l.length c], .pointer (some ⟨w.heap.size + 1, 0, none⟩)] W (EndE (CkI w) (CkJ w) (some xs)) := by
  have HX := Lib.hid (h.go (below_alloc (Below.refl W.heap.size W) (.cells #[.string n, .bool true, .bool v, .slice A l.length c] 25)))
  obtain ⟨v0, hv, hrow⟩ := h.box
  obtain ⟨A0, c0, rfl, hc0, hcm⟩ := own_slice hrow
  have hltb := hv.lt
  have hrow0 := hrow
  rw [List.length_append, List.length_singleton] at hv hrow hc0
  have hrow1 := hrow.alloc (Obj.cells #[.string n, .bool true, .bool v, .slice A l.length c] 25)
  have hvc1 := (hv.alloc (Obj.cells #[.string n, .bool true, .bool v, .slice A l.length c] 25)).cell
  have hvf1 := (hv.alloc (Obj.cells #[.string n, .bool true, .bool v, .slice A l.length c] 25)).frozen
  have hvc := hv.cell
  have hvf := hv.frozen
  obtain ⟨g, rfl, hy1⟩ := own_cell hrow1 (Nat.lt_succ_self _)
  rw [show ((xs ++ [y]).map Value.string)[xs.length]? = some (.string y) by simp] at hy1
  obtain ⟨g', e', hy⟩ := own_cell hrow (Nat.lt_succ_self _)
  cases e'
  rw [show ((xs ++ [y]).map Value.string)[xs.length]? = some (.string y) by simp] at hy
  have hT := own_take hrow1 (Nat.le_succ xs.length) (Nat.succ_pos _)
  have q : (y.toList == n.toList) = true := beq_iff_eq.2 hyn
  have HT := Lib.hid hT
  have HV := Lib.hid (hv.alloc (Obj.cells #[.string n, .bool true, .bool v, .slice A l.length c] 25))
  have hbe := h.bel.size
  have hT2 := own_take hrow (Nat.le_succ xs.length) (Nat.succ_pos _)
  rw [show ((xs ++ [y]).map Value.string).take xs.length = xs.map Value.string by simp] at hT2
  have HI2 := Lib.hid (((⟨⟨_, hv.set _, hT2.kept (grownBy_setCell' _ _ _) (.inr (hv.not_row (by decide) hT2).symm)⟩, h.ok.kept (grownBy_setCell' _ _ _) (by simp), h.bel.setCell (p := ⟨w.heap.size + 1, 0, none⟩) (Nat.le_succ _) (.slice (some ⟨g, 0, none⟩) xs.length c0)⟩ : CkI w xs (W.setCell ⟨w.heap.size + 1, 0, none⟩ (.slice (some ⟨g, 0, none⟩) xs.length c0))).go (below_alloc (Below.refl _ _) (Obj.cells #[.string n, .bool true, .bool v, .slice A l.length c] 25))).go (below_drew1 (Below.refl _ _)))
  clear hT2
  clear hrow hrow0 hrow1 hv h hT hyn
  go_enter Try.func27, Try.ntmps27
  go_wp2
  go_region_with (go_at_call 28; refine (need_yes _).mono ?_; rintro e w1 ⟨rfl, rfl⟩)
  all_goals
    go_wp2
    first | go_end0 | refine bodyPost_ret (results_none rfl _ _ _) rfl ?_
    exact ⟨rfl, HI2.out⟩
set_option maxHeartbeats 4000000 in
set_option maxRecDepth 100000 in
theorem chk_bad (w : World) (xs : List ByteArray) (y : ByteArray) (n : ByteArray) (v : Bool) (A : Option Addr) (c : Nat) (l : List S45) (W : World) (h : CkI w (xs ++ [y]) W) (hyn : ¬ y.toList = n.toList) :
    Calls Try.prog 27 #[.agg #[.string n, .bool true, .bool v, .slice A l.length c], .pointer (some ⟨w.heap.size + 1, 0, none⟩)] W (EndE (CkI w) (CkJ w) none) := by
  have HX := Lib.hid (h.go (below_alloc (Below.refl W.heap.size W) (.cells #[.string n, .bool true, .bool v, .slice A l.length c] 25)))
  obtain ⟨v0, hv, hrow⟩ := h.box
  obtain ⟨A0, c0, rfl, hc0, hcm⟩ := own_slice hrow
  have hltb := hv.lt
  have hrow0 := hrow
  rw [List.length_append, List.length_singleton] at hv hrow hc0
  have hrow1 := hrow.alloc (Obj.cells #[.string n, .bool true, .bool v, .slice A l.length c] 25)
  have hvc1 := (hv.alloc (Obj.cells #[.string n, .bool true, .bool v, .slice A l.length c] 25)).cell
  have hvf1 := (hv.alloc (Obj.cells #[.string n, .bool true, .bool v, .slice A l.length c] 25)).frozen
  have hvc := hv.cell
  have hvf := hv.frozen
  obtain ⟨g, rfl, hy1⟩ := own_cell hrow1 (Nat.lt_succ_self _)
  rw [show ((xs ++ [y]).map Value.string)[xs.length]? = some (.string y) by simp] at hy1
  obtain ⟨g', e', hy⟩ := own_cell hrow (Nat.lt_succ_self _)
  cases e'
  rw [show ((xs ++ [y]).map Value.string)[xs.length]? = some (.string y) by simp] at hy
  have q : (y.toList == n.toList) = false := beq_eq_false_iff_ne.2 hyn
  clear hrow hrow0 hrow1 hv h hyn
  go_enter Try.func27, Try.ntmps27
  go_wp2
  refine wp_region_still_tail 11 (by kernel_rfl) (by kernel_rfl) ?_
  simp only [List.take_succ_cons, List.take_zero, List.drop_succ_cons, List.drop_zero]
  have hib : ((xs.length : Nat) : Int) < (xs.length : Int) + 1 := by omega
  change wpStill _ _ ((W.alloc (Obj.cells #[.string n, .bool true, .bool v, .slice A l.length c] 25)).drew) _ _ _
  repeat still_step
  refine wpStill_nil ?_
  go_wp2_with fail
  refine (need_no _).mono ?_
  rintro e w1 ⟨rfl, rfl⟩
  exact ⟨rfl, _, rfl, (HX.out.go (below_drew1 (Below.refl _ _))).j⟩
set_option maxHeartbeats 4000000 in
set_option maxRecDepth 100000 in
theorem chk_void (w : World) (x : List ByteArray) (n : ByteArray) (A : Option Addr) (c : Nat) (l : List S45) (W : World) (h : CkI w x W) :
    Calls Try.prog 27 #[.agg #[.string n, .bool false, .bool true, .slice A l.length c], .pointer (some ⟨w.heap.size + 1, 0, none⟩)] W (EndE (CkI w) (CkJ w) (some x)) := by
  have HX := Lib.hid (h.go (below_alloc (Below.refl W.heap.size W) (.cells #[.string n, .bool false, .bool true, .slice A l.length c] 25)))
  obtain ⟨v0, hv, hrow⟩ := h.box
  obtain ⟨A0, c0, rfl, hc0, hcm⟩ := own_slice hrow
  have hltb := hv.lt
  have hvc := hv.cell
  clear hrow hv h
  go_enter Try.func27, Try.ntmps27
  go_wp2
  first | (exact ⟨rfl, rfl, HX.out⟩) | (refine bodyPost_ret (results_none rfl _ _ _) rfl ?_; exact ⟨rfl, HX.out⟩) | (go_end0; exact ⟨rfl, HX.out⟩)
set_option maxHeartbeats 4000000 in
set_option maxRecDepth 100000 in
theorem chk_push (w : World) (x : List ByteArray) (n : ByteArray) (A : Option Addr) (c : Nat) (l : List S45) (W : World) (h : CkI w x W) (hlen : x.length < 1048576) :
    Calls Try.prog 27 #[.agg #[.string n, .bool false, .bool false, .slice A l.length c], .pointer (some ⟨w.heap.size + 1, 0, none⟩)] W (EndE (CkI w) (CkJ w) (some (x ++ [n]))) := by
  have HX := Lib.hid (h.go (below_alloc (Below.refl W.heap.size W) (.cells #[.string n, .bool false, .bool false, .slice A l.length c] 25)))
  obtain ⟨v0, hv, hrow⟩ := h.box
  obtain ⟨A0, c0, rfl, hc0, hcm⟩ := own_slice hrow
  have hltb := hv.lt
  have hv1 := hv.alloc (Obj.cells #[.string n, .bool false, .bool false, .slice A l.length c] 25)
  have hvc := hv.cell
  have hvc1 := hv1.cell
  have hrow1 := hrow.alloc (Obj.cells #[.string n, .bool false, .bool false, .slice A l.length c] 25)
  have hB1 := HX.out.bel
  have hok1 := HX.out.ok
  have hne1 := hok1.not_row (by decide) hrow1
  obtain ⟨i0, hi, hi0, hi1, hi2⟩ := info_parts infoS
  have hbe := h.bel.size
  clear h hrow hv
  go_enter Try.func27, Try.ntmps27
  go_wp2_with (at_builtin; refine wpList_append_own _ rfl _ _ 35 rfl w.heap.size 9 i0 (.string ByteArray.empty) 1 16 Try.underlying35 hi hi0 hi1 hi2 rfl (by decide) _ _ _ rfl (hrow1.alloc _) ⟨W.heap.size + 1, 0, none⟩ 1 1 [.string n] rfl rfl (by simpa using cell_one_new (W.alloc (Obj.cells #[.string n, .bool false, .bool false, .slice A l.length c] 25)) (Value.string n) 9) (fun x hx => by simp at hx; subst hx; rfl) (by unfold maxLen; omega) (by omega) (by simp; omega) ?_; intro v' w1 hown' hgrow _; obtain ⟨g', cap', rfl⟩ := ownsRow_succ hown'; obtain ⟨hv3, hv4, hr4, hk4, hb4⟩ := hv1.appended (by decide) hrow1 hB1.size (Nat.le_succ _) hown' hgrow; have ho3 := (hok1.alloc _).kept hgrow hne1; have HV4 := Lib.hid hv4; have HR4 := Lib.hid hr4; have HB4 := Lib.hid hb4; have HO3 := Lib.hid ho3; clear hown' hgrow hv4 hr4 hk4 hb4 ho3; have hc3 := hv3.cell; have hf3 := hv3.frozen; clear hv3)
  have HI2 := Lib.hid (show CkI w (x ++ [n]) _ from ⟨⟨_, HV4.out, by rw [List.length_append, List.map_append]; exact HR4.out⟩, HO3.out.kept (grownBy_setCell' w1 (w.heap.size + 1) _) (by simp), hB1.trans HB4.out⟩)
  go_wp2
  first | (exact ⟨rfl, rfl, HI2.out⟩) | (refine bodyPost_ret (results_none rfl _ _ _) rfl ?_; exact ⟨rfl, HI2.out⟩) | (go_end0; exact ⟨rfl, HI2.out⟩)
theorem chk_tag (w : World) (x : List ByteArray) (n : ByteArray) (e v : Bool) (A : Option Addr) (c : Nat) (l : List S45) (W : World) (r : Option (List ByteArray)) (hr : chkT x n e v l = some r) (h : CkI w x W) :
    Calls Try.prog 27 #[.agg #[.string n, .bool e, .bool v, .slice A l.length c], .pointer (some ⟨w.heap.size + 1, 0, none⟩)] W (EndE (CkI w) (CkJ w) r) := by
  unfold chkT at hr
  cases e with
  | true =>
    rw [if_pos rfl] at hr
    rcases List.eq_nil_or_concat x with rfl | ⟨xs, y, rfl⟩
    · obtain rfl := Option.some.inj hr
      exact chk_none w n v A c l W h
    · rw [List.concat_eq_append] at h hr
      rw [List.getLast?_concat, List.dropLast_concat] at hr
      dsimp only at hr
      by_cases hy : y.toList = n.toList
      · rw [if_pos hy] at hr
        obtain rfl := Option.some.inj hr
        exact chk_pop w xs y n v A c l W h hy
      · rw [if_neg hy] at hr
        obtain rfl := Option.some.inj hr
        exact chk_bad w xs y n v A c l W h hy
  | false =>
    rw [if_neg (by decide)] at hr
    cases v with
    | true =>
      rw [if_pos rfl] at hr
      obtain rfl := Option.some.inj hr
      exact chk_void w x n A c l W h
    | false =>
      rw [if_neg (by decide)] at hr
      split at hr
      · rename_i hx
        obtain rfl := Option.some.inj hr
        exact chk_push w x n A c l W h hx
      · cases hr
end Go.Proofs.Ytjcfjgcnkbbgmaa.PA

namespace Go.Proofs.Ytjcfjgcnkbbgmaa.PA
open Go.RowKit Go.Proofs.Ytjcfjgcnkbbgmaa.Pl Go.Proofs.YtjcfjgcnkbbgmaaW.PrintWords Go.Proofs.YtjcfjgcnkbbgmaaW.PrintLast Go.Proofs.YtjcfjgcnkbbgmaaW.PrintMore
set_option linter.unusedVariables false

theorem catch_wrong (b : Nat) (x : Bool) (W : World) (h : Boxed W b 4 (.bool x)) :
    CallsD Try.prog 25 #[.pointer (some ⟨b, 0, none⟩)] (.panicking wrongC) W fun e u' w' =>
      e = .returned (.tuple #[]) ∧ u' = .panicking [{ v := .iface 49 (.agg #[]), recovered := true }] ∧ Boxed w' b 4 (.bool false) ∧ Below b W w' := by
  have hc := h.cell
  have hf := h.frozen
  have hlt := h.lt
  have hc1 := (h.alloc (Obj.cells #[] 49)).cell
  have hf1 := (h.alloc (Obj.cells #[] 49)).frozen
  have HO := Lib.hid (((h.set (.bool false)).alloc (Obj.cells #[] 49)))
  have HB := Lib.hid ((((Below.refl b W).setCell (p := ⟨b, 0, none⟩) (Nat.le_refl _) (.bool false))).alloc (by simpa using Nat.le_of_lt hlt) (Obj.cells #[] 49))
  have hta : ∀ w : World, (Instr.typeAssert (.iface 49 (.agg #[])) 20 49 true).run Try.prog w = .ok (.tuple #[.agg #[], .bool true]) w := fun w => by kernel_rfl
  unfold wrongC
  refine callsD_of_wpS Try.func25 rfl fun c₀ cs hu => ?_
  apply wpS_seq
  apply wpS_region
  simp [wpOpsS, go_sem, recoverD, hu, Try.ntmps25, Exit.thenS]
  refine wpS_of_wp ?_
  simp only [Array.replicate_succ, Array.replicate_zero, List.push_toArray, List.append_toArray, List.nil_append, List.cons_append, List.setIfInBounds_toArray, List.set_cons_succ, List.set_cons_zero]
  go_wp2
  exact ⟨rfl, _, rfl, _, by simp [results, Try.results25, go_sem], rfl, rfl, HO.out, HB.out⟩
theorem catch_idle (b : Nat) (W : World) :
    CallsD Try.prog 25 #[.pointer (some ⟨b, 0, none⟩)] .returning W fun e u' w' => e = .returned (.tuple #[]) ∧ u' = .returning ∧ w' = W := by
  refine callsD_of_wpS Try.func25 rfl fun c₀ cs hu => ?_
  apply wpS_seq
  apply wpS_region
  simp [wpOpsS, go_sem, recoverD, hu, Try.ntmps25, Exit.thenS]
  refine wpS_of_wp ?_
  simp only [Array.replicate_succ, Array.replicate_zero, List.push_toArray, List.append_toArray, List.nil_append, List.cons_append, List.setIfInBounds_toArray, List.set_cons_succ, List.set_cons_zero]
  go_wp2
  cases c₀
  simp_all [bodyPostS, results, Try.results25]
def chkR : Option (List ByteArray) → Bool
  | none => false
  | some x => x.length == 0
def tags_Check.f (k : Nat) (a0 : ByteArray) : Option Bool := (tags_each.l chkT chkO k k a0 []).map chkR
set_option maxHeartbeats 1000000 in
set_option maxRecDepth 100000 in
theorem check_walk (k : Nat) (a0 : ByteArray) (R : Option (List ByteArray)) (w : World) (hLd : Laid w) (hq : tags_each.l chkT chkO k k a0 [] = some R) :
    Calls Try.prog 12 #[.string a0] w fun e w' => e = .returned (.bool (chkR R)) ∧ Below w.heap.size w w' := by
  have hmf : ∀ (fn : Fn) (first cap : Array Value) (w : World), (Instr.makeFunc fn first cap).run Try.prog w = .ok (.func fn first cap) w := fun _ _ _ _ => rfl
  have b1 := Boxed.new w 4 (.bool false)
  have b2 := Boxed.new (w.alloc (.cells #[.bool false] 4)) 35 (.slice none 0 0)
  rw [World.size_alloc] at b2
  have HB0 := Lib.hid (((Below.refl w.heap.size w).alloc (Nat.le_refl _) (.cells #[.bool false] 4 (0, 0))).alloc (by simp) (.cells #[.slice none 0 0] 35 (0, 0)))
  have HX0 := Lib.hid (show CkI w [] _ from ⟨⟨_, b2, World.ownsRow_nil _ _ _ _⟩, b1.alloc (.cells #[.slice none 0 0] 35 (0, 0)), HB0.out⟩)
  have HE := Lib.hid (fun W (hW : CkI w [] W) => each_walk chkT chkO (CkI w) (CkJ w) k 27 29 #[.pointer (some ⟨w.heap.size + 1, 0, none⟩)] #[]
    (enters_of Try.func27 (by kernel_rfl) rfl) (enters_of Try.func29 (by kernel_rfl) rfl)
    (fun x W W' h hb => h.go hb) (fun x W h => hLd.go h.bel)
    (fun x W n e v A c l b r hf hI hR => chk_tag w x n e v A c l W r hf hI)
    (fun x W b r hf h0 h1 hI => chk_byte w x b W r hf hI)
    a0 [] R k hq W hW)
  clear hq hLd b1 b2
  go_enter_defers Try.func12, Try.ntmps12
  go_wp2_with fail
  refine (HE.out _ HX0.out).mono ?_
  intro e w1 he
  cases R with
  | none =>
    obtain ⟨ch, rfl, hJ⟩ := he
    obtain ⟨rfl, hok, hbel⟩ := hJ
    go_wp2
    refine leaves_cons (f := 25) (args := #[.pointer (some ⟨w.heap.size, 0, none⟩)]) (by simp) (by simp [go_sem]) ?_
    refine (catch_wrong w.heap.size false w1 hok).mono ?_
    rintro e u' w2 ⟨rfl, rfl, hB, hb⟩
    have hc := hB.cell
    have HB := Lib.hid (hbel.trans hb)
    clear hb hbel hok hB
    simp [Leaves, settle, results, Try.results12, go_sem, chkR, hc]
    exact HB.out
  | some x =>
    obtain ⟨rfl, hX⟩ := he
    obtain ⟨v, hv, hrow⟩ := hX.box
    obtain ⟨A0, c0, rfl, hc0, hcm⟩ := own_slice hrow
    have hvc := hv.cell
    have hoc := hX.ok.cell
    have hof := hX.ok.frozen
    have hoc2 := (hX.ok.set (.bool ((x.length : Int) == 0))).cell
    have HB := Lib.hid (hX.bel.setCell (p := ⟨w.heap.size, 0, none⟩) (Nat.le_refl _) (.bool ((x.length : Int) == 0)))
    have hR : chkR (some x) = ((x.length : Int) == 0) := by
      show (x.length == 0) = _
      cases x with
      | nil => rfl
      | cons a b => simp; omega
    clear hX hv hrow
    go_wp2
    refine leaves_cons (f := 25) (args := #[.pointer (some ⟨w.heap.size, 0, none⟩)]) (by simp) (by simp [go_sem]) ?_
    refine (catch_idle w.heap.size _).mono ?_
    rintro e u' w2 ⟨rfl, rfl, rfl⟩
    rw [hR]
    clear hR
    simp [Leaves, settle, results, Try.results12, go_sem, hoc2]
    exact HB.out
theorem tags_Check.calls (k : Nat) (a0 : ByteArray) (r : Bool) (w : World) (hLd : Laid w) (h : tags_Check.f k a0 = some r) :
    Calls Try.prog 12 #[.string a0] w fun e w' => e = .returned (.bool r) ∧ Below w.heap.size w w' := by
  obtain ⟨R, hq, rfl⟩ := Option.map_eq_some_iff.1 h
  exact check_walk k a0 R w hLd hq
theorem tags_Check.mono : ∀ a0 k, LeO (tags_Check.f k a0) (tags_Check.f (k + 1) a0) := by
  intro a0 k r h
  obtain ⟨q, hq, h⟩ := Option.map_eq_some_iff.1 h
  exact Option.map_eq_some_iff.2 ⟨q, tags_each.mono_l _ _ _ _ _ _ _ hq, h⟩
end Go.Proofs.Ytjcfjgcnkbbgmaa.PA

namespace Go.Proofs.Ytjcfjgcnkbbgmaa.PA
open Go.RowKit Go.Proofs.YtjcfjgcnkbbgmaaW.PrintWords Go.Proofs.YtjcfjgcnkbbgmaaW.PrintLast Go.Proofs.YtjcfjgcnkbbgmaaW.PrintMore
attribute [local go_sem] max2_int min2_int max_two min_two max_three min_three max_four min_four   -- for this text's walks alone
set_option linter.unusedVariables false
set_option linter.unusedSimpArgs false


end Go.Proofs.Ytjcfjgcnkbbgmaa.PA

namespace Go.Proofs.Ytjcfjgcnkbbgmaa.PA
open Go.RowKit Go.Proofs.YtjcfjgcnkbbgmaaW.PrintWords Go.Proofs.YtjcfjgcnkbbgmaaW.PrintLast Go.Proofs.YtjcfjgcnkbbgmaaW.PrintMore
attribute [local go_sem] max2_int min2_int max_two min_two max_three min_three max_four min_four   -- for this text's walks alone
set_option linter.unusedVariables false
set_option linter.unusedSimpArgs false

/-! ### incipitlaw21_awake: function 7 -/
def incipitlaw21_awake.f (k : Nat)  : Option (Bool) := (tags_Read.f k (⟨#[60, 104, 49, 32, 105, 100, 61, 34, 120, 34, 62, 97]⟩ : ByteArray)).bind fun bt159 => ((tags_Check.f k (⟨#[60, 112, 62, 97, 60, 98, 114, 32, 47, 62, 98, 60, 47, 112, 62]⟩ : ByteArray)).bind fun t167 => (if t167 = true then ((tags_Check.f k (⟨#[60, 112, 62]⟩ : ByteArray)).bind fun t168 => (if t168 = true then (none) else ((tags_Check.f k (⟨#[97, 60, 98]⟩ : ByteArray)).bind fun t169 => (if t169 = true then (none) else (if bt159.2.2.2.2 = 11 then (if bt159.1.toList = ([104, 49] : List UInt8) then (if (bt159.2.2.2.1.length : Int) = 1 then ((tags_Ids.f k (⟨#[60, 104, 49, 32, 105, 100, 61, 34, 120, 34, 62]⟩ : ByteArray)).bind fun t170 => (if (t170.length : Int) = 1 then ((tags_Text.f k (⟨#[60, 98, 62, 97, 60, 47, 98, 62]⟩ : ByteArray)).bind fun t173 => (some (t173.toList == ([97] : List UInt8)))) else (none))) else (none)) else (none)) else (none)))))) else (none)))
theorem incipitlaw21_awake.mono : ∀ k, LeO (incipitlaw21_awake.f k ) (incipitlaw21_awake.f (k + 1) ) := by
  intro  k
  unfold incipitlaw21_awake.f
  repeat' first
      | (with_reducible exact tags_Check.mono _ _)
      | (with_reducible exact tags_Ids.mono _ _)
      | (with_reducible exact tags_Read.mono _ _)
      | (with_reducible exact tags_Text.mono _ _)
      | (with_reducible exact LeO.refl _)
      | (with_reducible exact LeO.none _)
      | (with_reducible refine LeO.ite ?_ ?_)
      | (with_reducible refine LeO.bind ?_ (fun _ => ?_))
      | exact tags_Check.mono _ _
      | exact tags_Ids.mono _ _
      | exact tags_Read.mono _ _
      | exact tags_Text.mono _ _
      | exact LeO.none _
      | refine LeO.ite ?_ ?_
      | refine LeO.bind ?_ (fun _ => ?_)
set_option maxHeartbeats 8000000 in
set_option maxRecDepth 100000 in
theorem incipitlaw21_awake.calls (k : Nat)  (r : Bool) (w : World) (hLd : Laid w) (h : incipitlaw21_awake.f k  = some r) :
    Calls Try.prog 7 #[] w fun e w' => e = .returned (.bool r) ∧ Below w.heap.size w w' := by
  have hu25 := Try.underlying25
  have HB := Aside0.mk (Below.refl w.heap.size w)
  have H : ((tags_Read.f k (⟨#[60, 104, 49, 32, 105, 100, 61, 34, 120, 34, 62, 97]⟩ : ByteArray)).bind fun bt159 => ((tags_Check.f k (⟨#[60, 112, 62, 97, 60, 98, 114, 32, 47, 62, 98, 60, 47, 112, 62]⟩ : ByteArray)).bind fun t167 => (if t167 = true then ((tags_Check.f k (⟨#[60, 112, 62]⟩ : ByteArray)).bind fun t168 => (if t168 = true then (none) else ((tags_Check.f k (⟨#[97, 60, 98]⟩ : ByteArray)).bind fun t169 => (if t169 = true then (none) else (if bt159.2.2.2.2 = 11 then (if bt159.1.toList = ([104, 49] : List UInt8) then (if (bt159.2.2.2.1.length : Int) = 1 then ((tags_Ids.f k (⟨#[60, 104, 49, 32, 105, 100, 61, 34, 120, 34, 62]⟩ : ByteArray)).bind fun t170 => (if (t170.length : Int) = 1 then ((tags_Text.f k (⟨#[60, 98, 62, 97, 60, 47, 98, 62]⟩ : ByteArray)).bind fun t173 => (some (t173.toList == ([97] : List UInt8)))) else (none))) else (none)) else (none)) else (none)))))) else (none)))) = some r := h
  clear h
  replace H := Option.bind_eq_some_iff.mp H
  obtain ⟨⟨t159, t160, t161, t162, t165⟩, A10, H⟩ := H
  replace H : ((tags_Check.f k (⟨#[60, 112, 62, 97, 60, 98, 114, 32, 47, 62, 98, 60, 47, 112, 62]⟩ : ByteArray)).bind fun t167 => (if t167 = true then ((tags_Check.f k (⟨#[60, 112, 62]⟩ : ByteArray)).bind fun t168 => (if t168 = true then (none) else ((tags_Check.f k (⟨#[97, 60, 98]⟩ : ByteArray)).bind fun t169 => (if t169 = true then (none) else (if t165 = 11 then (if t159.toList = ([104, 49] : List UInt8) then (if (t162.length : Int) = 1 then ((tags_Ids.f k (⟨#[60, 104, 49, 32, 105, 100, 61, 34, 120, 34, 62]⟩ : ByteArray)).bind fun t170 => (if (t170.length : Int) = 1 then ((tags_Text.f k (⟨#[60, 98, 62, 97, 60, 47, 98, 62]⟩ : ByteArray)).bind fun t173 => (some (t173.toList == ([97] : List UInt8)))) else (none))) else (none)) else (none)) else (none)))))) else (none))) = some r := H
  have A1 := Aside0.mk A10
  clear A10
  replace H := Option.bind_eq_some_iff.mp H
  obtain ⟨t167, A20, H⟩ := H
  replace H : (if t167 = true then ((tags_Check.f k (⟨#[60, 112, 62]⟩ : ByteArray)).bind fun t168 => (if t168 = true then (none) else ((tags_Check.f k (⟨#[97, 60, 98]⟩ : ByteArray)).bind fun t169 => (if t169 = true then (none) else (if t165 = 11 then (if t159.toList = ([104, 49] : List UInt8) then (if (t162.length : Int) = 1 then ((tags_Ids.f k (⟨#[60, 104, 49, 32, 105, 100, 61, 34, 120, 34, 62]⟩ : ByteArray)).bind fun t170 => (if (t170.length : Int) = 1 then ((tags_Text.f k (⟨#[60, 98, 62, 97, 60, 47, 98, 62]⟩ : ByteArray)).bind fun t173 => (some (t173.toList == ([97] : List UInt8)))) else (none))) else (none)) else (none)) else (none)))))) else (none)) = some r := H
  have A2 := Aside0.mk A20
  clear A20
  by_cases c3 : t167 = true
  · subst c3
    have H1 : ((tags_Check.f k (⟨#[60, 112, 62]⟩ : ByteArray)).bind fun t168 => (if t168 = true then (none) else ((tags_Check.f k (⟨#[97, 60, 98]⟩ : ByteArray)).bind fun t169 => (if t169 = true then (none) else (if t165 = 11 then (if t159.toList = ([104, 49] : List UInt8) then (if (t162.length : Int) = 1 then ((tags_Ids.f k (⟨#[60, 104, 49, 32, 105, 100, 61, 34, 120, 34, 62]⟩ : ByteArray)).bind fun t170 => (if (t170.length : Int) = 1 then ((tags_Text.f k (⟨#[60, 98, 62, 97, 60, 47, 98, 62]⟩ : ByteArray)).bind fun t173 => (some (t173.toList == ([97] : List UInt8)))) else (none))) else (none)) else (none)) else (none)))))) = some r := by rw [if_pos rfl] at H; exact H
    clear H
    have H := H1
    clear H1
    replace H := Option.bind_eq_some_iff.mp H
    obtain ⟨t168, A40, H⟩ := H
    replace H : (if t168 = true then (none) else ((tags_Check.f k (⟨#[97, 60, 98]⟩ : ByteArray)).bind fun t169 => (if t169 = true then (none) else (if t165 = 11 then (if t159.toList = ([104, 49] : List UInt8) then (if (t162.length : Int) = 1 then ((tags_Ids.f k (⟨#[60, 104, 49, 32, 105, 100, 61, 34, 120, 34, 62]⟩ : ByteArray)).bind fun t170 => (if (t170.length : Int) = 1 then ((tags_Text.f k (⟨#[60, 98, 62, 97, 60, 47, 98, 62]⟩ : ByteArray)).bind fun t173 => (some (t173.toList == ([97] : List UInt8)))) else (none))) else (none)) else (none)) else (none))))) = some r := H
    have A4 := Aside0.mk A40
    clear A40
    by_cases c5 : t168 = true
    · subst c5
      have H1 : (none) = some r := by rw [if_pos rfl] at H; exact H
      cases H1
    · replace c5 := Bool.eq_false_iff.mpr c5
      subst c5
      have H1 : ((tags_Check.f k (⟨#[97, 60, 98]⟩ : ByteArray)).bind fun t169 => (if t169 = true then (none) else (if t165 = 11 then (if t159.toList = ([104, 49] : List UInt8) then (if (t162.length : Int) = 1 then ((tags_Ids.f k (⟨#[60, 104, 49, 32, 105, 100, 61, 34, 120, 34, 62]⟩ : ByteArray)).bind fun t170 => (if (t170.length : Int) = 1 then ((tags_Text.f k (⟨#[60, 98, 62, 97, 60, 47, 98, 62]⟩ : ByteArray)).bind fun t173 => (some (t173.toList == ([97] : List UInt8)))) else (none))) else (none)) else (none)) else (none)))) = some r := by rw [if_neg (show ¬ (false = true) by decide)] at H; exact H
      clear H
      have H := H1
      clear H1
      replace H := Option.bind_eq_some_iff.mp H
      obtain ⟨t169, A120, H⟩ := H
      replace H : (if t169 = true then (none) else (if t165 = 11 then (if t159.toList = ([104, 49] : List UInt8) then (if (t162.length : Int) = 1 then ((tags_Ids.f k (⟨#[60, 104, 49, 32, 105, 100, 61, 34, 120, 34, 62]⟩ : ByteArray)).bind fun t170 => (if (t170.length : Int) = 1 then ((tags_Text.f k (⟨#[60, 98, 62, 97, 60, 47, 98, 62]⟩ : ByteArray)).bind fun t173 => (some (t173.toList == ([97] : List UInt8)))) else (none))) else (none)) else (none)) else (none))) = some r := H
      have A12 := Aside0.mk A120
      clear A120
      by_cases c13 : t169 = true
      · subst c13
        have H1 : (none) = some r := by rw [if_pos rfl] at H; exact H
        cases H1
      · replace c13 := Bool.eq_false_iff.mpr c13
        subst c13
        have H1 : (if t165 = 11 then (if t159.toList = ([104, 49] : List UInt8) then (if (t162.length : Int) = 1 then ((tags_Ids.f k (⟨#[60, 104, 49, 32, 105, 100, 61, 34, 120, 34, 62]⟩ : ByteArray)).bind fun t170 => (if (t170.length : Int) = 1 then ((tags_Text.f k (⟨#[60, 98, 62, 97, 60, 47, 98, 62]⟩ : ByteArray)).bind fun t173 => (some (t173.toList == ([97] : List UInt8)))) else (none))) else (none)) else (none)) else (none)) = some r := by rw [if_neg (show ¬ (false = true) by decide)] at H; exact H
        clear H
        have H := H1
        clear H1
        by_cases c21 : t165 = 11
        · rw [if_pos c21] at H
          have c21b0 : (t165 == 11) = true := beq_iff_eq.mpr c21
          have c21b1 : (t165 != 11) = false := bne_eq_false_iff_eq.mpr c21
          clear c21
          by_cases c22 : t159.toList = ([104, 49] : List UInt8)
          · rw [if_pos c22] at H
            have c22b0 : (t159.toList == ([104, 49] : List UInt8)) = true := beq_iff_eq.mpr c22
            have c22b1 : (t159.toList != ([104, 49] : List UInt8)) = false := bne_eq_false_iff_eq.mpr c22
            clear c22
            by_cases c23 : (t162.length : Int) = 1
            · rw [if_pos c23] at H
              have c23b0 : ((t162.length : Int) == 1) = true := beq_iff_eq.mpr c23
              have c23b1 : ((t162.length : Int) != 1) = false := bne_eq_false_iff_eq.mpr c23
              clear c23
              replace H := Option.bind_eq_some_iff.mp H
              obtain ⟨t170, A240, H⟩ := H
              replace H : (if (t170.length : Int) = 1 then ((tags_Text.f k (⟨#[60, 98, 62, 97, 60, 47, 98, 62]⟩ : ByteArray)).bind fun t173 => (some (t173.toList == ([97] : List UInt8)))) else (none)) = some r := H
              have A24 := Aside0.mk A240
              clear A240
              by_cases c25 : (t170.length : Int) = 1
              · rw [if_pos c25] at H
                have c25b0 : ((t170.length : Int) == 1) = true := beq_iff_eq.mpr c25
                have c25b1 : ((t170.length : Int) != 1) = false := bne_eq_false_iff_eq.mpr c25
                clear c25
                replace H := Option.bind_eq_some_iff.mp H
                obtain ⟨t173, A260, H⟩ := H
                replace H : (some (t173.toList == ([97] : List UInt8))) = some r := H
                have A26 := Aside0.mk A260
                clear A260
                obtain rfl := Option.some.inj H
                go_enter Try.func7, Try.ntmps7
                go_wp2_with (first | ((with_reducible refine gate_callee (f := 8) rfl ?_); refine goesL_ (some 4) rfl rfl Try.func8 (by kernel_rfl) rfl #[.string (⟨#[60, 104, 49, 32, 105, 100, 61, 34, 120, 34, 62, 97]⟩ : ByteArray)] rfl (by (try simp only [List.map_toArray, List.map_cons, List.map_nil]); first | done | rfl | (simp only [List.length_drop, List.length_take]; rfl)) ?_; (with_reducible refine (tags_Read.calls k (⟨#[60, 104, 49, 32, 105, 100, 61, 34, 120, 34, 62, 97]⟩ : ByteArray) t159 t160 t161 t162 t165 _ ?side1 A1.out).mono ?_); (case side1 => exact Laid.go hLd (by repeat (first | (with_reducible first | exact HB.out | apply below_alloc | apply pw_below_drewN | apply below_drew1) | exact HB.out))); rintro e w27 ⟨v163, rfl, ho0, hb⟩; refine ⟨_, rfl, ?_⟩; have n0_ := Aside0.mk (Kd.R_lower ho0 (below_size (by repeat (first | (with_reducible first | exact HB.out | apply below_alloc | apply pw_below_drewN | apply below_drew1) | exact HB.out)))); have n1_ := Aside0.mk (below_step (by repeat (first | (with_reducible first | exact HB.out | apply below_alloc | apply pw_below_drewN | apply below_drew1) | exact HB.out)) hb); clear HB; have HO164 := n0_; have HB := n1_; clear n0_ n1_; (try clear hb); (try clear hb2); (try clear hk); (try clear hi); (try clear ho0)) | ((with_reducible refine gate_dst (N := 1) rfl ?_); (try (refine gate_guard (by rfl) ?_; dsimp only)); refine box_event ?hg (N := 1) ?hd (cs := #[.string (⟨#[]⟩ : ByteArray), .bool false, .bool false, .slice none 0 0]) (t := 25) ?hr ?_; (case hd => rfl); (case hg => rfl); (case hr => first | (go_simp; done) | (go_simp; rfl)); intro gb166 hg w28 hbox hb; have n0_ := Aside0.mk (Kd.R_below (by (with_reducible repeat (first | apply Kd.R_alloc | apply Kd.R_drewN | apply Kd.R_drew)); exact HO164.out) hb); have n1_ := Aside0.mk (below_step (by repeat (first | (with_reducible first | exact HB.out | apply below_alloc | apply pw_below_drewN | apply below_drew1) | exact HB.out)) hb); have n2_ := Aside0.mk (hbox); have n3_ := Aside0.mk ((by rw [hg]; exact (below_size (by repeat (first | (with_reducible first | exact HB.out | apply below_alloc | apply pw_below_drewN | apply below_drew1) | exact HB.out))) : w.heap.size ≤ gb166)); have n4_ := Aside0.mk ((by rw [hg]; exact (below_size (by repeat (first | (with_reducible first | exact HB.out | apply below_alloc | apply pw_below_drewN | apply below_drew1) | exact HB.out))) : w.heap.size ≤ gb166)); clear HO164; clear HB; have HO164 := n0_; have HB := n1_; have BK166 := n2_; have GW166 := n3_; have GE166 := n4_; clear n0_ n1_ n2_ n3_ n4_; clear hb hbox hg; have hcz29_0 : w28.cell? ⟨gb166, 0, none⟩ = some (.string (⟨#[]⟩ : ByteArray)) := (blk_cell BK166.out 0).trans rfl; have hcz29_1 : w28.cell? ⟨gb166, 1, none⟩ = some (.bool false) := (blk_cell BK166.out 1).trans rfl; have hcz29_2 : w28.cell? ⟨gb166, 2, none⟩ = some (.bool false) := (blk_cell BK166.out 2).trans rfl; have hcz29_3 : w28.cell? ⟨gb166, 3, none⟩ = some (.slice none 0 0) := (blk_cell BK166.out 3).trans rfl; have hfz29_0 := blk_frozen BK166.out 0; have hfz29_1 := blk_frozen BK166.out 1; have hfz29_2 := blk_frozen BK166.out 2; have hfz29_3 := blk_frozen BK166.out 3; obtain ⟨Ao30, co30, eo30⟩ := Kd.R_slice HO164.out; subst eo30) | ((with_reducible refine gate_callee (f := 12) rfl ?_); refine goesL_ (some 7) rfl rfl Try.func12 (by kernel_rfl) rfl #[.string (⟨#[60, 112, 62, 97, 60, 98, 114, 32, 47, 62, 98, 60, 47, 112, 62]⟩ : ByteArray)] rfl (by (try simp only [List.map_toArray, List.map_cons, List.map_nil]); first | done | rfl | (simp only [List.length_drop, List.length_take]; rfl)) ?_; (with_reducible refine (tags_Check.calls k (⟨#[60, 112, 62, 97, 60, 98, 114, 32, 47, 62, 98, 60, 47, 112, 62]⟩ : ByteArray) true _ ?side1 A2.out).mono ?_); (case side1 => exact Laid.go hLd (by repeat (first | (with_reducible first | exact HB.out | apply below_alloc | apply pw_below_drewN | apply below_drew1 | refine below_set ?_ GE166.out) | exact HB.out))); rintro e w31 ⟨rfl, hb⟩; refine ⟨_, rfl, ?_⟩; have n0_ := Aside0.mk (Kd.R_below (by (with_reducible repeat (first | apply Kd.R_alloc | apply Kd.R_drewN | apply Kd.R_drew)); exact (Kd.R_mono (Kd.R_far (p := ⟨gb166, 3, none⟩) (Kd.R_far (p := ⟨gb166, 2, none⟩) (Kd.R_far (p := ⟨gb166, 1, none⟩) (Kd.R_far (p := ⟨gb166, 0, none⟩) (Kd.R_types HO164.out BK166.out (by decide)) (fun _ hk => hk.2) (.string t159)) (fun _ hk => hk.2) (.bool t160)) (fun _ hk => hk.2) (.bool t161)) (fun _ hk => hk.2) (.slice Ao30 t162.length co30)) (fun _ h_ => h_.1))) hb); have n1_ := Aside0.mk (blk_below (g := gb166) (o := .cells #[.string t159, .bool t160, .bool t161, .slice Ao30 t162.length co30] 25 (0, 0)) (by (with_reducible repeat (first | refine blk_drewN ?_ _ | refine blk_drew ?_ | refine blk_alloc ?_ _)); refine blk_put (cs := #[.string t159, .bool t160, .bool t161, .slice none 0 0]) ?_ 3 _ rfl; (with_reducible repeat (first | refine blk_drewN ?_ _ | refine blk_drew ?_ | refine blk_alloc ?_ _)); refine blk_put (cs := #[.string t159, .bool t160, .bool false, .slice none 0 0]) ?_ 2 _ rfl; (with_reducible repeat (first | refine blk_drewN ?_ _ | refine blk_drew ?_ | refine blk_alloc ?_ _)); refine blk_put (cs := #[.string t159, .bool false, .bool false, .slice none 0 0]) ?_ 1 _ rfl; (with_reducible repeat (first | refine blk_drewN ?_ _ | refine blk_drew ?_ | refine blk_alloc ?_ _)); refine blk_put (cs := #[.string (⟨#[]⟩ : ByteArray), .bool false, .bool false, .slice none 0 0]) ?_ 0 _ rfl; (with_reducible repeat (first | refine blk_drewN ?_ _ | refine blk_drew ?_ | refine blk_alloc ?_ _)); exact BK166.out) hb); have n2_ := Aside0.mk (below_step (by repeat (first | (with_reducible first | exact HB.out | apply below_alloc | apply pw_below_drewN | apply below_drew1 | refine below_set ?_ GE166.out) | exact HB.out)) hb); clear HO164; clear BK166; clear HB; have HO164 := n0_; have BK166 := n1_; have HB := n2_; clear n0_ n1_ n2_; (try clear hb); (try clear hb2); (try clear hk); (try clear hi)) | (go_at_call 12; (with_reducible refine (tags_Check.calls k (⟨#[60, 112, 62]⟩ : ByteArray) false _ ?side1 A4.out).mono ?_); (case side1 => exact Laid.go hLd (by repeat (first | (with_reducible first | exact HB.out | apply below_alloc | apply pw_below_drewN | apply below_drew1 | refine below_set ?_ GE166.out) | exact HB.out))); rintro e w32 ⟨rfl, hb⟩; have n0_ := Aside0.mk (Kd.R_below (by (with_reducible repeat (first | apply Kd.R_alloc | apply Kd.R_drewN | apply Kd.R_drew)); exact HO164.out) hb); have n1_ := Aside0.mk (blk_below (g := gb166) (o := .cells #[.string t159, .bool t160, .bool t161, .slice Ao30 t162.length co30] 25 (0, 0)) (by (with_reducible repeat (first | refine blk_drewN ?_ _ | refine blk_drew ?_ | refine blk_alloc ?_ _)); exact BK166.out) hb); have n2_ := Aside0.mk (below_step (by repeat (first | (with_reducible first | exact HB.out | apply below_alloc | apply pw_below_drewN | apply below_drew1 | refine below_set ?_ GE166.out) | exact HB.out)) hb); clear HO164; clear BK166; clear HB; have HO164 := n0_; have BK166 := n1_; have HB := n2_; clear n0_ n1_ n2_; (try clear hb); (try clear hb2); (try clear hk); (try clear hi)) | (go_at_call 12; (with_reducible refine (tags_Check.calls k (⟨#[97, 60, 98]⟩ : ByteArray) false _ ?side1 A12.out).mono ?_); (case side1 => exact Laid.go hLd (by repeat (first | (with_reducible first | exact HB.out | apply below_alloc | apply pw_below_drewN | apply below_drew1 | refine below_set ?_ GE166.out) | exact HB.out))); rintro e w33 ⟨rfl, hb⟩; have n0_ := Aside0.mk (Kd.R_below (by (with_reducible repeat (first | apply Kd.R_alloc | apply Kd.R_drewN | apply Kd.R_drew)); exact HO164.out) hb); have n1_ := Aside0.mk (blk_below (g := gb166) (o := .cells #[.string t159, .bool t160, .bool t161, .slice Ao30 t162.length co30] 25 (0, 0)) (by (with_reducible repeat (first | refine blk_drewN ?_ _ | refine blk_drew ?_ | refine blk_alloc ?_ _)); exact BK166.out) hb); have n2_ := Aside0.mk (below_step (by repeat (first | (with_reducible first | exact HB.out | apply below_alloc | apply pw_below_drewN | apply below_drew1 | refine below_set ?_ GE166.out) | exact HB.out)) hb); clear HO164; clear BK166; clear HB; have HO164 := n0_; have BK166 := n1_; have HB := n2_; clear n0_ n1_ n2_; (try clear hb); (try clear hb2); (try clear hk); (try clear hi); have hcz34_0 : w33.cell? ⟨gb166, 0, none⟩ = some (.string t159) := (blk_cell BK166.out 0).trans rfl; have hcz34_1 : w33.cell? ⟨gb166, 1, none⟩ = some (.bool t160) := (blk_cell BK166.out 1).trans rfl; have hcz34_2 : w33.cell? ⟨gb166, 2, none⟩ = some (.bool t161) := (blk_cell BK166.out 2).trans rfl; have hcz34_3 : w33.cell? ⟨gb166, 3, none⟩ = some (.slice Ao30 t162.length co30) := (blk_cell BK166.out 3).trans rfl; have hfz34_0 := blk_frozen BK166.out 0; have hfz34_1 := blk_frozen BK166.out 1; have hfz34_2 := blk_frozen BK166.out 2; have hfz34_3 := blk_frozen BK166.out 3) | (go_at_call 15; (with_reducible refine (tags_Ids.calls k (⟨#[60, 104, 49, 32, 105, 100, 61, 34, 120, 34, 62]⟩ : ByteArray) t170 _ ?side1 A24.out).mono ?_); (case side1 => exact Laid.go hLd (by repeat (first | (with_reducible first | exact HB.out | apply below_alloc | apply pw_below_drewN | apply below_drew1 | refine below_set ?_ GE166.out) | exact HB.out))); rintro e w35 ⟨v171, rfl, ho0, hb⟩; have n0_ := Aside0.mk (Kd.R_below (by (with_reducible repeat (first | apply Kd.R_alloc | apply Kd.R_drewN | apply Kd.R_drew)); exact HO164.out) hb); have n1_ := Aside0.mk (Kd.R_lower ho0 (below_size (by repeat (first | (with_reducible first | exact HB.out | apply below_alloc | apply pw_below_drewN | apply below_drew1 | refine below_set ?_ GE166.out) | exact HB.out)))); have n2_ := Aside0.mk (blk_below (g := gb166) (o := .cells #[.string t159, .bool t160, .bool t161, .slice Ao30 t162.length co30] 25 (0, 0)) (by (with_reducible repeat (first | refine blk_drewN ?_ _ | refine blk_drew ?_ | refine blk_alloc ?_ _)); exact BK166.out) hb); have n3_ := Aside0.mk (below_step (by repeat (first | (with_reducible first | exact HB.out | apply below_alloc | apply pw_below_drewN | apply below_drew1 | refine below_set ?_ GE166.out) | exact HB.out)) hb); clear HO164; clear BK166; clear HB; have HO164 := n0_; have HO172 := n1_; have BK166 := n2_; have HB := n3_; clear n0_ n1_ n2_ n3_; (try clear hb); (try clear hb2); (try clear hk); (try clear hi); (try clear ho0); obtain ⟨Ao36, co36, eo36⟩ := Kd.R_slice HO172.out; subst eo36) | (go_at_call 17; (with_reducible refine (tags_Text.calls k (⟨#[60, 98, 62, 97, 60, 47, 98, 62]⟩ : ByteArray) t173 _ ?side1 A26.out).mono ?_); (case side1 => exact Laid.go hLd (by repeat (first | (with_reducible first | exact HB.out | apply below_alloc | apply pw_below_drewN | apply below_drew1 | refine below_set ?_ GE166.out) | exact HB.out))); rintro e w37 ⟨rfl, hb⟩; have n0_ := Aside0.mk (Kd.R_below (by (with_reducible repeat (first | apply Kd.R_alloc | apply Kd.R_drewN | apply Kd.R_drew)); exact HO164.out) hb); have n1_ := Aside0.mk (Kd.R_below (by (with_reducible repeat (first | apply Kd.R_alloc | apply Kd.R_drewN | apply Kd.R_drew)); exact HO172.out) hb); have n2_ := Aside0.mk (blk_below (g := gb166) (o := .cells #[.string t159, .bool t160, .bool t161, .slice Ao30 t162.length co30] 25 (0, 0)) (by (with_reducible repeat (first | refine blk_drewN ?_ _ | refine blk_drew ?_ | refine blk_alloc ?_ _)); exact BK166.out) hb); have n3_ := Aside0.mk (below_step (by repeat (first | (with_reducible first | exact HB.out | apply below_alloc | apply pw_below_drewN | apply below_drew1 | refine below_set ?_ GE166.out) | exact HB.out)) hb); clear HO164; clear HO172; clear BK166; clear HB; have HO164 := n0_; have HO172 := n1_; have BK166 := n2_; have HB := n3_; clear n0_ n1_ n2_ n3_; (try clear hb); (try clear hb2); (try clear hk); (try clear hi)))
                go_ret
                exact ⟨by first | rfl | (simp [errW_none, errW_some] <;> rfl) | (simp [*, errW_none, errW_some] <;> rfl), by repeat (first | (with_reducible first | exact HB.out | apply below_alloc | apply pw_below_drewN | apply below_drew1 | refine below_set ?_ GE166.out) | exact HB.out)⟩
              · rw [if_neg c25] at H
                cases H
            · rw [if_neg c23] at H
              cases H
          · rw [if_neg c22] at H
            cases H
        · rw [if_neg c21] at H
          cases H
  · replace c3 := Bool.eq_false_iff.mpr c3
    subst c3
    have H1 : (none) = some r := by rw [if_neg (show ¬ (false = true) by decide)] at H; exact H
    cases H1
/-! ### incipitref08_Begins: function 22 -/
def incipitref08_Begins.f (a0 : ByteArray) (a1 : ByteArray) : Option (Bool) := if (a0.size : Int) ≥ (a1.size : Int) then (if 0 ≤ (a1.size : Int) then (if (a1.size : Int) ≤ (a0.size : Int) then (some ((a0.extract 0 ((a1.size : Int) : Int).toNat).toList == a1.toList)) else (none)) else (none)) else (some false)
set_option maxHeartbeats 8000000 in
set_option maxRecDepth 100000 in
theorem incipitref08_Begins.calls (a0 : ByteArray) (a1 : ByteArray) (r : Bool) (w : World) (h : incipitref08_Begins.f a0 a1 = some r) :
    Calls Try.prog 22 #[.string a0, .string a1] w fun e w' => e = .returned (.bool r) ∧ Drawn0 w w' := by
  have H : (if (a0.size : Int) ≥ (a1.size : Int) then (if 0 ≤ (a1.size : Int) then (if (a1.size : Int) ≤ (a0.size : Int) then (some ((a0.extract 0 ((a1.size : Int) : Int).toNat).toList == a1.toList)) else (none)) else (none)) else (some false)) = some r := h
  clear h
  by_cases c3 : (a0.size : Int) ≥ (a1.size : Int)
  · rw [if_pos c3] at H
    have c3b0 : decide ((a1.size : Int) ≤ (a0.size : Int)) = true := decide_eq_true c3
    have c3b1 : decide (a1.size ≤ a0.size) = true := decide_eq_true (Int.ofNat_le.mp c3)
    clear c3
    by_cases c4 : 0 ≤ (a1.size : Int)
    · rw [if_pos c4] at H
      have c4b0 := eq_true c4
      have c4b1 : decide (0 ≤ (a1.size : Int)) = true := decide_eq_true c4
      clear c4
      by_cases c5 : (a1.size : Int) ≤ (a0.size : Int)
      · rw [if_pos c5] at H
        have c5b0 := eq_true c5
        have c5b1 : decide ((a1.size : Int) ≤ (a0.size : Int)) = true := decide_eq_true c5
        clear c5
        obtain rfl := Option.some.inj H
        go_enter Try.func22, Try.ntmps22
        go_wp2
        go_ret
        exact ⟨by first | rfl | (simp; done) | (simp [*]; done), by repeat (first | exact Drawn0.refl _ | apply Drawn0.step)⟩
      · rw [if_neg c5] at H
        exact absurd H (by simp)
    · rw [if_neg c4] at H
      exact absurd H (by simp)
  · rw [if_neg c3] at H
    have c3b0 : decide ((a1.size : Int) ≤ (a0.size : Int)) = false := decide_eq_false c3
    have c3b1 : decide (a1.size ≤ a0.size) = false := decide_eq_false (fun h => c3 (Int.ofNat_le.mpr h))
    clear c3
    obtain rfl := Option.some.inj H
    go_enter Try.func22, Try.ntmps22
    go_wp2
    go_ret
    exact ⟨by first | rfl | (simp; done) | (simp [*]; done), by repeat (first | exact Drawn0.refl _ | apply Drawn0.step)⟩

/-! ### incipitref21_small: function 39 -/
def incipitref21_small.f (a0 : Int) : Option (Bool) := if a0 ≥ 97 then (some (decide (a0 ≤ 122))) else (some false)
set_option maxHeartbeats 8000000 in
set_option maxRecDepth 100000 in
theorem incipitref21_small.calls (a0 : Int) (r : Bool) (w : World) (h : incipitref21_small.f a0 = some r) :
    Calls Try.prog 39 #[.int .u8 a0] w fun e w' => e = .returned (.bool r) ∧ Drawn0 w w' := by
  have H : (if a0 ≥ 97 then (some (decide (a0 ≤ 122))) else (some false)) = some r := h
  clear h
  by_cases c2 : a0 ≥ 97
  · rw [if_pos c2] at H
    have c2b0 : decide (97 ≤ a0) = true := decide_eq_true c2
    clear c2
    obtain rfl := Option.some.inj H
    go_enter Try.func39, Try.ntmps39
    go_wp2
    go_ret
    exact ⟨by first | rfl | (simp; done) | (simp [*]; done), by repeat (first | exact Drawn0.refl _ | apply Drawn0.step)⟩
  · rw [if_neg c2] at H
    have c2b0 : decide (97 ≤ a0) = false := decide_eq_false c2
    clear c2
    obtain rfl := Option.some.inj H
    go_enter Try.func39, Try.ntmps39
    go_wp2
    go_ret
    exact ⟨by first | rfl | (simp; done) | (simp [*]; done), by repeat (first | exact Drawn0.refl _ | apply Drawn0.step)⟩

/-! ### incipitref21_name: function 23 -/
def incipitref21_name.l0 : Nat → ByteArray → Bool → Int → Option (Int)
  | 0, _, _, _ => none
  | k + 1, x0, x1, x5 => if x5 < (x0.size : Int) then (if 0 ≤ x5 then ((incipitref21_small.f (bt x0 x5)).bind fun t174 => (if t174 = true then (incipitref21_name.l0 k x0 x1 (wrap64 (x5 + 1))) else (if x5 > 0 then (if (bt x0 x5) ≥ 48 then (if (bt x0 x5) ≤ 57 then (incipitref21_name.l0 k x0 x1 (wrap64 (x5 + 1))) else (if x1 = true then (if (bt x0 x5) = 45 then (incipitref21_name.l0 k x0 x1 (wrap64 (x5 + 1))) else (some x5)) else (some x5))) else (if x1 = true then (if (bt x0 x5) = 45 then (incipitref21_name.l0 k x0 x1 (wrap64 (x5 + 1))) else (some x5)) else (some x5))) else (some x5)))) else (none)) else (some x5)
def incipitref21_name.f (k : Nat) (a0 : ByteArray) (a1 : Bool) : Option (Int) := incipitref21_name.l0 k a0 a1 0
set_option maxHeartbeats 8000000 in
set_option maxRecDepth 100000 in
theorem incipitref21_name.calls (k : Nat) (a0 : ByteArray) (a1 : Bool) (r : Int) (w : World) (h : incipitref21_name.f k a0 a1 = some r) :
    Calls Try.prog 23 #[.string a0, .bool a1] w fun e w' => e = .returned (.int .i64 r) ∧ Drawn0 w w' := by
  have H : (incipitref21_name.l0 k a0 a1 0) = some r := h
  clear h
  have H' := Aside0.mk H
  clear H
  go_enter Try.func23, Try.ntmps23
  go_wp2
  go_loopg [5] k (fun kq v5 w' => ∃ (x5_1 : Int), v5 = .int .i64 x5_1 ∧ Aside0 (incipitref21_name.l0 kq a0 a1 x5_1 = some r) ∧ Aside0 (kq ≤ k) ∧ Drawn0 w w')
  case atStart => exact ⟨(0), (by first | rfl | (simp; done) | (simp [*]; done)), H', ⟨Nat.le_refl _⟩, by repeat (first | exact Drawn0.refl _ | apply Drawn0.step)⟩
  case round =>
    clear H'
    try clear c2
    try clear p2
    obtain ⟨x5_1, rfl, HA, HK1, ⟨m1, rfl⟩⟩ := hrel
    cases gk with
    | zero => exact absurd HA.out (by simp [incipitref21_name.l0])
    | succ k1 =>
      have H := HA.out
      clear HA
      simp only [incipitref21_name.l0] at H
      by_cases c3 : x5_1 < (a0.size : Int)
      · rw [if_pos c3] at H
        have c3b0 : decide (x5_1 < (a0.size : Int)) = true := decide_eq_true c3
        clear c3
        by_cases c4 : 0 ≤ x5_1
        · rw [if_pos c4] at H
          have c4b0 : decide (0 ≤ x5_1) = true := decide_eq_true c4
          clear c4
          replace H := Option.bind_eq_some_iff.mp H
          obtain ⟨t174, A60, H⟩ := H
          replace H : (if t174 = true then (incipitref21_name.l0 k1 a0 a1 (wrap64 (x5_1 + 1))) else (if x5_1 > 0 then (if (bt a0 x5_1) ≥ 48 then (if (bt a0 x5_1) ≤ 57 then (incipitref21_name.l0 k1 a0 a1 (wrap64 (x5_1 + 1))) else (if a1 = true then (if (bt a0 x5_1) = 45 then (incipitref21_name.l0 k1 a0 a1 (wrap64 (x5_1 + 1))) else (some x5_1)) else (some x5_1))) else (if a1 = true then (if (bt a0 x5_1) = 45 then (incipitref21_name.l0 k1 a0 a1 (wrap64 (x5_1 + 1))) else (some x5_1)) else (some x5_1))) else (some x5_1))) = some r := H
          have A6 := Aside0.mk A60
          clear A60
          by_cases c7 : t174 = true
          · subst c7
            have H1 : (incipitref21_name.l0 k1 a0 a1 (wrap64 (x5_1 + 1))) = some r := by rw [if_pos rfl] at H; exact H
            clear H
            have H := H1
            clear H1
            have H' := Aside0.mk H
            clear H
            have p5 : 0 ≤ (x5_1 : Int) := of_decide_eq_true (by first | (with_reducible assumption) | assumption)
            have q5 : x5_1 < (a0.size : Int) := of_decide_eq_true (by first | (with_reducible assumption) | assumption)
            have hx5 := bt_at a0 x5_1
            replace p5 := eq_true p5
            replace q5 := eq_true q5
            go_wp2_with (first | (go_at_call 39; (with_reducible refine (incipitref21_small.calls (bt a0 x5_1) true _ A6.out).mono ?_); rintro e w' ⟨rfl, ⟨nd, rfl⟩⟩))
            go_roundg k1
            case measure => have := HK1.out; omega
            case rel => exact ⟨(wrap64 (x5_1 + 1)), (by first | rfl | (simp; done) | (simp [*]; done)), H', ⟨by have := HK1.out; omega⟩, by repeat (first | exact Drawn0.refl _ | apply Drawn0.step)⟩
          · replace c7 := Bool.eq_false_iff.mpr c7
            subst c7
            have H1 : (if x5_1 > 0 then (if (bt a0 x5_1) ≥ 48 then (if (bt a0 x5_1) ≤ 57 then (incipitref21_name.l0 k1 a0 a1 (wrap64 (x5_1 + 1))) else (if a1 = true then (if (bt a0 x5_1) = 45 then (incipitref21_name.l0 k1 a0 a1 (wrap64 (x5_1 + 1))) else (some x5_1)) else (some x5_1))) else (if a1 = true then (if (bt a0 x5_1) = 45 then (incipitref21_name.l0 k1 a0 a1 (wrap64 (x5_1 + 1))) else (some x5_1)) else (some x5_1))) else (some x5_1)) = some r := by rw [if_neg (show ¬ (false = true) by decide)] at H; exact H
            clear H
            have H := H1
            clear H1
            by_cases c8 : x5_1 > 0
            · rw [if_pos c8] at H
              have c8b0 : decide (0 < x5_1) = true := decide_eq_true c8
              clear c8
              by_cases c10 : (bt a0 x5_1) ≥ 48
              · rw [if_pos c10] at H
                have c10b0 : decide (48 ≤ (bt a0 x5_1)) = true := decide_eq_true c10
                clear c10
                by_cases c12 : (bt a0 x5_1) ≤ 57
                · rw [if_pos c12] at H
                  have c12b0 : decide ((bt a0 x5_1) ≤ 57) = true := decide_eq_true c12
                  clear c12
                  have H' := Aside0.mk H
                  clear H
                  have p5 : 0 ≤ (x5_1 : Int) := of_decide_eq_true (by first | (with_reducible assumption) | assumption)
                  have q5 : x5_1 < (a0.size : Int) := of_decide_eq_true (by first | (with_reducible assumption) | assumption)
                  have hx5 := bt_at a0 x5_1
                  replace p5 := eq_true p5
                  replace q5 := eq_true q5
                  go_wp2_with (first | (go_at_call 39; (with_reducible refine (incipitref21_small.calls (bt a0 x5_1) false _ A6.out).mono ?_); rintro e w' ⟨rfl, ⟨nd, rfl⟩⟩; have p9 : 0 ≤ (x5_1 : Int) := of_decide_eq_true (by first | (with_reducible assumption) | assumption); have q9 : x5_1 < (a0.size : Int) := of_decide_eq_true (by first | (with_reducible assumption) | assumption); have hx9 := bt_at a0 x5_1; replace p9 := eq_true p9; replace q9 := eq_true q9; have p11 : 0 ≤ (x5_1 : Int) := of_decide_eq_true (by first | (with_reducible assumption) | assumption); have q11 : x5_1 < (a0.size : Int) := of_decide_eq_true (by first | (with_reducible assumption) | assumption); have hx11 := bt_at a0 x5_1; replace p11 := eq_true p11; replace q11 := eq_true q11))
                  go_roundg k1
                  case measure => have := HK1.out; omega
                  case rel => exact ⟨(wrap64 (x5_1 + 1)), (by first | rfl | (simp; done) | (simp [*]; done)), H', ⟨by have := HK1.out; omega⟩, by repeat (first | exact Drawn0.refl _ | apply Drawn0.step)⟩
                · rw [if_neg c12] at H
                  have c12b0 : decide ((bt a0 x5_1) ≤ 57) = false := decide_eq_false c12
                  clear c12
                  by_cases c13 : a1 = true
                  · subst c13
                    have H1 : (if (bt a0 x5_1) = 45 then (incipitref21_name.l0 k1 a0 true (wrap64 (x5_1 + 1))) else (some x5_1)) = some r := by rw [if_pos rfl] at H; exact H
                    clear H
                    have H := H1
                    clear H1
                    by_cases c15 : (bt a0 x5_1) = 45
                    · rw [if_pos c15] at H
                      have c15b0 : ((bt a0 x5_1) == 45) = true := beq_iff_eq.mpr c15
                      have c15b1 : ((bt a0 x5_1) != 45) = false := bne_eq_false_iff_eq.mpr c15
                      clear c15
                      have H' := Aside0.mk H
                      clear H
                      have p5 : 0 ≤ (x5_1 : Int) := of_decide_eq_true (by first | (with_reducible assumption) | assumption)
                      have q5 : x5_1 < (a0.size : Int) := of_decide_eq_true (by first | (with_reducible assumption) | assumption)
                      have hx5 := bt_at a0 x5_1
                      replace p5 := eq_true p5
                      replace q5 := eq_true q5
                      go_wp2_with (first | (go_at_call 39; (with_reducible refine (incipitref21_small.calls (bt a0 x5_1) false _ A6.out).mono ?_); rintro e w' ⟨rfl, ⟨nd, rfl⟩⟩; have p9 : 0 ≤ (x5_1 : Int) := of_decide_eq_true (by first | (with_reducible assumption) | assumption); have q9 : x5_1 < (a0.size : Int) := of_decide_eq_true (by first | (with_reducible assumption) | assumption); have hx9 := bt_at a0 x5_1; replace p9 := eq_true p9; replace q9 := eq_true q9; have p11 : 0 ≤ (x5_1 : Int) := of_decide_eq_true (by first | (with_reducible assumption) | assumption); have q11 : x5_1 < (a0.size : Int) := of_decide_eq_true (by first | (with_reducible assumption) | assumption); have hx11 := bt_at a0 x5_1; replace p11 := eq_true p11; replace q11 := eq_true q11; have p14 : 0 ≤ (x5_1 : Int) := of_decide_eq_true (by first | (with_reducible assumption) | assumption); have q14 : x5_1 < (a0.size : Int) := of_decide_eq_true (by first | (with_reducible assumption) | assumption); have hx14 := bt_at a0 x5_1; replace p14 := eq_true p14; replace q14 := eq_true q14))
                      go_roundg k1
                      case measure => have := HK1.out; omega
                      case rel => exact ⟨(wrap64 (x5_1 + 1)), (by first | rfl | (simp; done) | (simp [*]; done)), H', ⟨by have := HK1.out; omega⟩, by repeat (first | exact Drawn0.refl _ | apply Drawn0.step)⟩
                    · rw [if_neg c15] at H
                      have c15b0 : ((bt a0 x5_1) == 45) = false := beq_eq_false_iff_ne.mpr c15
                      have c15b1 : ((bt a0 x5_1) != 45) = true := bne_iff_ne.mpr c15
                      obtain rfl := Option.some.inj H
                      have p5 : 0 ≤ (x5_1 : Int) := of_decide_eq_true (by first | (with_reducible assumption) | assumption)
                      have q5 : x5_1 < (a0.size : Int) := of_decide_eq_true (by first | (with_reducible assumption) | assumption)
                      have hx5 := bt_at a0 x5_1
                      replace p5 := eq_true p5
                      replace q5 := eq_true q5
                      go_wp2_with (first | (go_at_call 39; (with_reducible refine (incipitref21_small.calls (bt a0 x5_1) false _ A6.out).mono ?_); rintro e w' ⟨rfl, ⟨nd, rfl⟩⟩; have p9 : 0 ≤ (x5_1 : Int) := of_decide_eq_true (by first | (with_reducible assumption) | assumption); have q9 : x5_1 < (a0.size : Int) := of_decide_eq_true (by first | (with_reducible assumption) | assumption); have hx9 := bt_at a0 x5_1; replace p9 := eq_true p9; replace q9 := eq_true q9; have p11 : 0 ≤ (x5_1 : Int) := of_decide_eq_true (by first | (with_reducible assumption) | assumption); have q11 : x5_1 < (a0.size : Int) := of_decide_eq_true (by first | (with_reducible assumption) | assumption); have hx11 := bt_at a0 x5_1; replace p11 := eq_true p11; replace q11 := eq_true q11; have p14 : 0 ≤ (x5_1 : Int) := of_decide_eq_true (by first | (with_reducible assumption) | assumption); have q14 : x5_1 < (a0.size : Int) := of_decide_eq_true (by first | (with_reducible assumption) | assumption); have hx14 := bt_at a0 x5_1; replace p14 := eq_true p14; replace q14 := eq_true q14))
                      go_ret
                      exact ⟨by first | rfl | (simp; done) | (simp [*]; done), by repeat (first | exact Drawn0.refl _ | apply Drawn0.step)⟩
                  · replace c13 := Bool.eq_false_iff.mpr c13
                    subst c13
                    have H1 : (some x5_1) = some r := by rw [if_neg (show ¬ (false = true) by decide)] at H; exact H
                    clear H
                    have H := H1
                    clear H1
                    obtain rfl := Option.some.inj H
                    have p5 : 0 ≤ (x5_1 : Int) := of_decide_eq_true (by first | (with_reducible assumption) | assumption)
                    have q5 : x5_1 < (a0.size : Int) := of_decide_eq_true (by first | (with_reducible assumption) | assumption)
                    have hx5 := bt_at a0 x5_1
                    replace p5 := eq_true p5
                    replace q5 := eq_true q5
                    go_wp2_with (first | (go_at_call 39; (with_reducible refine (incipitref21_small.calls (bt a0 x5_1) false _ A6.out).mono ?_); rintro e w' ⟨rfl, ⟨nd, rfl⟩⟩; have p9 : 0 ≤ (x5_1 : Int) := of_decide_eq_true (by first | (with_reducible assumption) | assumption); have q9 : x5_1 < (a0.size : Int) := of_decide_eq_true (by first | (with_reducible assumption) | assumption); have hx9 := bt_at a0 x5_1; replace p9 := eq_true p9; replace q9 := eq_true q9; have p11 : 0 ≤ (x5_1 : Int) := of_decide_eq_true (by first | (with_reducible assumption) | assumption); have q11 : x5_1 < (a0.size : Int) := of_decide_eq_true (by first | (with_reducible assumption) | assumption); have hx11 := bt_at a0 x5_1; replace p11 := eq_true p11; replace q11 := eq_true q11))
                    go_ret
                    exact ⟨by first | rfl | (simp; done) | (simp [*]; done), by repeat (first | exact Drawn0.refl _ | apply Drawn0.step)⟩
              · rw [if_neg c10] at H
                have c10b0 : decide (48 ≤ (bt a0 x5_1)) = false := decide_eq_false c10
                clear c10
                by_cases c16 : a1 = true
                · subst c16
                  have H1 : (if (bt a0 x5_1) = 45 then (incipitref21_name.l0 k1 a0 true (wrap64 (x5_1 + 1))) else (some x5_1)) = some r := by rw [if_pos rfl] at H; exact H
                  clear H
                  have H := H1
                  clear H1
                  by_cases c18 : (bt a0 x5_1) = 45
                  · rw [if_pos c18] at H
                    have c18b0 : ((bt a0 x5_1) == 45) = true := beq_iff_eq.mpr c18
                    have c18b1 : ((bt a0 x5_1) != 45) = false := bne_eq_false_iff_eq.mpr c18
                    clear c18
                    have H' := Aside0.mk H
                    clear H
                    have p5 : 0 ≤ (x5_1 : Int) := of_decide_eq_true (by first | (with_reducible assumption) | assumption)
                    have q5 : x5_1 < (a0.size : Int) := of_decide_eq_true (by first | (with_reducible assumption) | assumption)
                    have hx5 := bt_at a0 x5_1
                    replace p5 := eq_true p5
                    replace q5 := eq_true q5
                    go_wp2_with (first | (go_at_call 39; (with_reducible refine (incipitref21_small.calls (bt a0 x5_1) false _ A6.out).mono ?_); rintro e w' ⟨rfl, ⟨nd, rfl⟩⟩; have p9 : 0 ≤ (x5_1 : Int) := of_decide_eq_true (by first | (with_reducible assumption) | assumption); have q9 : x5_1 < (a0.size : Int) := of_decide_eq_true (by first | (with_reducible assumption) | assumption); have hx9 := bt_at a0 x5_1; replace p9 := eq_true p9; replace q9 := eq_true q9; have p17 : 0 ≤ (x5_1 : Int) := of_decide_eq_true (by first | (with_reducible assumption) | assumption); have q17 : x5_1 < (a0.size : Int) := of_decide_eq_true (by first | (with_reducible assumption) | assumption); have hx17 := bt_at a0 x5_1; replace p17 := eq_true p17; replace q17 := eq_true q17))
                    go_roundg k1
                    case measure => have := HK1.out; omega
                    case rel => exact ⟨(wrap64 (x5_1 + 1)), (by first | rfl | (simp; done) | (simp [*]; done)), H', ⟨by have := HK1.out; omega⟩, by repeat (first | exact Drawn0.refl _ | apply Drawn0.step)⟩
                  · rw [if_neg c18] at H
                    have c18b0 : ((bt a0 x5_1) == 45) = false := beq_eq_false_iff_ne.mpr c18
                    have c18b1 : ((bt a0 x5_1) != 45) = true := bne_iff_ne.mpr c18
                    obtain rfl := Option.some.inj H
                    have p5 : 0 ≤ (x5_1 : Int) := of_decide_eq_true (by first | (with_reducible assumption) | assumption)
                    have q5 : x5_1 < (a0.size : Int) := of_decide_eq_true (by first | (with_reducible assumption) | assumption)
                    have hx5 := bt_at a0 x5_1
                    replace p5 := eq_true p5
                    replace q5 := eq_true q5
                    go_wp2_with (first | (go_at_call 39; (with_reducible refine (incipitref21_small.calls (bt a0 x5_1) false _ A6.out).mono ?_); rintro e w' ⟨rfl, ⟨nd, rfl⟩⟩; have p9 : 0 ≤ (x5_1 : Int) := of_decide_eq_true (by first | (with_reducible assumption) | assumption); have q9 : x5_1 < (a0.size : Int) := of_decide_eq_true (by first | (with_reducible assumption) | assumption); have hx9 := bt_at a0 x5_1; replace p9 := eq_true p9; replace q9 := eq_true q9; have p17 : 0 ≤ (x5_1 : Int) := of_decide_eq_true (by first | (with_reducible assumption) | assumption); have q17 : x5_1 < (a0.size : Int) := of_decide_eq_true (by first | (with_reducible assumption) | assumption); have hx17 := bt_at a0 x5_1; replace p17 := eq_true p17; replace q17 := eq_true q17))
                    go_ret
                    exact ⟨by first | rfl | (simp; done) | (simp [*]; done), by repeat (first | exact Drawn0.refl _ | apply Drawn0.step)⟩
                · replace c16 := Bool.eq_false_iff.mpr c16
                  subst c16
                  have H1 : (some x5_1) = some r := by rw [if_neg (show ¬ (false = true) by decide)] at H; exact H
                  clear H
                  have H := H1
                  clear H1
                  obtain rfl := Option.some.inj H
                  have p5 : 0 ≤ (x5_1 : Int) := of_decide_eq_true (by first | (with_reducible assumption) | assumption)
                  have q5 : x5_1 < (a0.size : Int) := of_decide_eq_true (by first | (with_reducible assumption) | assumption)
                  have hx5 := bt_at a0 x5_1
                  replace p5 := eq_true p5
                  replace q5 := eq_true q5
                  go_wp2_with (first | (go_at_call 39; (with_reducible refine (incipitref21_small.calls (bt a0 x5_1) false _ A6.out).mono ?_); rintro e w' ⟨rfl, ⟨nd, rfl⟩⟩; have p9 : 0 ≤ (x5_1 : Int) := of_decide_eq_true (by first | (with_reducible assumption) | assumption); have q9 : x5_1 < (a0.size : Int) := of_decide_eq_true (by first | (with_reducible assumption) | assumption); have hx9 := bt_at a0 x5_1; replace p9 := eq_true p9; replace q9 := eq_true q9))
                  go_ret
                  exact ⟨by first | rfl | (simp; done) | (simp [*]; done), by repeat (first | exact Drawn0.refl _ | apply Drawn0.step)⟩
            · rw [if_neg c8] at H
              have c8b0 : decide (0 < x5_1) = false := decide_eq_false c8
              clear c8
              obtain rfl := Option.some.inj H
              have p5 : 0 ≤ (x5_1 : Int) := of_decide_eq_true (by first | (with_reducible assumption) | assumption)
              have q5 : x5_1 < (a0.size : Int) := of_decide_eq_true (by first | (with_reducible assumption) | assumption)
              have hx5 := bt_at a0 x5_1
              replace p5 := eq_true p5
              replace q5 := eq_true q5
              go_wp2_with (first | (go_at_call 39; (with_reducible refine (incipitref21_small.calls (bt a0 x5_1) false _ A6.out).mono ?_); rintro e w' ⟨rfl, ⟨nd, rfl⟩⟩))
              go_ret
              exact ⟨by first | rfl | (simp; done) | (simp [*]; done), by repeat (first | exact Drawn0.refl _ | apply Drawn0.step)⟩
        · rw [if_neg c4] at H
          exact absurd H (by simp)
      · rw [if_neg c3] at H
        have c3b0 : decide (x5_1 < (a0.size : Int)) = false := decide_eq_false c3
        clear c3
        obtain rfl := Option.some.inj H
        go_wp2
        go_ret
        exact ⟨by first | rfl | (simp; done) | (simp [*]; done), by repeat (first | exact Drawn0.refl _ | apply Drawn0.step)⟩

end Go.Proofs.Ytjcfjgcnkbbgmaa.PA

namespace Go.Proofs.Ytjcfjgcnkbbgmaa.PA
open Go.RowKit Go.Proofs.YtjcfjgcnkbbgmaaW.PrintWords Go.Proofs.YtjcfjgcnkbbgmaaW.PrintLast Go.Proofs.YtjcfjgcnkbbgmaaW.PrintMore
attribute [local go_sem] max2_int min2_int max_two min_two max_three min_three max_four min_four   -- for this text's walks alone
set_option linter.unusedVariables false
set_option linter.unusedSimpArgs false

/-! ### incipitref21_attribute: function 24 -/
mutual
def incipitref21_attribute.j0 : Nat → ByteArray → Bool → Option (ByteArray × ByteArray × Int)
  | 0, _, _ => none
  | k + 1, x0, x12 => if x12 = true then (some ((⟨#[]⟩ : ByteArray), (⟨#[]⟩ : ByteArray), 0)) else (if 1 ≤ (x0.size : Int) then ((incipitref21_name.f k (x0.extract 1 x0.size) true).bind fun t176 => (if t176 = 0 then (incipitref21_attribute.j1 k x0 t176 true) else (if 0 ≤ (wrap64 (1 + t176)) then (if (wrap64 (1 + t176)) ≤ (x0.size : Int) then ((incipitref08_Begins.f (x0.extract ((wrap64 (1 + t176)) : Int).toNat x0.size) (⟨#[61, 34]⟩ : ByteArray)).bind fun t177 => (incipitref21_attribute.j1 k x0 t176 (!t177))) else (none)) else (none)))) else (none))
def incipitref21_attribute.j1 : Nat → ByteArray → Int → Bool → Option (ByteArray × ByteArray × Int)
  | 0, _, _, _ => none
  | k + 1, x0, x4, x26 => if x26 = true then (some ((⟨#[]⟩ : ByteArray), (⟨#[]⟩ : ByteArray), 0)) else (incipitref21_attribute.l0 k x0 x4 (wrap64 (x4 + 3)))
def incipitref21_attribute.l0 : Nat → ByteArray → Int → Int → Option (ByteArray × ByteArray × Int)
  | 0, _, _, _ => none
  | k + 1, x0, x4, x5 => if x5 < (x0.size : Int) then (if 0 ≤ x5 then (if (bt x0 x5) = 60 then (incipitref21_attribute.j3 k x0 x4 x5 true) else (incipitref21_attribute.j3 k x0 x4 x5 ((bt x0 x5) == 62))) else (none)) else (some ((⟨#[]⟩ : ByteArray), (⟨#[]⟩ : ByteArray), 0))
def incipitref21_attribute.j3 : Nat → ByteArray → Int → Int → Bool → Option (ByteArray × ByteArray × Int)
  | 0, _, _, _, _ => none
  | k + 1, x0, x4, x5, x45 => if x45 = true then (some ((⟨#[]⟩ : ByteArray), (⟨#[]⟩ : ByteArray), 0)) else (if 0 ≤ x5 then (if x5 < (x0.size : Int) then (if (bt x0 x5) = 34 then (if 1 ≤ (wrap64 (1 + x4)) then (if (wrap64 (1 + x4)) ≤ (x0.size : Int) then (if 0 ≤ (wrap64 (x4 + 3)) then (if (wrap64 (x4 + 3)) ≤ x5 then (if x5 ≤ (x0.size : Int) then (some (x0.extract 1 ((wrap64 (1 + x4)) : Int).toNat, x0.extract ((wrap64 (x4 + 3)) : Int).toNat (x5 : Int).toNat, wrap64 (x5 + 1))) else (none)) else (none)) else (none)) else (none)) else (none)) else (incipitref21_attribute.l0 k x0 x4 (wrap64 (x5 + 1)))) else (none)) else (none))
end
def incipitref21_attribute.f (k : Nat) (a0 : ByteArray) : Option (ByteArray × ByteArray × Int) := if a0.toList = ([] : List UInt8) then (incipitref21_attribute.j0 k a0 true) else (if 0 < (a0.size : Int) then (incipitref21_attribute.j0 k a0 ((bt a0 0) != 32)) else (none))
def incipitref21_attribute.T12 : Bool × List (List Nat × List Nat) := (true, [([], []), ([], []), ([1], [1]), ([0, 2], [0, 2]), ([], []), ([], []), ([5], [5]), ([], []), ([4, 6, 7], [4, 6, 7]), ([3, 8], [3, 8]), ([], []), ([10], [10]), ([9, 0, 1, 2, 3, 4, 5, 6, 7, 8, 9], [9]), ([11, 12, 0, 1, 2, 3, 4, 5, 6, 7, 8, 9, 10, 11, 12], [11])])
def incipitref21_attribute.B12 : List Nat := [0, 0, 2, 7, 0, 0, 32, 0, 240, 511, 0, 1024, 1023, 8191]
theorem incipitref21_attribute.tab12 : rtab .any (opsOf Try.f24 12) = incipitref21_attribute.T12 := by kernel_rfl
theorem incipitref21_attribute.bits12 : waitsOk incipitref21_attribute.T12.2 incipitref21_attribute.B12 = true := by kernel_rfl
set_option maxHeartbeats 8000000 in
set_option maxRecDepth 100000 in
theorem incipitref21_attribute.calls (k : Nat) (a0 : ByteArray) (r1 : ByteArray) (r2 : ByteArray) (r3 : Int) (w : World) (h : incipitref21_attribute.f k a0 = some (r1, r2, r3)) :
    Calls Try.prog 24 #[.string a0] w fun e w' => e = .returned (.tuple #[.agg #[.string r1, .string r2], .int .i64 r3]) ∧ Below w.heap.size w w' := by
  have hu45 := Try.underlying45
  have HB := Aside0.mk (Below.refl w.heap.size w)
  have H : (if a0.toList = ([] : List UInt8) then (incipitref21_attribute.j0 k a0 true) else (if 0 < (a0.size : Int) then (incipitref21_attribute.j0 k a0 ((bt a0 0) != 32)) else (none))) = some (r1, r2, r3) := h
  clear h
  have HC2 := Aside0.mk H
  clear H
  go_enter Try.func24, Try.ntmps24
  go_upto_region 1 with (first | ((with_reducible refine gate_dst (N := 2) rfl ?_); refine box_event ?hg (N := 2) ?hd (cs := #[.string (⟨#[]⟩ : ByteArray), .string (⟨#[]⟩ : ByteArray)]) (t := 45) ?hr ?_; (case hd => rfl); (case hg => rfl); (case hr => first | (go_simp; done) | (go_simp; rfl)); intro gb175 hg w3 hbox hb; have n0_ := Aside0.mk (below_step (by repeat (first | (with_reducible first | exact HB.out | apply below_alloc | apply pw_below_drewN | apply below_drew1) | exact HB.out)) hb); have n1_ := Aside0.mk (hbox); have n2_ := Aside0.mk ((by rw [hg]; exact (below_size (by repeat (first | (with_reducible first | exact HB.out | apply below_alloc | apply pw_below_drewN | apply below_drew1) | exact HB.out))) : w.heap.size ≤ gb175)); have n3_ := Aside0.mk ((by rw [hg]; exact (below_size (by repeat (first | (with_reducible first | exact HB.out | apply below_alloc | apply pw_below_drewN | apply below_drew1) | exact HB.out))) : w.heap.size ≤ gb175)); clear HB; have HB := n0_; have BK175 := n1_; have GW175 := n2_; have GE175 := n3_; clear n0_ n1_ n2_ n3_; clear hb hbox hg))
  (try simp only [Act.put, List.setIfInBounds_toArray, List.set_cons_zero, List.set_cons_succ])
  go_cut [12] (fun v12 wc => ∃ (kq : Nat) (x12_1 : Bool), v12 = .bool x12_1 ∧ Aside0 (incipitref21_attribute.j0 kq a0 x12_1 = some (r1, r2, r3)) ∧ Aside0 (kq ≤ k) ∧ Aside0 (wc.heap[gb175]? = some (.cells #[.string (⟨#[]⟩ : ByteArray), .string (⟨#[]⟩ : ByteArray)] 45 (0, 0))) ∧ Aside0 (Below w.heap.size w wc))
  case first =>
    have H := HC2.out
    clear HC2
    by_cases c4 : a0.toList = ([] : List UInt8)
    · rw [if_pos c4] at H
      have c4b0 : (a0.toList == ([] : List UInt8)) = true := beq_iff_eq.mpr c4
      have c4b1 : (a0.toList != ([] : List UInt8)) = false := bne_eq_false_iff_eq.mpr c4
      clear c4
      (first | rw [c4b0] | (simp only [i64_w, i32_w]; rw [c4b0]) | skip)
      have H' := Aside0.mk H
      clear H
      go_wp2
      go_meet
      case rel => exact ⟨_, (true), (by first | rfl | (simp; done) | (simp [*]; done)), H', ⟨by first | omega | exact Nat.le_refl _⟩, ⟨by (with_reducible repeat (first | refine blk_drewN ?_ _ | refine blk_drew ?_ | refine blk_alloc ?_ _)); exact BK175.out⟩, ⟨by repeat (first | (with_reducible first | exact HB.out | apply below_alloc | apply pw_below_drewN | apply below_drew1 | refine below_set ?_ GE175.out) | exact HB.out)⟩⟩
    · rw [if_neg c4] at H
      have c4b0 : (a0.toList == ([] : List UInt8)) = false := beq_eq_false_iff_ne.mpr c4
      have c4b1 : (a0.toList != ([] : List UInt8)) = true := bne_iff_ne.mpr c4
      (first | rw [c4b0] | (simp only [i64_w, i32_w]; rw [c4b0]) | skip)
      by_cases c5 : 0 < (a0.size : Int)
      · rw [if_pos c5] at H
        have c5b0 : decide (0 < (a0.size : Int)) = true := decide_eq_true c5
        have c5b1 : decide (0 < a0.size) = true := decide_eq_true (by omega)
        clear c5
        have H' := Aside0.mk H
        clear H
        have p6 : 0 ≤ (0 : Int) := (by omega)
        have q6 : 0 < a0.size := (by have : (0 : Int) < (a0.size : Int) := of_decide_eq_true (by first | (with_reducible assumption) | assumption); omega)
        have hx6 : ∀ h : 0 < a0.size, ((a0[0]'h).toNat : Int) = bt a0 0 := bt_at a0 0
        clear p6
        have qi6 : (0 < (a0.size : Int)) = True := eq_true (of_decide_eq_true (by first | (with_reducible assumption) | assumption))
        replace q6 := eq_true q6
        go_wp2
        go_meet
        case rel => exact ⟨_, (((bt a0 0) != 32)), (by first | rfl | (simp; done) | (simp [*]; done)), H', ⟨by first | omega | exact Nat.le_refl _⟩, ⟨by (with_reducible repeat (first | refine blk_drewN ?_ _ | refine blk_drew ?_ | refine blk_alloc ?_ _)); exact BK175.out⟩, ⟨by repeat (first | (with_reducible first | exact HB.out | apply below_alloc | apply pw_below_drewN | apply below_drew1 | refine below_set ?_ GE175.out) | exact HB.out)⟩⟩
      · rw [if_neg c5] at H
        exact absurd H (by simp)
  case rest =>
    clear HC2
    try clear c2
    try clear p2
    try clear c4
    try clear c4b0
    try clear c4b1
    try clear c5
    try clear c5b0
    try clear c5b1
    try clear p6
    try clear q6
    try clear hx6
    try clear qi6
    try clear p6
    try clear q6
    obtain ⟨kq, x12_1, rfl, HA, HJ1, BK175, HB⟩ := hcut
    cases kq with
    | zero => exact absurd HA.out (by simp [incipitref21_attribute.j0])
    | succ kj1 =>
      have H := HA.out
      clear HA
      simp only [incipitref21_attribute.j0] at H
      by_cases c7 : x12_1 = true
      · subst c7
        have H1 : (some ((⟨#[]⟩ : ByteArray), (⟨#[]⟩ : ByteArray), 0)) = some (r1, r2, r3) := by rw [if_pos rfl] at H; exact H
        clear H
        have H := H1
        clear H1
        simp only [Option.some.injEq, Prod.mk.injEq] at H
        obtain ⟨rfl, rfl, rfl⟩ := H
        have hcz8_0 : wc.cell? ⟨gb175, 0, none⟩ = some (.string (⟨#[]⟩ : ByteArray)) := (blk_cell BK175.out 0).trans rfl
        have hcz8_1 : wc.cell? ⟨gb175, 1, none⟩ = some (.string (⟨#[]⟩ : ByteArray)) := (blk_cell BK175.out 1).trans rfl
        have hfz8_0 := blk_frozen BK175.out 0
        have hfz8_1 := blk_frozen BK175.out 1
        go_wp2
        refine bodyPost_ret (results_ct rfl _ _ gb175 45 #[.string (⟨#[]⟩ : ByteArray), .string (⟨#[]⟩ : ByteArray)] (0, 0) _ rfl (by (with_reducible repeat (first | refine blk_drewN ?_ _ | refine blk_drew ?_ | refine blk_alloc ?_ _)); refine blk_put (cs := #[.string (⟨#[]⟩ : ByteArray), .string (⟨#[]⟩ : ByteArray)]) ?_ 1 _ rfl; (with_reducible repeat (first | refine blk_drewN ?_ _ | refine blk_drew ?_ | refine blk_alloc ?_ _)); refine blk_put (cs := #[.string (⟨#[]⟩ : ByteArray), .string (⟨#[]⟩ : ByteArray)]) ?_ 0 _ rfl; (with_reducible repeat (first | refine blk_drewN ?_ _ | refine blk_drew ?_ | refine blk_alloc ?_ _)); exact BK175.out) Try.underlying45 rfl (by kernel_rfl)) rfl ?_
        exact ⟨by first | rfl | exact retNe _ | (simp [errW_none, errW_some] <;> rfl) | (simp [*, errW_none, errW_some] <;> rfl), by repeat (first | (with_reducible first | exact HB.out | apply below_alloc | apply pw_below_drewN | apply below_drew1 | refine below_set ?_ GE175.out) | exact HB.out)⟩
      · replace c7 := Bool.eq_false_iff.mpr c7
        subst c7
        have H1 : (if 1 ≤ (a0.size : Int) then ((incipitref21_name.f kj1 (a0.extract 1 a0.size) true).bind fun t176 => (if t176 = 0 then (incipitref21_attribute.j1 kj1 a0 t176 true) else (if 0 ≤ (wrap64 (1 + t176)) then (if (wrap64 (1 + t176)) ≤ (a0.size : Int) then ((incipitref08_Begins.f (a0.extract ((wrap64 (1 + t176)) : Int).toNat a0.size) (⟨#[61, 34]⟩ : ByteArray)).bind fun t177 => (incipitref21_attribute.j1 kj1 a0 t176 (!t177))) else (none)) else (none)))) else (none)) = some (r1, r2, r3) := by rw [if_neg (show ¬ (false = true) by decide)] at H; exact H
        clear H
        have H := H1
        clear H1
        by_cases c9 : 1 ≤ (a0.size : Int)
        · rw [if_pos c9] at H
          have c9b0 := eq_true c9
          have c9b1 : decide (1 ≤ (a0.size : Int)) = true := decide_eq_true c9
          clear c9
          replace H := Option.bind_eq_some_iff.mp H
          obtain ⟨t176, A100, H⟩ := H
          replace H : (if t176 = 0 then (incipitref21_attribute.j1 kj1 a0 t176 true) else (if 0 ≤ (wrap64 (1 + t176)) then (if (wrap64 (1 + t176)) ≤ (a0.size : Int) then ((incipitref08_Begins.f (a0.extract ((wrap64 (1 + t176)) : Int).toNat a0.size) (⟨#[61, 34]⟩ : ByteArray)).bind fun t177 => (incipitref21_attribute.j1 kj1 a0 t176 (!t177))) else (none)) else (none))) = some (r1, r2, r3) := H
          have A10 := Aside0.mk A100
          clear A100
          have HC11 := Aside0.mk H
          clear H
          go_upto_region 4 with (first | ((with_reducible refine gate_callee (f := 23) rfl ?_); refine goesL_ (some 16) rfl rfl Try.func23 (by kernel_rfl) rfl #[.string (a0.extract 1 a0.size), .bool true] rfl (by (try simp only [List.map_toArray, List.map_cons, List.map_nil]); first | done | rfl | (simp only [List.length_drop, List.length_take]; rfl)) ?_; (with_reducible refine (incipitref21_name.calls kj1 (a0.extract 1 a0.size) true t176 _ A10.out).mono ?_); rintro e w' ⟨rfl, ⟨nd, rfl⟩⟩; refine ⟨_, rfl, ?_⟩))
          (try simp only [Act.put, List.setIfInBounds_toArray, List.set_cons_zero, List.set_cons_succ])
          go_cut [26] (fun v26 wc => ∃ (kq : Nat) (x26_10 : Bool), v26 = .bool x26_10 ∧ Aside0 (incipitref21_attribute.j1 kq a0 t176 x26_10 = some (r1, r2, r3)) ∧ Aside0 (kq ≤ kj1) ∧ Aside0 (wc.heap[gb175]? = some (.cells #[.string (⟨#[]⟩ : ByteArray), .string (⟨#[]⟩ : ByteArray)] 45 (0, 0))) ∧ Aside0 (Below w.heap.size w wc))
          case first =>
            have H := HC11.out
            clear HC11
            by_cases c12 : t176 = 0
            · rw [if_pos c12] at H
              have c12b0 : (t176 == 0) = true := beq_iff_eq.mpr c12
              have c12b1 : (t176 != 0) = false := bne_eq_false_iff_eq.mpr c12
              clear c12
              (first | rw [c12b0] | (simp only [i64_w, i32_w]; rw [c12b0]) | skip)
              have H' := Aside0.mk H
              clear H
              go_wp2
              go_meet
              case rel => exact ⟨_, (true), (by first | rfl | (simp; done) | (simp [*]; done)), H', ⟨by have := HJ1.out; first | omega | exact Nat.le_refl _⟩, ⟨by (with_reducible repeat (first | refine blk_drewN ?_ _ | refine blk_drew ?_ | refine blk_alloc ?_ _)); exact BK175.out⟩, ⟨by repeat (first | (with_reducible first | exact HB.out | apply below_alloc | apply pw_below_drewN | apply below_drew1 | refine below_set ?_ GE175.out) | exact HB.out)⟩⟩
            · rw [if_neg c12] at H
              have c12b0 : (t176 == 0) = false := beq_eq_false_iff_ne.mpr c12
              have c12b1 : (t176 != 0) = true := bne_iff_ne.mpr c12
              (first | rw [c12b0] | (simp only [i64_w, i32_w]; rw [c12b0]) | skip)
              obtain ⟨ji13, hji13⟩ : ∃ j_ : Int, (wrap64 (1 + t176)) = j_ := ⟨_, rfl⟩
              replace H : (if 0 ≤ (ji13) then (if (ji13) ≤ (a0.size : Int) then ((incipitref08_Begins.f (a0.extract ((ji13) : Int).toNat a0.size) (⟨#[61, 34]⟩ : ByteArray)).bind fun t177 => (incipitref21_attribute.j1 kj1 a0 t176 (!t177))) else (none)) else (none)) = some (r1, r2, r3) := by first | (rw [hji13] at H; exact H) | (simp only [hji13] at H ⊢; exact H)
              have hji13w : (IntKind.i64.wrap (1 + t176)) = ji13 := (i64_w _).trans hji13
              by_cases c14 : 0 ≤ (ji13)
              · rw [if_pos c14] at H
                have c14b0 := eq_true c14
                have c14b1 : decide (0 ≤ (ji13)) = true := decide_eq_true c14
                clear c14
                by_cases c15 : (ji13) ≤ (a0.size : Int)
                · rw [if_pos c15] at H
                  have c15b0 := eq_true c15
                  have c15b1 : decide ((ji13) ≤ (a0.size : Int)) = true := decide_eq_true c15
                  clear c15
                  replace H := Option.bind_eq_some_iff.mp H
                  obtain ⟨t177, A160, H⟩ := H
                  replace H : (incipitref21_attribute.j1 kj1 a0 t176 (!t177)) = some (r1, r2, r3) := H
                  have A16 := Aside0.mk A160
                  clear A160
                  have H' := Aside0.mk H
                  clear H
                  go_wp2_with (first | (go_at_call 22; (with_reducible refine (incipitref08_Begins.calls (a0.extract ((ji13) : Int).toNat a0.size) (⟨#[61, 34]⟩ : ByteArray) t177 _ A16.out).mono ?_); rintro e w' ⟨rfl, ⟨nd, rfl⟩⟩))
                  go_meet
                  case rel => exact ⟨_, (!t177), (by first | rfl | (simp; done) | (simp [*]; done)), H', ⟨by have := HJ1.out; first | omega | exact Nat.le_refl _⟩, ⟨by (with_reducible repeat (first | refine blk_drewN ?_ _ | refine blk_drew ?_ | refine blk_alloc ?_ _)); exact BK175.out⟩, ⟨by repeat (first | (with_reducible first | exact HB.out | apply below_alloc | apply pw_below_drewN | apply below_drew1 | refine below_set ?_ GE175.out) | exact HB.out)⟩⟩
                · rw [if_neg c15] at H
                  exact absurd H (by simp)
              · rw [if_neg c14] at H
                exact absurd H (by simp)
          case rest =>
            clear HC11
            try clear c1
            try clear c2
            try clear p2
            try clear c4
            try clear c4b0
            try clear c4b1
            try clear c5
            try clear c5b0
            try clear c5b1
            try clear p6
            try clear q6
            try clear hx6
            try clear qi6
            try clear c7
            try clear c9
            try clear c9b0
            try clear c9b1
            try clear c12
            try clear c12b0
            try clear c12b1
            try clear c14
            try clear c14b0
            try clear c14b1
            try clear c15
            try clear c15b0
            try clear c15b1
            try clear hcz8_0
            try clear hcz8_1
            try clear hfz8_0
            try clear hfz8_1
            try clear p2
            try clear p6
            try clear q6
            obtain ⟨kq, x26_10, rfl, HA, HJ10, BK175, HB⟩ := hcut
            cases kq with
            | zero => exact absurd HA.out (by simp [incipitref21_attribute.j1])
            | succ kj10 =>
              have H := HA.out
              clear HA
              simp only [incipitref21_attribute.j1] at H
              by_cases c17 : x26_10 = true
              · subst c17
                have H1 : (some ((⟨#[]⟩ : ByteArray), (⟨#[]⟩ : ByteArray), 0)) = some (r1, r2, r3) := by rw [if_pos rfl] at H; exact H
                clear H
                have H := H1
                clear H1
                simp only [Option.some.injEq, Prod.mk.injEq] at H
                obtain ⟨rfl, rfl, rfl⟩ := H
                have hcz18_0 : wc.cell? ⟨gb175, 0, none⟩ = some (.string (⟨#[]⟩ : ByteArray)) := (blk_cell BK175.out 0).trans rfl
                have hcz18_1 : wc.cell? ⟨gb175, 1, none⟩ = some (.string (⟨#[]⟩ : ByteArray)) := (blk_cell BK175.out 1).trans rfl
                have hfz18_0 := blk_frozen BK175.out 0
                have hfz18_1 := blk_frozen BK175.out 1
                go_wp2
                refine bodyPost_ret (results_ct rfl _ _ gb175 45 #[.string (⟨#[]⟩ : ByteArray), .string (⟨#[]⟩ : ByteArray)] (0, 0) _ rfl (by (with_reducible repeat (first | refine blk_drewN ?_ _ | refine blk_drew ?_ | refine blk_alloc ?_ _)); refine blk_put (cs := #[.string (⟨#[]⟩ : ByteArray), .string (⟨#[]⟩ : ByteArray)]) ?_ 1 _ rfl; (with_reducible repeat (first | refine blk_drewN ?_ _ | refine blk_drew ?_ | refine blk_alloc ?_ _)); refine blk_put (cs := #[.string (⟨#[]⟩ : ByteArray), .string (⟨#[]⟩ : ByteArray)]) ?_ 0 _ rfl; (with_reducible repeat (first | refine blk_drewN ?_ _ | refine blk_drew ?_ | refine blk_alloc ?_ _)); exact BK175.out) Try.underlying45 rfl (by kernel_rfl)) rfl ?_
                exact ⟨by first | rfl | exact retNe _ | (simp [errW_none, errW_some] <;> rfl) | (simp [*, errW_none, errW_some] <;> rfl), by repeat (first | (with_reducible first | exact HB.out | apply below_alloc | apply pw_below_drewN | apply below_drew1 | refine below_set ?_ GE175.out) | exact HB.out)⟩
              · replace c17 := Bool.eq_false_iff.mpr c17
                subst c17
                have H1 : (incipitref21_attribute.l0 kj10 a0 t176 (wrap64 (t176 + 3))) = some (r1, r2, r3) := by rw [if_neg (show ¬ (false = true) by decide)] at H; exact H
                clear H
                have H := H1
                clear H1
                have H' := Aside0.mk H
                clear H
                go_wp2
                go_loopg [5] kj10 (fun kq v5 w' => ∃ (x5_3 : Int) (x176000_3 : ByteArray) (x176001_3 : ByteArray), v5 = .int .i64 x5_3 ∧ Aside0 (incipitref21_attribute.l0 kq a0 t176 x5_3 = some (r1, r2, r3)) ∧ Aside0 (kq ≤ kj10) ∧ Aside0 (w'.heap[gb175]? = some (.cells #[.string x176000_3, .string x176001_3] 45 (0, 0))) ∧ Aside0 (Below w.heap.size w w'))
                case atStart => exact ⟨(wrap64 (t176 + 3)), ((⟨#[]⟩ : ByteArray)), ((⟨#[]⟩ : ByteArray)), (by first | rfl | (simp; done) | (simp [*]; done)), H', ⟨Nat.le_refl _⟩, ⟨by (with_reducible repeat (first | refine blk_drewN ?_ _ | refine blk_drew ?_ | refine blk_alloc ?_ _)); exact BK175.out⟩, ⟨by repeat (first | (with_reducible first | exact HB.out | apply below_alloc | apply pw_below_drewN | apply below_drew1 | refine below_set ?_ GE175.out) | exact HB.out)⟩⟩
                case round =>
                  clear H'
                  try clear c1
                  try clear c2
                  try clear p2
                  try clear c4
                  try clear c4b0
                  try clear c4b1
                  try clear c5
                  try clear c5b0
                  try clear c5b1
                  try clear p6
                  try clear q6
                  try clear hx6
                  try clear qi6
                  try clear c7
                  try clear c9
                  try clear c9b0
                  try clear c9b1
                  try clear c12
                  try clear c12b0
                  try clear c12b1
                  try clear c14
                  try clear c14b0
                  try clear c14b1
                  try clear c15
                  try clear c15b0
                  try clear c15b1
                  try clear c17
                  try clear hcz18_0
                  try clear hcz18_1
                  try clear hcz8_0
                  try clear hcz8_1
                  try clear hfz18_0
                  try clear hfz18_1
                  try clear hfz8_0
                  try clear hfz8_1
                  try clear p2
                  try clear p6
                  try clear q6
                  obtain ⟨x5_3, x176000_3, x176001_3, rfl, HA, HK3, BK175, HB⟩ := hrel
                  cases gk with
                  | zero => exact absurd HA.out (by simp [incipitref21_attribute.l0])
                  | succ k3 =>
                    have H := HA.out
                    clear HA
                    simp only [incipitref21_attribute.l0] at H
                    by_cases c19 : x5_3 < (a0.size : Int)
                    · rw [if_pos c19] at H
                      have c19b0 : decide (x5_3 < (a0.size : Int)) = true := decide_eq_true c19
                      clear c19
                      have HC20 := Aside0.mk H
                      clear H
                      go_upto_region 9 with (fail)
                      go_cut [45] (fun v45 wc => ∃ (kq : Nat) (x45_19 : Bool), v45 = .bool x45_19 ∧ Aside0 (incipitref21_attribute.j3 kq a0 t176 x5_3 x45_19 = some (r1, r2, r3)) ∧ Aside0 (kq ≤ k3) ∧ Aside0 (wc.heap[gb175]? = some (.cells #[.string x176000_3, .string x176001_3] 45 (0, 0))) ∧ Aside0 (Below w.heap.size w wc))
                      case first =>
                        have H := HC20.out
                        clear HC20
                        by_cases c21 : 0 ≤ x5_3
                        · rw [if_pos c21] at H
                          have c21b0 : decide (0 ≤ x5_3) = true := decide_eq_true c21
                          clear c21
                          (first | rw [c21b0] | (simp only [i64_w, i32_w]; rw [c21b0]) | skip)
                          by_cases c23 : (bt a0 x5_3) = 60
                          · rw [if_pos c23] at H
                            have c23b0 : ((bt a0 x5_3) == 60) = true := beq_iff_eq.mpr c23
                            have c23b1 : ((bt a0 x5_3) != 60) = false := bne_eq_false_iff_eq.mpr c23
                            clear c23
                            have H' := Aside0.mk H
                            clear H
                            have p22 : 0 ≤ (x5_3 : Int) := of_decide_eq_true (by first | (with_reducible assumption) | assumption)
                            have q22 : x5_3 < (a0.size : Int) := of_decide_eq_true (by first | (with_reducible assumption) | assumption)
                            have hx22 := bt_at a0 x5_3
                            replace p22 := eq_true p22
                            replace q22 := eq_true q22
                            go_wp2
                            go_meet
                            case rel => exact ⟨_, (true), (by first | rfl | (simp; done) | (simp [*]; done)), H', ⟨by have := HJ1.out; have := HJ10.out; have := HK3.out; first | omega | exact Nat.le_refl _⟩, ⟨by (with_reducible repeat (first | refine blk_drewN ?_ _ | refine blk_drew ?_ | refine blk_alloc ?_ _)); exact BK175.out⟩, ⟨by repeat (first | (with_reducible first | exact HB.out | apply below_alloc | apply pw_below_drewN | apply below_drew1 | refine below_set ?_ GE175.out) | exact HB.out)⟩⟩
                          · rw [if_neg c23] at H
                            have c23b0 : ((bt a0 x5_3) == 60) = false := beq_eq_false_iff_ne.mpr c23
                            have c23b1 : ((bt a0 x5_3) != 60) = true := bne_iff_ne.mpr c23
                            have H' := Aside0.mk H
                            clear H
                            have p22 : 0 ≤ (x5_3 : Int) := of_decide_eq_true (by first | (with_reducible assumption) | assumption)
                            have q22 : x5_3 < (a0.size : Int) := of_decide_eq_true (by first | (with_reducible assumption) | assumption)
                            have hx22 := bt_at a0 x5_3
                            replace p22 := eq_true p22
                            replace q22 := eq_true q22
                            have p24 : 0 ≤ (x5_3 : Int) := of_decide_eq_true (by first | (with_reducible assumption) | assumption)
                            have q24 : x5_3 < (a0.size : Int) := of_decide_eq_true (by first | (with_reducible assumption) | assumption)
                            have hx24 := bt_at a0 x5_3
                            replace p24 := eq_true p24
                            replace q24 := eq_true q24
                            go_wp2
                            go_meet
                            case rel => exact ⟨_, (((bt a0 x5_3) == 62)), (by first | rfl | (simp; done) | (simp [*]; done)), H', ⟨by have := HJ1.out; have := HJ10.out; have := HK3.out; first | omega | exact Nat.le_refl _⟩, ⟨by (with_reducible repeat (first | refine blk_drewN ?_ _ | refine blk_drew ?_ | refine blk_alloc ?_ _)); exact BK175.out⟩, ⟨by repeat (first | (with_reducible first | exact HB.out | apply below_alloc | apply pw_below_drewN | apply below_drew1 | refine below_set ?_ GE175.out) | exact HB.out)⟩⟩
                        · rw [if_neg c21] at H
                          exact absurd H (by simp)
                      case rest =>
                        clear HC20
                        try clear c1
                        try clear c2
                        try clear p2
                        try clear q2
                        try clear hx2
                        try clear c4
                        try clear c4b0
                        try clear c4b1
                        try clear c5
                        try clear c5b0
                        try clear c5b1
                        try clear p6
                        try clear q6
                        try clear hx6
                        try clear qi6
                        try clear c7
                        try clear c9
                        try clear c9b0
                        try clear c9b1
                        try clear c12
                        try clear c12b0
                        try clear c12b1
                        try clear c14
                        try clear c14b0
                        try clear c14b1
                        try clear c15
                        try clear c15b0
                        try clear c15b1
                        try clear c17
                        try clear c19
                        try clear c19b0
                        try clear c21
                        try clear c21b0
                        try clear p22
                        try clear q22
                        try clear hx22
                        try clear c23
                        try clear c23b0
                        try clear c23b1
                        try clear c24
                        try clear p24
                        try clear q24
                        try clear hx24
                        try clear hcz18_0
                        try clear hcz18_1
                        try clear hcz8_0
                        try clear hcz8_1
                        try clear hfz18_0
                        try clear hfz18_1
                        try clear hfz8_0
                        try clear hfz8_1
                        try clear p2
                        try clear p22
                        try clear p24
                        try clear p6
                        try clear q22
                        try clear q24
                        try clear q6
                        obtain ⟨kq, x45_19, rfl, HA, HJ19, BK175, HB⟩ := hcut
                        cases kq with
                        | zero => exact absurd HA.out (by simp [incipitref21_attribute.j3])
                        | succ kj19 =>
                          have H := HA.out
                          clear HA
                          simp only [incipitref21_attribute.j3] at H
                          by_cases c25 : x45_19 = true
                          · subst c25
                            have H1 : (some ((⟨#[]⟩ : ByteArray), (⟨#[]⟩ : ByteArray), 0)) = some (r1, r2, r3) := by rw [if_pos rfl] at H; exact H
                            clear H
                            have H := H1
                            clear H1
                            simp only [Option.some.injEq, Prod.mk.injEq] at H
                            obtain ⟨rfl, rfl, rfl⟩ := H
                            have hcz26_0 : wc.cell? ⟨gb175, 0, none⟩ = some (.string x176000_3) := (blk_cell BK175.out 0).trans rfl
                            have hcz26_1 : wc.cell? ⟨gb175, 1, none⟩ = some (.string x176001_3) := (blk_cell BK175.out 1).trans rfl
                            have hfz26_0 := blk_frozen BK175.out 0
                            have hfz26_1 := blk_frozen BK175.out 1
                            go_wp2
                            refine bodyPost_ret (results_ct rfl _ _ gb175 45 #[.string (⟨#[]⟩ : ByteArray), .string (⟨#[]⟩ : ByteArray)] (0, 0) _ rfl (by (with_reducible repeat (first | refine blk_drewN ?_ _ | refine blk_drew ?_ | refine blk_alloc ?_ _)); refine blk_put (cs := #[.string (⟨#[]⟩ : ByteArray), .string x176001_3]) ?_ 1 _ rfl; (with_reducible repeat (first | refine blk_drewN ?_ _ | refine blk_drew ?_ | refine blk_alloc ?_ _)); refine blk_put (cs := #[.string x176000_3, .string x176001_3]) ?_ 0 _ rfl; (with_reducible repeat (first | refine blk_drewN ?_ _ | refine blk_drew ?_ | refine blk_alloc ?_ _)); exact BK175.out) Try.underlying45 rfl (by kernel_rfl)) rfl ?_
                            exact ⟨by first | rfl | exact retNe _ | (simp [errW_none, errW_some] <;> rfl) | (simp [*, errW_none, errW_some] <;> rfl), by repeat (first | (with_reducible first | exact HB.out | apply below_alloc | apply pw_below_drewN | apply below_drew1 | refine below_set ?_ GE175.out) | exact HB.out)⟩
                          · replace c25 := Bool.eq_false_iff.mpr c25
                            subst c25
                            have H1 : (if 0 ≤ x5_3 then (if x5_3 < (a0.size : Int) then (if (bt a0 x5_3) = 34 then (if 1 ≤ (wrap64 (1 + t176)) then (if (wrap64 (1 + t176)) ≤ (a0.size : Int) then (if 0 ≤ (wrap64 (t176 + 3)) then (if (wrap64 (t176 + 3)) ≤ x5_3 then (if x5_3 ≤ (a0.size : Int) then (some (a0.extract 1 ((wrap64 (1 + t176)) : Int).toNat, a0.extract ((wrap64 (t176 + 3)) : Int).toNat (x5_3 : Int).toNat, wrap64 (x5_3 + 1))) else (none)) else (none)) else (none)) else (none)) else (none)) else (incipitref21_attribute.l0 kj19 a0 t176 (wrap64 (x5_3 + 1)))) else (none)) else (none)) = some (r1, r2, r3) := by rw [if_neg (show ¬ (false = true) by decide)] at H; exact H
                            clear H
                            have H := H1
                            clear H1
                            by_cases c27 : 0 ≤ x5_3
                            · rw [if_pos c27] at H
                              have c27b0 : decide (0 ≤ x5_3) = true := decide_eq_true c27
                              clear c27
                              by_cases c28 : x5_3 < (a0.size : Int)
                              · rw [if_pos c28] at H
                                have c28b0 : decide (x5_3 < (a0.size : Int)) = true := decide_eq_true c28
                                clear c28
                                by_cases c30 : (bt a0 x5_3) = 34
                                · rw [if_pos c30] at H
                                  have c30b0 : ((bt a0 x5_3) == 34) = true := beq_iff_eq.mpr c30
                                  have c30b1 : ((bt a0 x5_3) != 34) = false := bne_eq_false_iff_eq.mpr c30
                                  clear c30
                                  by_cases c31 : 1 ≤ (wrap64 (1 + t176))
                                  · rw [if_pos c31] at H
                                    have c31b0 := eq_true c31
                                    have c31b1 : decide (1 ≤ (wrap64 (1 + t176))) = true := decide_eq_true c31
                                    by_cases c32 : (wrap64 (1 + t176)) ≤ (a0.size : Int)
                                    · rw [if_pos c32] at H
                                      have c32b0 := eq_true c32
                                      have c32b1 : decide ((wrap64 (1 + t176)) ≤ (a0.size : Int)) = true := decide_eq_true c32
                                      obtain ⟨ji33, hji33⟩ : ∃ j_ : Int, (wrap64 (t176 + 3)) = j_ := ⟨_, rfl⟩
                                      replace H : (if 0 ≤ (ji33) then (if (ji33) ≤ x5_3 then (if x5_3 ≤ (a0.size : Int) then (some (a0.extract 1 ((wrap64 (1 + t176)) : Int).toNat, a0.extract ((ji33) : Int).toNat (x5_3 : Int).toNat, wrap64 (x5_3 + 1))) else (none)) else (none)) else (none)) = some (r1, r2, r3) := by first | (rw [hji33] at H; exact H) | (simp only [hji33] at H ⊢; exact H)
                                      have hji33w : (IntKind.i64.wrap (t176 + 3)) = ji33 := (i64_w _).trans hji33
                                      by_cases c34 : 0 ≤ (ji33)
                                      · rw [if_pos c34] at H
                                        have c34b0 := eq_true c34
                                        have c34b1 : decide (0 ≤ (ji33)) = true := decide_eq_true c34
                                        clear c34
                                        by_cases c35 : (ji33) ≤ x5_3
                                        · rw [if_pos c35] at H
                                          have c35b0 := eq_true c35
                                          have c35b1 : decide ((ji33) ≤ x5_3) = true := decide_eq_true c35
                                          clear c35
                                          by_cases c36 : x5_3 ≤ (a0.size : Int)
                                          · rw [if_pos c36] at H
                                            have c36b0 := eq_true c36
                                            have c36b1 : decide (x5_3 ≤ (a0.size : Int)) = true := decide_eq_true c36
                                            clear c36
                                            simp only [Option.some.injEq, Prod.mk.injEq] at H
                                            obtain ⟨rfl, rfl, rfl⟩ := H
                                            have p29 : 0 ≤ (x5_3 : Int) := of_decide_eq_true (by first | (with_reducible assumption) | assumption)
                                            have q29 : x5_3 < (a0.size : Int) := of_decide_eq_true (by first | (with_reducible assumption) | assumption)
                                            have hx29 := bt_at a0 x5_3
                                            replace p29 := eq_true p29
                                            replace q29 := eq_true q29
                                            try go_wp2
                                            have n0_ := Aside0.mk (blk_drew BK175.out)
                                            have n1_ := Aside0.mk (below_drew1 HB.out)
                                            clear BK175
                                            clear HB
                                            have BK175 := n0_
                                            have HB := n1_
                                            clear n0_ n1_
                                            refine start_ (n := 14) (S := fun w' => True) (ds := []) #[false, false, false, false, false, false, false, false, false, false, false, false, false, false] (by kernel_rfl) rfl rfl trivial (fun hHeld => ?_); refine with_tabW incipitref21_attribute.tab12 incipitref21_attribute.bits12 (fun HT_ HW_ => ?_)
                                            generalize wc.drew = w37 at BK175 HB hHeld ⊢
                                            refine pure_ (i := 0) (N := some 51) (v := ?_) (a' := ?_) #[true, false, false, false, false, false, false, false, false, false, false, false, false, false] rfl rfl (any_of HT_.out (by kernel_rfl)) (fun _ _ _ h => h) (Or.inl ⟨by rfl, ?_⟩) ?_ ?_
                                            rotate_left
                                            · intro w'
                                              go_simp
                                              with_reducible rfl
                                            rotate_left
                                            · simp only [Act.put, List.setIfInBounds_toArray, List.set_cons_zero, List.set_cons_succ, i64_w, i32_w]
                                              rfl
                                            refine pure_ (i := 1) (N := some 52) (v := ?_) (a' := ?_) #[true, true, false, false, false, false, false, false, false, false, false, false, false, false] rfl rfl (any_of HT_.out (by kernel_rfl)) (fun _ _ _ h => h) (Or.inl ⟨by rfl, ?_⟩) ?_ ?_
                                            rotate_left
                                            · intro w'
                                              go_simp
                                              with_reducible rfl
                                            rotate_left
                                            · simp only [Act.put, List.setIfInBounds_toArray, List.set_cons_zero, List.set_cons_succ, i64_w, i32_w]
                                              rfl
                                            refine pure_ (i := 2) (N := some 53) (v := ?_) (a' := ?_) #[true, true, true, false, false, false, false, false, false, false, false, false, false, false] rfl rfl (any_of HT_.out (by kernel_rfl)) (fun _ _ _ h => h) (Or.inl ⟨by rfl, ?_⟩) ?_ ?_
                                            rotate_left
                                            · intro w'
                                              go_simp
                                              with_reducible rfl
                                            rotate_left
                                            · simp only [Act.put, List.setIfInBounds_toArray, List.set_cons_zero, List.set_cons_succ, i64_w, i32_w]
                                              rfl
                                            refine pure_ (i := 3) (N := some 54) (v := ?_) (a' := ?_) #[true, true, true, true, false, false, false, false, false, false, false, false, false, false] rfl rfl (any_of HT_.out (by kernel_rfl)) (fun _ _ _ h => h) (Or.inl ⟨by rfl, ?_⟩) ?_ ?_
                                            rotate_left
                                            · intro w'
                                              go_simp
                                              with_reducible rfl
                                            rotate_left
                                            · simp only [Act.put, List.setIfInBounds_toArray, List.set_cons_zero, List.set_cons_succ, i64_w, i32_w]
                                              rfl
                                            refine pure_ (i := 4) (N := some 55) (v := ?_) (a' := ?_) #[true, true, true, true, true, false, false, false, false, false, false, false, false, false] rfl rfl (any_of HT_.out (by kernel_rfl)) (fun _ _ _ h => h) (Or.inl ⟨by rfl, ?_⟩) ?_ ?_
                                            rotate_left
                                            · intro w'
                                              go_simp
                                              with_reducible rfl
                                            rotate_left
                                            · simp only [Act.put, List.setIfInBounds_toArray, List.set_cons_zero, List.set_cons_succ, i64_w, i32_w]
                                              rfl
                                            refine pure_ (i := 5) (N := some 56) (v := ?_) (a' := ?_) #[true, true, true, true, true, true, false, false, false, false, false, false, false, false] rfl rfl (any_of HT_.out (by kernel_rfl)) (fun _ _ _ h => h) (Or.inl ⟨by rfl, ?_⟩) ?_ ?_
                                            rotate_left
                                            · intro w'
                                              go_simp
                                              with_reducible rfl
                                            rotate_left
                                            · simp only [Act.put, List.setIfInBounds_toArray, List.set_cons_zero, List.set_cons_succ, i64_w, i32_w]
                                              rfl
                                            refine pure_ (i := 6) (N := some 57) (v := ?_) (a' := ?_) #[true, true, true, true, true, true, true, false, false, false, false, false, false, false] rfl rfl (any_of HT_.out (by kernel_rfl)) (fun _ _ _ h => h) (Or.inl ⟨by rfl, ?_⟩) ?_ ?_
                                            rotate_left
                                            · intro w'
                                              go_simp
                                              with_reducible rfl
                                            rotate_left
                                            · simp only [Act.put, List.setIfInBounds_toArray, List.set_cons_zero, List.set_cons_succ, i64_w, i32_w]
                                              rfl
                                            refine pure_ (i := 7) (N := some 58) (v := ?_) (a' := ?_) #[true, true, true, true, true, true, true, true, false, false, false, false, false, false] rfl rfl (any_of HT_.out (by kernel_rfl)) (fun _ _ _ h => h) (Or.inl ⟨by rfl, ?_⟩) ?_ ?_
                                            rotate_left
                                            · intro w'
                                              go_simp
                                              with_reducible rfl
                                            rotate_left
                                            · simp only [Act.put, List.setIfInBounds_toArray, List.set_cons_zero, List.set_cons_succ, i64_w, i32_w]
                                              rfl
                                            refine pure_ (i := 8) (N := some 59) (v := ?_) (a' := ?_) #[true, true, true, true, true, true, true, true, true, false, false, false, false, false] rfl rfl (any_of HT_.out (by kernel_rfl)) (fun _ _ _ h => h) (Or.inl ⟨by rfl, ?_⟩) ?_ ?_
                                            rotate_left
                                            · intro w'
                                              go_simp
                                              with_reducible rfl
                                            rotate_left
                                            · simp only [Act.put, List.setIfInBounds_toArray, List.set_cons_zero, List.set_cons_succ, i64_w, i32_w]
                                              rfl
                                            refine pure_ (i := 9) (N := some 60) (v := ?_) (a' := ?_) #[true, true, true, true, true, true, true, true, true, true, false, false, false, false] rfl rfl (any_of HT_.out (by kernel_rfl)) (fun _ _ _ h => h) (Or.inl ⟨by rfl, ?_⟩) ?_ ?_
                                            rotate_left
                                            · intro w'
                                              go_simp
                                              with_reducible rfl
                                            rotate_left
                                            · simp only [Act.put, List.setIfInBounds_toArray, List.set_cons_zero, List.set_cons_succ, i64_w, i32_w]
                                              rfl
                                            refine pure_ (i := 10) (N := some 61) (v := ?_) (a' := ?_) #[true, true, true, true, true, true, true, true, true, true, true, false, false, false] rfl rfl (any_of HT_.out (by kernel_rfl)) (fun _ _ _ h => h) (Or.inl ⟨by rfl, ?_⟩) ?_ ?_
                                            rotate_left
                                            · intro w'
                                              go_simp
                                              with_reducible rfl
                                            rotate_left
                                            · simp only [Act.put, List.setIfInBounds_toArray, List.set_cons_zero, List.set_cons_succ, i64_w, i32_w]
                                              rfl
                                            refine pure_ (i := 11) (N := some 62) (v := ?_) (a' := ?_) #[true, true, true, true, true, true, true, true, true, true, true, true, false, false] rfl rfl (any_of HT_.out (by kernel_rfl)) (fun _ _ _ h => h) (Or.inl ⟨by rfl, ?_⟩) ?_ ?_
                                            rotate_left
                                            · intro w'
                                              go_simp
                                              with_reducible rfl
                                            rotate_left
                                            · simp only [Act.put, List.setIfInBounds_toArray, List.set_cons_zero, List.set_cons_succ, i64_w, i32_w]
                                              rfl
                                            refine one_ (i := 12) (N := none) #[true, true, true, true, true, true, true, true, true, true, true, true, true, false] rfl rfl (one_of HT_.out (by kernel_rfl)) (by decide) (fun K hK => ?_)
                                            have hs38 : w37.cell? ⟨gb175, 0, none⟩ = some (.string x176000_3) := (blk_cell BK175.out 0).trans rfl
                                            have hfs38 := blk_frozen BK175.out 0
                                            have hs39 : w37.cell? ⟨gb175, 1, none⟩ = some (.string x176001_3) := (blk_cell BK175.out 1).trans rfl
                                            have hfs39 := blk_frozen BK175.out 1
                                            refine skip_ (w1 := ?_) (by rfl) rfl ?_ ?_
                                            rotate_left
                                            · go_simp
                                              rfl
                                            refine hK.out _ _ trivial (fun hHeld => ?_)
                                            clear hK K
                                            refine pure_ (i := 13) (N := some 3) (v := ?_) (a' := ?_) #[true, true, true, true, true, true, true, true, true, true, true, true, true, true] rfl rfl (any_of HT_.out (by kernel_rfl)) (fun _ _ _ h => h) (Or.inl ⟨by rfl, ?_⟩) ?_ ?_
                                            rotate_left
                                            · intro w'
                                              go_simp
                                              with_reducible rfl
                                            rotate_left
                                            · simp only [Act.put, List.setIfInBounds_toArray, List.set_cons_zero, List.set_cons_succ, i64_w, i32_w]
                                              rfl
                                            refine done_ (done_of HT_.out (by kernel_rfl)) ?_
                                            try go_wp2
                                            refine bodyPost_ret (results_ct rfl _ _ gb175 45 #[.string (a0.extract 1 ((wrap64 (1 + t176)) : Int).toNat), .string (a0.extract ((ji33) : Int).toNat (x5_3 : Int).toNat)] (0, 0) _ rfl (by (with_reducible repeat (first | refine blk_drewN ?_ _ | refine blk_drew ?_ | refine blk_alloc ?_ _)); refine blk_put (cs := #[.string (a0.extract 1 ((wrap64 (1 + t176)) : Int).toNat), .string x176001_3]) ?_ 1 _ rfl; (with_reducible repeat (first | refine blk_drewN ?_ _ | refine blk_drew ?_ | refine blk_alloc ?_ _)); refine blk_put (cs := #[.string x176000_3, .string x176001_3]) ?_ 0 _ rfl; (with_reducible repeat (first | refine blk_drewN ?_ _ | refine blk_drew ?_ | refine blk_alloc ?_ _)); exact BK175.out) Try.underlying45 rfl (by kernel_rfl)) rfl ?_
                                            exact ⟨by first | rfl | exact retNe _ | (simp [errW_none, errW_some] <;> rfl) | (simp only [← hji33]; first | rfl | (simp [errW_none, errW_some] <;> rfl)) | (simp [*, errW_none, errW_some] <;> rfl), by repeat (first | (with_reducible first | exact HB.out | apply below_alloc | apply pw_below_drewN | apply below_drew1 | refine below_set ?_ GE175.out) | exact HB.out)⟩
                                          · rw [if_neg c36] at H
                                            exact absurd H (by simp)
                                        · rw [if_neg c35] at H
                                          exact absurd H (by simp)
                                      · rw [if_neg c34] at H
                                        exact absurd H (by simp)
                                    · rw [if_neg c32] at H
                                      exact absurd H (by simp)
                                  · rw [if_neg c31] at H
                                    exact absurd H (by simp)
                                · rw [if_neg c30] at H
                                  have c30b0 : ((bt a0 x5_3) == 34) = false := beq_eq_false_iff_ne.mpr c30
                                  have c30b1 : ((bt a0 x5_3) != 34) = true := bne_iff_ne.mpr c30
                                  have H' := Aside0.mk H
                                  clear H
                                  have p29 : 0 ≤ (x5_3 : Int) := of_decide_eq_true (by first | (with_reducible assumption) | assumption)
                                  have q29 : x5_3 < (a0.size : Int) := of_decide_eq_true (by first | (with_reducible assumption) | assumption)
                                  have hx29 := bt_at a0 x5_3
                                  replace p29 := eq_true p29
                                  replace q29 := eq_true q29
                                  go_wp2
                                  go_roundg kj19
                                  case measure => have := HJ1.out; have := HJ10.out; have := HK3.out; have := HJ19.out; omega
                                  case rel => exact ⟨(wrap64 (x5_3 + 1)), (x176000_3), (x176001_3), (by first | rfl | (simp; done) | (simp [*]; done)), H', ⟨by have := HJ1.out; have := HJ10.out; have := HK3.out; have := HJ19.out; omega⟩, ⟨by (with_reducible repeat (first | refine blk_drewN ?_ _ | refine blk_drew ?_ | refine blk_alloc ?_ _)); exact BK175.out⟩, ⟨by repeat (first | (with_reducible first | exact HB.out | apply below_alloc | apply pw_below_drewN | apply below_drew1 | refine below_set ?_ GE175.out) | exact HB.out)⟩⟩
                              · rw [if_neg c28] at H
                                exact absurd H (by simp)
                            · rw [if_neg c27] at H
                              exact absurd H (by simp)
                    · rw [if_neg c19] at H
                      have c19b0 : decide (x5_3 < (a0.size : Int)) = false := decide_eq_false c19
                      clear c19
                      simp only [Option.some.injEq, Prod.mk.injEq] at H
                      obtain ⟨rfl, rfl, rfl⟩ := H
                      have hcz40_0 : wr.cell? ⟨gb175, 0, none⟩ = some (.string x176000_3) := (blk_cell BK175.out 0).trans rfl
                      have hcz40_1 : wr.cell? ⟨gb175, 1, none⟩ = some (.string x176001_3) := (blk_cell BK175.out 1).trans rfl
                      have hfz40_0 := blk_frozen BK175.out 0
                      have hfz40_1 := blk_frozen BK175.out 1
                      go_wp2
                      refine bodyPost_ret (results_ct rfl _ _ gb175 45 #[.string (⟨#[]⟩ : ByteArray), .string (⟨#[]⟩ : ByteArray)] (0, 0) _ rfl (by (with_reducible repeat (first | refine blk_drewN ?_ _ | refine blk_drew ?_ | refine blk_alloc ?_ _)); refine blk_put (cs := #[.string (⟨#[]⟩ : ByteArray), .string x176001_3]) ?_ 1 _ rfl; (with_reducible repeat (first | refine blk_drewN ?_ _ | refine blk_drew ?_ | refine blk_alloc ?_ _)); refine blk_put (cs := #[.string x176000_3, .string x176001_3]) ?_ 0 _ rfl; (with_reducible repeat (first | refine blk_drewN ?_ _ | refine blk_drew ?_ | refine blk_alloc ?_ _)); exact BK175.out) Try.underlying45 rfl (by kernel_rfl)) rfl ?_
                      exact ⟨by first | rfl | exact retNe _ | (simp [errW_none, errW_some] <;> rfl) | (simp [*, errW_none, errW_some] <;> rfl), by repeat (first | (with_reducible first | exact HB.out | apply below_alloc | apply pw_below_drewN | apply below_drew1 | refine below_set ?_ GE175.out) | exact HB.out)⟩
        · rw [if_neg c9] at H
          exact absurd H (by simp)

end Go.Proofs.Ytjcfjgcnkbbgmaa.PA

namespace Go.Proofs.Ytjcfjgcnkbbgmaa.Pure
open Go.RowKit Go.Proofs.YtjcfjgcnkbbgmaaW.PrintWords Go.Proofs.YtjcfjgcnkbbgmaaW.PrintMore Go.Proofs.Ytjcfjgcnkbbgmaa.Pl Go.Proofs.Ytjcfjgcnkbbgmaa.PA

theorem Ev.const {α : Type} {g : Option α} {r : α} (h : g = some r) : Ev (fun _ => g) r := ⟨0, fun _ _ => h⟩
def sm (x : UInt8) : Bool := decide (97 ≤ x.toNat) && decide (x.toNat ≤ 122)
def dg (x : UInt8) : Bool := decide (48 ≤ x.toNat) && decide (x.toNat ≤ 57)
theorem small_f (x : UInt8) : tags_small.f (x.toNat : Int) = some (sm x) := by
  have h : ∀ n : Fin 256, tags_small.f ((n.val : Nat) : Int) = some (decide (97 ≤ n.val) && decide (n.val ≤ 122)) := by decide +kernel
  exact h ⟨x.toNat, x.toNat_lt⟩
theorem small_r (x : UInt8) : incipitref21_small.f (x.toNat : Int) = some (sm x) := by
  have h : ∀ n : Fin 256, incipitref21_small.f ((n.val : Nat) : Int) = some (decide (97 ≤ n.val) && decide (n.val ≤ 122)) := by decide +kernel
  exact h ⟨x.toNat, x.toNat_lt⟩
theorem digit_f (x : UInt8) : class_Digit.f (x.toNat : Int) = some (dg x) := by
  have h : ∀ n : Fin 256, class_Digit.f ((n.val : Nat) : Int) = some (decide (48 ≤ n.val) && decide (n.val ≤ 57)) := by decide +kernel
  exact h ⟨x.toNat, x.toNat_lt⟩
/-- May a byte stand in a name, at a place? -/
def okN (d : Bool) (i : Nat) (x : UInt8) : Bool := if sm x = true then true else if 0 < i then (if dg x = true then true else if d = true then decide (x = 45) else false) else false
/-- How long a name is. -/
def nm (d : Bool) : Nat → List UInt8 → Nat
  | _, [] => 0
  | i, x :: t => if okN d i x = true then nm d (i + 1) t + 1 else 0
theorem nm_le (d : Bool) : ∀ (l : List UInt8) (i : Nat), nm d i l ≤ l.length
  | [], _ => Nat.le_refl _
  | x :: t, i => by
    have := nm_le d t (i + 1)
    unfold nm
    split
    · rw [List.length_cons]; omega
    · exact Nat.zero_le _
theorem named_body (d : Bool) (l : List UInt8) (hl : l.length ≤ 1099511627776) (k i : Nat) (x : UInt8) (t : List UInt8) (hd : l.drop i = x :: t) :
    tags_named.l0 (k + 1) (B l) d (i : Int) = if okN d i x = true then tags_named.l0 k (B l) d ((i + 1 : Nat) : Int) else some (B (l.take i), B (l.drop i)) := by
  have hi : i < l.length := by
    rcases Nat.lt_or_ge i l.length with h | h
    · exact h
    · rw [List.drop_of_length_le h] at hd; cases hd
  have hx : l[i] = x := by
    have := List.drop_eq_getElem_cons hi
    rw [hd] at this
    exact (List.cons.inj this).1.symm
  have hbt : bt (B l) (i : Int) = (x.toNat : Int) := by rw [B_bt l i hi, hx]
  have hw : wrap64 ((i : Int) + 1) = ((i + 1 : Nat) : Int) := by rw [w64 (by omega) (by omega)]; omega
  have he1 : (B l).extract 0 ((i : Int)).toNat = B (l.take i) := by rw [Int.toNat_natCast, B_to]
  have he2 : (B l).extract ((i : Int)).toNat (B l).size = B (l.drop i) := by rw [Int.toNat_natCast, B_from l i _ (B_size l)]
  have hsz := B_size l
  have hc : ((i : Int) ≤ ((B l).size : Int)) := by omega
  rw [tags_named.l0, if_pos (by omega), if_pos (by omega), hbt, small_f, hw, he1, he2, digit_f]
  simp only [if_pos hc, Option.bind_some]
  unfold okN
  by_cases hs : sm x = true
  · rw [if_pos hs, if_pos hs, if_pos rfl]
  · rw [if_neg hs, if_neg hs]
    by_cases h0 : 0 < i
    · rw [if_pos (by omega), if_pos h0]
      by_cases hg : dg x = true
      · rw [if_pos hg, if_pos hg, if_pos rfl]
      · rw [if_neg hg, if_neg hg]
        cases d with
        | false => simp
        | true =>
          rw [if_pos rfl, if_pos rfl]
          have e45 : ((x.toNat : Int) = 45) ↔ x = 45 := u8_eq x 45 (by decide)
          by_cases h45 : x = 45
          · rw [if_pos (e45.2 h45), if_pos (decide_eq_true h45)]
          · rw [if_neg (fun e => h45 (e45.1 e)), if_neg (by simpa using h45)]
    · rw [if_neg (by omega), if_neg h0, if_neg (by decide)]
theorem named_end (d : Bool) (l : List UInt8) (k : Nat) : tags_named.l0 (k + 1) (B l) d (l.length : Int) = some (B l, B []) := by
  have hsz := B_size l
  rw [tags_named.l0, if_neg (by omega), if_pos (by omega), if_pos (by omega), Int.toNat_natCast, B_to, B_from l _ _ hsz, List.take_length, List.drop_length]
theorem named_at (d : Bool) (l : List UInt8) (hl : l.length ≤ 1099511627776) : ∀ (m i : Nat), m = l.length - i → i ≤ l.length → Ev (fun k => tags_named.l0 k (B l) d (i : Int)) (B (l.take (i + nm d i (l.drop i))), B (l.drop (i + nm d i (l.drop i))))
  | 0, i, hm, hi => by
    obtain rfl : i = l.length := by omega
    rw [List.drop_length]
    refine Ev.step (fun k => named_end d l k) ?_
    rw [show nm d l.length [] = 0 from rfl, Nat.add_zero, List.take_length, List.drop_length]
    exact Ev.now _
  | m + 1, i, hm, hi => by
    have hlt : i < l.length := by omega
    have hd := List.drop_eq_getElem_cons hlt
    obtain ⟨x, hx⟩ : ∃ x, l[i] = x := ⟨_, rfl⟩
    rw [hx] at hd
    have ih := named_at d l hl m (i + 1) (by omega) (by omega)
    by_cases ho : okN d i x = true
    · refine Ev.step (f := fun k => tags_named.l0 k (B l) d ((i + 1 : Nat) : Int)) (fun k => by rw [named_body d l hl k i x _ hd, if_pos ho]) ?_
      rw [hd, nm, if_pos ho, show i + (nm d (i + 1) (List.drop (i + 1) l) + 1) = (i + 1) + nm d (i + 1) (List.drop (i + 1) l) by omega]
      exact ih
    · refine Ev.step (f := fun _ => some (B (l.take i), B (l.drop i))) (fun k => by rw [named_body d l hl k i x _ hd, if_neg ho]) ?_
      have e0 : nm d i (l.drop i) = 0 := by rw [hd, nm, if_neg ho]
      simp only [e0, Nat.add_zero]
      exact Ev.now _
theorem named_ev (l : List UInt8) (hl : l.length ≤ 1099511627776) (d : Bool) : Ev (fun k => tags_named.f k (B l) d) (B (l.take (nm d 0 l)), B (l.drop (nm d 0 l))) := by
  have := named_at d l hl l.length 0 rfl (Nat.zero_le _)
  rw [Nat.zero_add, List.drop_zero] at this
  exact this
theorem rname_body (d : Bool) (l : List UInt8) (hl : l.length ≤ 1099511627776) (k i : Nat) (x : UInt8) (t : List UInt8) (hd : l.drop i = x :: t) :
    incipitref21_name.l0 (k + 1) (B l) d (i : Int) = if okN d i x = true then incipitref21_name.l0 k (B l) d ((i + 1 : Nat) : Int) else some (i : Int) := by
  have hi : i < l.length := by
    rcases Nat.lt_or_ge i l.length with h | h
    · exact h
    · rw [List.drop_of_length_le h] at hd; cases hd
  have hx : l[i] = x := by
    have := List.drop_eq_getElem_cons hi
    rw [hd] at this
    exact (List.cons.inj this).1.symm
  have hbt : bt (B l) (i : Int) = (x.toNat : Int) := by rw [B_bt l i hi, hx]
  have hw : wrap64 ((i : Int) + 1) = ((i + 1 : Nat) : Int) := by rw [w64 (by omega) (by omega)]; omega
  have hsz := B_size l
  rw [incipitref21_name.l0, if_pos (by omega), if_pos (by omega), hbt, small_r, hw]
  simp only [Option.bind_some]
  unfold okN
  by_cases hs : sm x = true
  · rw [if_pos hs, if_pos hs, if_pos rfl]
  · rw [if_neg hs, if_neg hs]
    by_cases h0 : 0 < i
    · rw [if_pos (by omega), if_pos h0]
      have key : (if d = true then (if (x.toNat : Int) = 45 then incipitref21_name.l0 k (B l) d ((i + 1 : Nat) : Int) else some (i : Int)) else some (i : Int)) = if (if d = true then decide (x = 45) else false) = true then incipitref21_name.l0 k (B l) d ((i + 1 : Nat) : Int) else some (i : Int) := by
        cases d with
        | false => simp
        | true =>
          rw [if_pos rfl, if_pos rfl]
          have e45 : ((x.toNat : Int) = 45) ↔ x = 45 := u8_eq x 45 (by decide)
          by_cases h45 : x = 45
          · rw [if_pos (e45.2 h45), if_pos (decide_eq_true h45)]
          · rw [if_neg (fun e => h45 (e45.1 e)), if_neg (by simpa using h45)]
      by_cases h48 : (x.toNat : Int) ≥ 48
      · rw [if_pos h48]
        by_cases h57 : (x.toNat : Int) ≤ 57
        · have hg : dg x = true := by unfold dg; rw [decide_eq_true (by omega), decide_eq_true (by omega)]; rfl
          rw [if_pos h57, if_pos hg, if_pos rfl]
        · have hg : ¬ dg x = true := by unfold dg; rw [decide_eq_false (p := x.toNat ≤ 57) (by omega), Bool.and_false]; decide
          rw [if_neg h57, if_neg hg]
          exact key
      · have hg : ¬ dg x = true := by unfold dg; rw [decide_eq_false (p := 48 ≤ x.toNat) (by omega), Bool.false_and]; decide
        rw [if_neg h48, if_neg hg]
        exact key
    · rw [if_neg (by omega), if_neg h0, if_neg (by decide)]
theorem rname_at (d : Bool) (l : List UInt8) (hl : l.length ≤ 1099511627776) : ∀ (m i : Nat), m = l.length - i → i ≤ l.length → Ev (fun k => incipitref21_name.l0 k (B l) d (i : Int)) ((i + nm d i (l.drop i) : Nat) : Int)
  | 0, i, hm, hi => by
    obtain rfl : i = l.length := by omega
    rw [List.drop_length]
    have hsz := B_size l
    refine Ev.step (f := fun _ => some (l.length : Int)) (fun k => by rw [incipitref21_name.l0, if_neg (by omega)]) ?_
    rw [show nm d l.length [] = 0 from rfl, Nat.add_zero]
    exact Ev.now _
  | m + 1, i, hm, hi => by
    have hlt : i < l.length := by omega
    have hd := List.drop_eq_getElem_cons hlt
    obtain ⟨x, hx⟩ : ∃ x, l[i] = x := ⟨_, rfl⟩
    rw [hx] at hd
    have ih := rname_at d l hl m (i + 1) (by omega) (by omega)
    by_cases ho : okN d i x = true
    · refine Ev.step (f := fun k => incipitref21_name.l0 k (B l) d ((i + 1 : Nat) : Int)) (fun k => by rw [rname_body d l hl k i x _ hd, if_pos ho]) ?_
      rw [hd, nm, if_pos ho, show i + (nm d (i + 1) (List.drop (i + 1) l) + 1) = (i + 1) + nm d (i + 1) (List.drop (i + 1) l) by omega]
      exact ih
    · refine Ev.step (f := fun _ => some (i : Int)) (fun k => by rw [rname_body d l hl k i x _ hd, if_neg ho]) ?_
      have e0 : nm d i (l.drop i) = 0 := by rw [hd, nm, if_neg ho]
      simp only [e0, Nat.add_zero]
      exact Ev.now _
theorem rname_ev (l : List UInt8) (hl : l.length ≤ 1099511627776) (d : Bool) : Ev (fun k => incipitref21_name.f k (B l) d) ((nm d 0 l : Nat) : Int) := by
  have := rname_at d l hl l.length 0 rfl (Nat.zero_le _)
  rw [Nat.zero_add, List.drop_zero] at this
  exact this
theorem cutp (l p : List UInt8) : strings_CutPrefix.f (B l) (B p) = some (B (Lib.trimPrefix l p), p.isPrefixOf l) := by
  unfold strings_CutPrefix.f Lib.hasPrefix
  rw [B_data, B_data]
  rfl
/-- A text up to the first quote. -/
def up34 : List UInt8 → List UInt8
  | [] => []
  | x :: t => if x = 34 then [] else x :: up34 t
theorem up34_take : ∀ t : List UInt8, t.take (up34 t).length = up34 t
  | [] => rfl
  | x :: t => by
    unfold up34
    split
    · rfl
    · rw [List.length_cons, List.take_succ_cons, up34_take t]
theorem idx34 : ∀ t : List UInt8, Lib.index t [34] = if (34 : UInt8) ∈ t then ((up34 t).length : Int) else -1
  | [] => by rw [if_neg (by simp)]; rfl
  | x :: t => by
    rw [Lib.index, up34]
    by_cases hx : x = 34
    · subst hx
      rw [if_pos (by simp [List.isPrefixOf]), if_pos (by simp), if_pos rfl]
      rfl
    · have hm : (34 : UInt8) ∈ x :: t ↔ (34 : UInt8) ∈ t := by rw [List.mem_cons]; exact ⟨fun h => h.resolve_left (fun e => hx e.symm), .inr⟩
      rw [if_neg (by simp [List.isPrefixOf] <;> exact fun e => hx e.symm), idx34 t, if_neg hx]
      by_cases h : (34 : UInt8) ∈ t
      · rw [if_pos h, if_pos (hm.2 h), if_neg (by simp <;> omega)]
        simp
      · rw [if_neg h, if_neg (fun e => h (hm.1 e))]
        rfl
theorem cut34 (t : List UInt8) : Lib.cut t [34] = if (34 : UInt8) ∈ t then (up34 t, t.drop ((up34 t).length + 1), true) else (t, [], false) := by
  unfold Lib.cut
  rw [idx34]
  by_cases h : (34 : UInt8) ∈ t
  · rw [if_pos h, if_pos (by omega), if_pos h, Int.toNat_natCast, up34_take]
    rfl
  · rw [if_neg h, if_neg (by decide), if_neg h]
/-- A value, up to its quote. -/
def vl : List UInt8 → Option (List UInt8)
  | [] => none
  | x :: t => if x = 34 then some [] else if x = 60 ∨ x = 62 then none else (vl t).map (x :: ·)
def ang (x : UInt8) : Bool := decide (x = 60) || decide (x = 62)
theorem vl_eq : ∀ t : List UInt8, vl t = if (34 : UInt8) ∈ t then (if (up34 t).any ang = true then none else some (up34 t)) else none
  | [] => rfl
  | x :: t => by
    rw [vl, up34]
    by_cases hx : x = 34
    · rw [if_pos hx, if_pos hx, if_pos (by rw [hx]; exact List.mem_cons_self), if_neg (by simp)]
    · have hm : (34 : UInt8) ∈ x :: t ↔ (34 : UInt8) ∈ t := by rw [List.mem_cons]; exact ⟨fun h => h.resolve_left (fun e => hx e.symm), .inr⟩
      rw [if_neg hx, if_neg hx, vl_eq t]
      by_cases h : (34 : UInt8) ∈ t
      · rw [if_pos h, if_pos (hm.2 h), List.any_cons]
        by_cases ha : x = 60 ∨ x = 62
        · rw [if_pos ha, if_pos (by unfold ang; rcases ha with e | e <;> rw [e] <;> rfl)]
        · rw [if_neg ha, show ang x = false by unfold ang; rw [decide_eq_false (fun e => ha (.inl e)), decide_eq_false (fun e => ha (.inr e))]; rfl, Bool.false_or]
          by_cases hb : (up34 t).any ang = true
          · rw [if_pos hb, if_pos hb]; rfl
          · rw [if_neg hb, if_neg hb]; rfl
      · rw [if_neg h, if_neg (fun e => h (hm.1 e))]
        split <;> rfl
theorem vl_len : ∀ (t u : List UInt8), vl t = some u → u.length + 1 ≤ t.length
  | [], u, h => by cases h
  | x :: t, u, h => by
    rw [vl] at h
    split at h
    · cases h; simp
    · split at h
      · cases h
      · obtain ⟨v, hv, rfl⟩ := Option.map_eq_some_iff.1 h
        have := vl_len t v hv
        simp only [List.length_cons]
        omega
theorem ia_any : ∀ l : List UInt8, decide (Lib.indexAny l [60, 62] ≥ 0) = l.any ang
  | [] => rfl
  | x :: t => by
    have ih := ia_any t
    have hge := Lib.indexAny_ge [60, 62] t
    rw [Lib.indexAny, List.any_cons]
    have ha : ([60, 62] : List UInt8).contains x = ang x := by unfold ang; rw [Bool.eq_iff_iff]; simp
    rw [ha]
    by_cases hx : ang x = true
    · rw [if_pos hx, hx, Bool.true_or]; rfl
    · rw [if_neg hx, Bool.eq_false_iff.2 hx, Bool.false_or, ← ih]
      by_cases hm : Lib.indexAny t [60, 62] = -1
      · rw [if_pos (by rw [hm]; rfl), hm]
      · rw [if_neg (by rw [beq_iff_eq]; exact hm), decide_eq_true (by omega), decide_eq_true (by omega)]
/-- An attribute, and how long it is. -/
def att : List UInt8 → Option (S45 × Nat)
  | [] => none
  | x :: r => if x = 32 then (if nm true 0 r = 0 then none else if ([61, 34] : List UInt8).isPrefixOf (r.drop (nm true 0 r)) = true then (vl (r.drop (nm true 0 r + 2))).map (fun u => (⟨B (r.take (nm true 0 r)), B u⟩, nm true 0 r + u.length + 4)) else none) else none
theorem att_len (l : List UInt8) (a) (c : Nat) (h : att l = some (a, c)) : 0 < c ∧ c ≤ l.length := by
  cases l with
  | nil => cases h
  | cons x r =>
    rw [att] at h
    split at h
    · split at h
      · cases h
      · split at h
        · obtain ⟨u, hu, e⟩ := Option.map_eq_some_iff.1 h
          cases e
          have := vl_len _ _ hu
          rw [List.length_drop] at this
          rw [List.length_cons]
          omega
        · cases h
    · cases h
def attR (l : List UInt8) : ByteArray × ByteArray × ByteArray × Bool := match att l with
  | none => (⟨#[]⟩, ⟨#[]⟩, B l, false)
  | some (a, c) => (a.f0, a.f1, B (l.drop c), true)
theorem attr_ev (l : List UInt8) (hl : l.length ≤ 1073741824) : Ev (fun k => tags_attribute.f k (B l)) (attR l) := by
  obtain ⟨r, hr⟩ : ∃ r, Lib.trimPrefix l [32] = r := ⟨_, rfl⟩
  have hrl : r.length ≤ l.length := by rw [← hr]; unfold Lib.trimPrefix; split <;> simp
  have hn := nm_le true r 0
  have c1 : strings_CutPrefix.f (B l) (⟨#[32]⟩ : ByteArray) = some (B r, ([32] : List UInt8).isPrefixOf l) := by rw [← hr]; exact cutp l [32]
  simp only [tags_attribute.f, c1, Option.bind_some]
  refine Ev.bind (named_ev r (by omega) true) (Ev.const ?_)
  obtain ⟨q, hq⟩ : ∃ q, r.drop (nm true 0 r) = q := ⟨_, rfl⟩
  have c2 : strings_CutPrefix.f (B q) (⟨#[61, 34]⟩ : ByteArray) = some (B (Lib.trimPrefix q [61, 34]), ([61, 34] : List UInt8).isPrefixOf q) := cutp q [61, 34]
  have hql : q.length ≤ r.length := by rw [← hq, List.length_drop]; omega
  obtain ⟨v, hv⟩ : ∃ v, Lib.trimPrefix q [61, 34] = v := ⟨_, rfl⟩
  have hvl : v.length ≤ q.length := by rw [← hv]; unfold Lib.trimPrefix; split <;> simp
  have c3 : strings_Cut.f (B v) (⟨#[34]⟩ : ByteArray) = some (B (if (34 : UInt8) ∈ v then up34 v else v), B (if (34 : UInt8) ∈ v then v.drop ((up34 v).length + 1) else []), decide ((34 : UInt8) ∈ v)) := by
    unfold strings_Cut.f
    rw [if_pos (by rw [B_size]; omega), B_data, show (⟨#[34]⟩ : ByteArray).data.toList = [34] from rfl, cut34]
    by_cases h : (34 : UInt8) ∈ v
    · simp only [if_pos h, decide_eq_true h]; rfl
    · simp only [if_neg h, decide_eq_false h]; rfl
  dsimp only
  rw [hq, c2, hv]
  simp only [Option.bind_some]
  rw [c3]
  simp only [Option.bind_some]
  unfold attR
  cases l with
  | nil =>
    rw [if_neg (by decide)]
    rfl
  | cons x t =>
    by_cases hx : x = 32
    · subst hx
      obtain rfl : t = r := by rw [← hr]; simp [Lib.trimPrefix, Lib.hasPrefix, List.isPrefixOf]
      rw [if_pos (by simp [List.isPrefixOf]), att, if_pos rfl, B_toList]
      by_cases h0 : nm true 0 t = 0
      · rw [if_pos (by rw [h0]; rfl), if_pos h0]
      · rw [if_neg (fun e => h0 (by have h1 := congrArg List.length e; rw [List.length_take, List.length_nil] at h1; omega)), if_neg h0, hq]
        by_cases hp : ([61, 34] : List UInt8).isPrefixOf q = true
        · have hv2 : v = q.drop 2 := by rw [← hv]; unfold Lib.trimPrefix Lib.hasPrefix; rw [if_pos hp]; rfl
          have hvd : v = t.drop (nm true 0 t + 2) := by rw [hv2, ← hq, List.drop_drop]
          rw [if_pos hp, if_pos hp, ← hvd, vl_eq]
          by_cases h34 : (34 : UInt8) ∈ v
          · simp only [decide_eq_true h34, if_pos h34, if_true]
            have c4 : strings_ContainsAny.f (B (up34 v)) (⟨#[60, 62]⟩ : ByteArray) = some ((up34 v).any ang) := by
              have hul : (up34 v).length ≤ v.length := by have := congrArg List.length (up34_take v); rw [List.length_take] at this; omega
              unfold strings_ContainsAny.f strings_IndexAny.f
              rw [if_pos ⟨by decide, by decide, by rw [B_size]; omega, by decide⟩, B_data, Option.bind_some, show (⟨#[60, 62]⟩ : ByteArray).data.toList = [60, 62] from rfl, ia_any]
            rw [c4, Option.bind_some]
            by_cases ha : (up34 v).any ang = true
            · rw [if_pos ha, if_pos ha]
              rfl
            · rw [if_neg ha, if_neg ha]
              show some (B _, B _, B _, true) = some (B _, B _, B _, true)
              rw [hvd, List.drop_drop]
              congr 5
              rw [show nm true 0 t + (up34 (List.drop (nm true 0 t + 2) t)).length + 4 = (nm true 0 t + 2 + ((up34 (List.drop (nm true 0 t + 2) t)).length + 1)) + 1 by omega, List.drop_succ_cons]
          · simp only [decide_eq_false h34, if_neg h34]
            rw [if_neg (by decide)]
            rfl
        · rw [if_neg hp, if_neg hp]
    · rw [if_neg (by simp [List.isPrefixOf] <;> exact fun e => hx e.symm), att, if_neg hx]
end Go.Proofs.Ytjcfjgcnkbbgmaa.Pure
