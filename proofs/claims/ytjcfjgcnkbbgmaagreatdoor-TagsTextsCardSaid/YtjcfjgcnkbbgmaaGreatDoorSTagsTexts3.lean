/-
  Texts of the proof of TagsTexts, part 3 of 6: contracts and plain laws. Conditions: see each statement.
-/
import Derived.Test.YtjcfjgcnkbbgmaaGreatDoorSTagsTexts2
import Derived.Test.YtjcfjgcnkbbgmaaGreatDoorSTagsTexts1
import Derived.Lib.Hide
import Derived.WalkKit
import Derived.BigCall
import Derived.WalkLawsBesides
import Derived.Outline
import Derived.RangeFuncBox
import Derived.Lib.FrozenHead
import Derived.Maps.AppendAt
import Derived.Recover
import Derived.StillTailTactics
import Derived.Deep.RegionWith
import Derived.Defers
import Derived.Lib.Builder
import Derived.Lib.AppendStr
import Derived.Lib.OthersKept
import Derived.Lib.UnsafeStr
import Derived.Shelf.RegionOpen
import Derived.Shelf.Strings.BuilderK
import Derived.Lib.ItoaNum
import Derived.Lib.ConvBytes
import Derived.Laws.IdiomStrings
import Derived.Lib.AtoiErrMem
import Derived.Sort.WalkA
import Derived.Test.YtjcfjgcnkbbgmaaGreatDoorProg
import Derived.Laws.Append
import Derived.Laws.NewBlocks
import Derived.Laws.Tables
import Derived.Laws.Cover3
import Derived.Laws.OwnMore
import Derived.Laws.MakeOwn
import Derived.Laws.AppendOwn
import Derived.Laws.BytesString
import Derived.Laws.CopyOwn
set_option linter.unusedVariables false
namespace Go.Proofs.YtjcfjgcnkbbgmaaGreatDoor.PA
open Go.RowKit Go.Proofs.YtjcfjgcnkbbgmaaGreatDoor.Pl Go.Proofs.YtjcfjgcnkbbgmaaGreatDoorW.PrintWords Go.Proofs.YtjcfjgcnkbbgmaaGreatDoorW.PrintLast Go.Proofs.YtjcfjgcnkbbgmaaGreatDoorW.PrintMore
set_option linter.unusedVariables false

/-- How a call ends that is told a tag or a byte: it goes on with what it has gathered, or it panics. -/
def EndE {σ : Type} (I : σ → World → Prop) (J : List PanicEntry → World → Prop) (r : Option σ) (e : Ending) (w : World) : Prop :=
  match r with
  | none => ∃ ch, e = .panicked ch ∧ J ch w
  | some y => e = .returned (.tuple #[]) ∧ I y w
/-- A text's tags and the bytes between them, told in order. -/
def tags_each.l {σ : Type} (fT : σ → ByteArray → Bool → Bool → List S63 → Option (Option σ)) (fO : σ → Int → Option (Option σ)) (k : Nat) : Nat → ByteArray → σ → Option (Option σ)
  | 0, _, _ => none
  | f + 1, s, x => if s.toList = [] then some (some x) else (tags_Read.f k s).bind fun t =>
      if t.2.2.2.2 = 0 then (fO x (bt s 0)).bind fun r => (match r with | none => some none | some y => tags_each.l fT fO k f (s.extract 1 s.size) y)
      else if 0 ≤ t.2.2.2.2 ∧ t.2.2.2.2 ≤ (s.size : Int) then (fT x t.1 t.2.1 t.2.2.1 t.2.2.2.1).bind fun r => (match r with | none => some none | some y => tags_each.l fT fO k f (s.extract t.2.2.2.2.toNat s.size) y) else none
set_option maxHeartbeats 4000000 in
set_option maxRecDepth 100000 in
theorem each_walk {σ : Type} (fT : σ → ByteArray → Bool → Bool → List S63 → Option (Option σ)) (fO : σ → Int → Option (Option σ)) (I : σ → World → Prop) (J : List PanicEntry → World → Prop) (k ft fo : Nat) (ct co : Array Value)
    (eft : ∀ args w, (callFunc ft args).run Tryz.prog w = .ok (.enter ft args) w) (efo : ∀ args w, (callFunc fo args).run Tryz.prog w = .ok (.enter fo args) w)
    (hI : ∀ x W W', I x W → Below W.heap.size W W' → I x W') (hL : ∀ x W, I x W → Laid W)
    (hT : ∀ x W n e v A c l b r, fT x n e v l = some r → I x W → Kd.R k63 63 W b (fun _ => True) (.slice A l.length c) l → Calls Tryz.prog ft (#[.agg #[.string n, .bool e, .bool v, .slice A l.length c]] ++ ct) W (EndE I J r))
    (hO : ∀ x W b r, fO x b = some r → 0 ≤ b → b ≤ 255 → I x W → Calls Tryz.prog fo (#[.int .u8 b] ++ co) W (EndE I J r))
    (s0 : ByteArray) (x0 : σ) (R : Option σ) (f0 : Nat) (hR : tags_each.l fT fO k f0 s0 x0 = some R) (w : World) (h0 : I x0 w) :
    Calls Tryz.prog 14 #[.string s0, .func (.func ft) #[] ct, .func (.func fo) #[] co] w (EndE I J R) := by
  have HI := Lib.hid hI
  have HL := Lib.hid hL
  have HT := Lib.hid hT
  have HO := Lib.hid hO
  clear hI hL hT hO
  go_enter Tryz.func14, Tryz.ntmps14
  go_wp2
  go_loopw [0] (fun v0 wr => ∃ f s x, v0 = .string s ∧ Hid (tags_each.l fT fO k f s x = some R) ∧ Hid (I x wr))
    (fun v0 wr => match v0 with | .string s => s.size | _ => 0)
  case atStart => exact ⟨f0, s0, x0, rfl, Lib.hid hR, Lib.hid h0⟩
  case round =>
    obtain ⟨f, s, x, rfl, HA, HX⟩ := hrel
    have hA := HA.out
    clear HA
    cases f with
    | zero => cases hA
    | succ f =>
    rw [tags_each.l] at hA
    by_cases hs : s.toList = []
    · rw [if_pos hs] at hA
      cases hA
      have q : (!s.toList.isEmpty) = false := by rw [hs]; rfl
      go_wp2
      first | (exact ⟨rfl, rfl, HX.out⟩) | (refine bodyPost_ret (results_none rfl _ _ _) rfl ?_; exact ⟨rfl, HX.out⟩) | (go_end0; exact ⟨rfl, HX.out⟩)
    · rw [if_neg hs] at hA
      obtain ⟨⟨n, e, v, l, d⟩, hRd, hA⟩ := Option.bind_eq_some_iff.1 hA
      dsimp only at hA
      have q : (!s.toList.isEmpty) = true := by cases hq : s.toList with | nil => exact absurd hq hs | cons _ _ => rfl
      have hsz : 0 < s.size := by
        rcases Nat.eq_zero_or_pos s.size with h | h
        · exact absurd (by rw [Lib.toList_data]; exact List.length_eq_zero_iff.1 (by simpa using h)) hs
        · exact h
      have HRd := Lib.hid (fun W hW => tags_Read.calls k s n e v l d W hW hRd)
      have HA := Lib.hid hA
      clear hRd hA
      go_wp2_with fail
      refine (HRd.out _ (HL.out _ _ HX.out)).mono ?_
      rintro e1 w1 ⟨v3, rfl, hv, hb1⟩
      obtain ⟨Ao, co_, rfl⟩ := Kd.R_slice hv
      have HX1 := Lib.hid (HI.out _ _ _ HX.out hb1)
      have HV := Lib.hid hv
      clear hb1 hv HX HRd
      by_cases hd : d = 0
      · subst hd
        have hbt : bt s 0 = (s[0].toNat : Int) := by unfold bt; rw [dif_pos (show Int.toNat 0 < s.size from hsz)]; rfl
        have hb0 := s[0].toNat_lt
        have hA := HA.out
        first | rw [if_pos rfl, hbt] at hA | rw [if_pos trivial, hbt] at hA
        obtain ⟨r, hf, hA⟩ := Option.bind_eq_some_iff.1 hA
        have HF := Lib.hid hf
        clear hf
        go_wp2_with fail
        refine (HO.out x _ _ r HF.out (by omega) (by omega) (HI.out _ _ _ HX1.out (below_alloc (Below.refl _ _) _))).mono ?_
        intro e2 w2 he
        cases r with
        | none =>
          obtain ⟨ch, rfl, hJ⟩ := he
          cases hA
          have HJ := Lib.hid hJ
          clear hJ
          go_wp2
          exact ⟨rfl, ch, rfl, HJ.out⟩
        | some y =>
          obtain ⟨rfl, hX2⟩ := he
          have HX2 := Lib.hid hX2
          have HA2 := Lib.hid hA
          clear hA HA hX2 hbt hb0
          go_wp2
          go_roundw
          case rel => exact ⟨f, _, y, rfl, HA2, HX2⟩
          case measure => simp; omega
      · have hq : (d == 0) = false := beq_eq_false_iff_ne.2 hd
        have hA := HA.out
        rw [if_neg hd] at hA
        by_cases hn : 0 ≤ d ∧ d ≤ (s.size : Int)
        case neg => rw [if_neg hn] at hA; cases hA
        rw [if_pos hn] at hA
        obtain ⟨hn0, hn1⟩ := hn
        obtain ⟨r, hf, hA⟩ := Option.bind_eq_some_iff.1 hA
        have HF := Lib.hid hf
        clear hf
        go_wp2_with fail
        refine (HT.out x _ n e v Ao co_ l wr.heap.size r HF.out (HI.out _ _ _ HX1.out (below_alloc (Below.refl _ _) _)) (Kd.R_alloc HV.out _)).mono ?_
        intro e2 w2 he
        cases r with
        | none =>
          obtain ⟨ch, rfl, hJ⟩ := he
          cases hA
          have HJ := Lib.hid hJ
          clear hJ
          go_wp2
          exact ⟨rfl, ch, rfl, HJ.out⟩
        | some y =>
          obtain ⟨rfl, hX2⟩ := he
          have HX2 := Lib.hid hX2
          have HA2 := Lib.hid hA
          clear hA HA hX2
          go_wp2
          go_roundw
          case rel => exact ⟨f, _, y, rfl, HA2, HX2⟩
          case measure => simp; omega
theorem tags_each.mono_l {σ : Type} (fT : σ → ByteArray → Bool → Bool → List S63 → Option (Option σ)) (fO : σ → Int → Option (Option σ)) : ∀ (f k : Nat) (s : ByteArray) (x : σ) (r), tags_each.l fT fO k f s x = some r → tags_each.l fT fO (k + 1) (f + 1) s x = some r
  | 0, _, _, _, _, h => by cases h
  | f + 1, k, s, x, r, h => by
    rw [tags_each.l] at h
    rw [tags_each.l]
    by_cases hs : s.toList = []
    · rw [if_pos hs] at h ⊢
      exact h
    · rw [if_neg hs] at h ⊢
      obtain ⟨t, hT, h⟩ := Option.bind_eq_some_iff.1 h
      rw [tags_Read.mono s k t hT]
      show (if _ then _ else _) = _
      by_cases h0 : t.2.2.2.2 = 0
      · rw [if_pos h0] at h ⊢
        obtain ⟨q, hq, h⟩ := Option.bind_eq_some_iff.1 h
        rw [hq]
        cases q with
        | none => exact h
        | some y => exact tags_each.mono_l fT fO f k _ _ _ h
      · rw [if_neg h0] at h ⊢
        by_cases hn : 0 ≤ t.2.2.2.2 ∧ t.2.2.2.2 ≤ (s.size : Int)
        · rw [if_pos hn] at h ⊢
          obtain ⟨q, hq, h⟩ := Option.bind_eq_some_iff.1 h
          rw [hq]
          cases q with
          | none => exact h
          | some y => exact tags_each.mono_l fT fO f k _ _ _ h
        · rw [if_neg hn] at h
          cases h
end Go.Proofs.YtjcfjgcnkbbgmaaGreatDoor.PA

namespace Go.Proofs.YtjcfjgcnkbbgmaaGreatDoor.PA
open Go.RowKit Go.Proofs.YtjcfjgcnkbbgmaaGreatDoor.Pl Go.Proofs.YtjcfjgcnkbbgmaaGreatDoorW.PrintWords Go.Proofs.YtjcfjgcnkbbgmaaGreatDoorW.PrintLast Go.Proofs.YtjcfjgcnkbbgmaaGreatDoorW.PrintMore
set_option linter.unusedVariables false

theorem isBt_below {T e B b : Nat} {bs : List Value} {w w' : World} (h : Lib.IsBuilder T e B b bs w) (hb : Below w.heap.size w w') : Lib.IsBuilder T e B b bs w' := by
  have go : ∀ p, Lib.BuilderAt T e B b p bs w → Lib.BuilderAt T e B b p bs w' := by
    intro p h
    have hlt := h.lt
    obtain ⟨h1, v, h2, h3, h4⟩ := h
    exact ⟨h1, v, (hb.block _ hlt).trans h2, pw_own_below h3 hb, h4⟩
  rcases h with h | h
  · exact .inl (go _ h)
  · exact .inr (go _ h)
theorem byteCells_snoc (x : List UInt8) (b : Int) (h0 : 0 ≤ b) (h1 : b ≤ 255) : Lib.byteCells x ++ [.int .u8 b] = Lib.byteCells (x ++ [b.toNat.toUInt8]) := by
  unfold Lib.byteCells
  rw [List.map_append, List.map_cons, List.map_nil]
  have : ((b.toNat.toUInt8.toNat : Nat) : Int) = b := by
    rw [show b.toNat.toUInt8.toNat = b.toNat % 256 from rfl]
    omega
  rw [this]
theorem text_tag (n : ByteArray) (e v : Bool) (A : Option Addr) (m c : Nat) (W : World) :
    Calls Tryz.prog 15 #[.agg #[.string n, .bool e, .bool v, .slice A m c]] W fun e w' => e = .returned (.tuple #[]) ∧ Below W.heap.size W w' := by
  go_enter Tryz.func15, Tryz.ntmps15
  go_wp2
  first | go_end0 | refine bodyPost_ret (results_none rfl _ _ _) rfl ?_
  exact ⟨rfl, below_alloc (Below.refl _ _) _⟩
/-- What is left of a text: the bytes between its tags. -/
def txtT : List UInt8 → ByteArray → Bool → Bool → List S63 → Option (Option (List UInt8)) := fun x _ _ _ _ => some (some x)
def txtO : List UInt8 → Int → Option (Option (List UInt8)) := fun x b => if x.length < 1048576 then some (some (x ++ [b.toNat.toUInt8])) else none
structure TxI (w : World) (x : List UInt8) (W : World) : Prop where
  isb : Lib.IsBuilder 43 5 w.heap.size w.heap.size (Lib.byteCells x) W
  bel : Below w.heap.size w W
theorem TxI.go {w : World} {x : List UInt8} {W W' : World} (h : TxI w x W) (hb : Below W.heap.size W W') : TxI w x W' := ⟨isBt_below h.isb hb, h.bel.trans (hb.mono h.bel.size)⟩
theorem text_byte (w : World) (x : List UInt8) (W : World) (b : Int) (h0 : 0 ≤ b) (h1 : b ≤ 255) (hx : x.length < 1048576) (h : TxI w x W) :
    Calls Tryz.prog 16 #[.int .u8 b, .pointer (some ⟨w.heap.size, 0, none⟩)] W fun e w' => e = .returned (.tuple #[]) ∧ TxI w (x ++ [b.toNat.toUInt8]) w' := by
  have HW := Lib.hid (Tryz.Builder_WriteByte w.heap.size w.heap.size (Lib.byteCells x) b W h.isb (by rw [Lib.byteCells_length]; omega) h.bel.size)
  have HX := Lib.hid h
  clear h
  go_enter Tryz.func16, Tryz.ntmps16
  go_wp2_with fail
  refine HW.out.mono ?_
  rintro e w1 ⟨rfl, hB, hb⟩
  have HI := Lib.hid (show TxI w (x ++ [b.toNat.toUInt8]) w1 from ⟨by rw [← byteCells_snoc x b h0 h1]; exact .inr hB, HX.out.bel.trans hb⟩)
  clear hB hb HW HX
  go_wp2
  first | go_end0 | refine bodyPost_ret (results_none rfl _ _ _) rfl ?_
  exact ⟨rfl, HI.out⟩
def tags_Text.f (k : Nat) (a0 : ByteArray) : Option ByteArray := (tags_each.l txtT txtO k k a0 []).bind fun r => r.map B
set_option maxHeartbeats 1000000 in
set_option maxRecDepth 100000 in
theorem tags_Text.calls (k : Nat) (a0 : ByteArray) (r : ByteArray) (w : World) (hLd : Laid w) (h : tags_Text.f k a0 = some r) :
    Calls Tryz.prog 7 #[.string a0] w fun e w' => e = .returned (.string r) ∧ Below w.heap.size w w' := by
  obtain ⟨q, hq, hr⟩ := Option.bind_eq_some_iff.1 h
  cases q with
  | none => cases hr
  | some x =>
  obtain rfl := Option.some.inj hr
  have HB0 := Lib.hid ((Below.refl w.heap.size w).alloc (Nat.le_refl _) (.cells #[.pointer none, .slice none 0 0] 43 (0, 0)))
  have HI0 := Lib.hid (Lib.fresh_isBuilder 43 5 w)
  have HE := Lib.hid (fun W (hW : TxI w [] W) => each_walk txtT txtO (TxI w) (fun _ _ => False) k 15 16 #[] #[.pointer (some ⟨w.heap.size, 0, none⟩)]
    (enters_of Tryz.func15 (by kernel_rfl) rfl) (enters_of Tryz.func16 (by kernel_rfl) rfl)
    (fun x W W' h hb => h.go hb) (fun x W h => hLd.go h.bel)
    (fun x W n e v A c l b r hf hI hR => by
      obtain rfl := Option.some.inj hf
      refine (text_tag n e v A l.length c W).mono ?_
      rintro e2 w2 ⟨rfl, hb⟩
      exact ⟨rfl, hI.go hb⟩)
    (fun x W b r hf h0 h1 hI => by
      unfold txtO at hf
      split at hf
      · rename_i hx
        obtain rfl := Option.some.inj hf
        exact text_byte w x W b h0 h1 hx hI
      · cases hf)
    a0 [] (some x) k hq W hW)
  clear h hq hr hLd
  go_enter Tryz.func7, Tryz.ntmps7
  go_wp2_with fail
  refine (HE.out _ ⟨HI0.out, HB0.out⟩).mono ?_
  rintro e w1 ⟨rfl, hX⟩
  have HX := Lib.hid hX
  have hbs := hX.bel.size
  clear hX HE HI0 HB0
  go_wp2_with fail
  refine (Tryz.Builder_String_any w.heap.size w.heap.size x _ HX.out.isb hbs).mono ?_
  rintro e w2 ⟨rfl, h2⟩
  go_wp2
  go_ret
  exact ⟨rfl, HX.out.bel.trans h2⟩
theorem tags_Text.mono : ∀ a0 k, LeO (tags_Text.f k a0) (tags_Text.f (k + 1) a0) := by
  intro a0 k r h
  obtain ⟨q, hq, h⟩ := Option.bind_eq_some_iff.1 h
  exact Option.bind_eq_some_iff.2 ⟨q, tags_each.mono_l _ _ _ _ _ _ _ hq, h⟩
end Go.Proofs.YtjcfjgcnkbbgmaaGreatDoor.PA

namespace Go.Proofs.YtjcfjgcnkbbgmaaGreatDoor.PA
open Go.RowKit Go.Proofs.YtjcfjgcnkbbgmaaGreatDoor.Pl Go.Proofs.YtjcfjgcnkbbgmaaGreatDoorW.PrintWords Go.Proofs.YtjcfjgcnkbbgmaaGreatDoorW.PrintLast Go.Proofs.YtjcfjgcnkbbgmaaGreatDoorW.PrintMore
set_option linter.unusedVariables false

/-- Where a tag's attributes lie. -/
def At2 (W : World) (A : Option Addr) (l : List S63) : Prop := l = [] ∨ ∃ g cur, A = some ⟨g, 0, none⟩ ∧ W.heap[g]? = some (Obj.cells cur 63 (0, 0)) ∧
  ∀ j, (hj : j < l.length) → cur[j * 2]? = some (.string l[j].f0) ∧ cur[j * 2 + 1]? = some (.string l[j].f1)
theorem At2.of {W : World} {b c : Nat} {A : Option Addr} {l : List S63} (h : Kd.R k63 63 W b (fun _ => True) (.slice A l.length c) l) : At2 W A l := by
  rcases Nat.eq_zero_or_pos l.length with h0 | h0
  · exact .inl (List.length_eq_zero_iff.1 h0)
  obtain ⟨A', c', e, _, hC⟩ := Kd.R_reads h
  cases e
  obtain ⟨_, inner, ho, _⟩ := h
  rcases ho.2 with ⟨e, e2⟩ | ⟨g, cap, cur, e, _, hg, _⟩
  · omega
  cases e
  refine .inr ⟨g, cur, rfl, hg, fun j hj => ?_⟩
  obtain ⟨ad, e, hc⟩ := hC.2.2 h0
  cases e
  obtain ⟨cs, hl, hr, hx⟩ := hc j _ (List.getElem?_eq_getElem hj)
  obtain rfl := k63_open hr
  have x0 := hx 0 _ rfl
  have x1 := hx 1 _ rfl
  have ad0 : ∀ n, (⟨g, 0, none⟩ : Addr).add n = ⟨g, n, none⟩ := by
    intro n
    unfold Addr.add
    split
    · rename_i h; subst h; rfl
    · rw [Nat.zero_add]
  rw [ad0, blk_cell hg] at x0 x1
  exact ⟨x0, x1⟩
theorem At2.go {W W' : World} {A : Option Addr} {l : List S63} (h : At2 W A l) (hk : ∀ (g : Nat) (cur : Array Value), W.heap[g]? = some (Obj.cells cur 63 (0, 0)) → W'.heap[g]? = some (Obj.cells cur 63 (0, 0))) : At2 W' A l := by
  rcases h with h | ⟨g, cur, e, hg, hc⟩
  · exact .inl h
  · exact .inr ⟨g, cur, e, hk g cur hg, hc⟩
theorem row_ne {W : World} {g t e : Nat} {cs : Array Value} (hg : W.heap[g]? = some (Obj.cells cs t (0, 0))) (hte : t ≠ e) {base size k : Nat} {v : Value} {xs : List Value} (hr : W.ownsRow base e size v k xs) : some g ≠ v.ownBlock := by
  rcases hr.2 with ⟨rfl, _⟩ | ⟨g', cap, cur, rfl, _, hgb, _⟩
  · simp [Value.ownBlock]
  · intro e'
    obtain rfl : g = g' := by simpa [Value.ownBlock] using e'
    have := hg.symm.trans hgb
    simp at this
    exact hte this.2
/-- The ids of a tag. -/
def idsL (l : List S63) : List ByteArray := (l.filter fun a => a.f0.toList == [105, 100]).map (·.f1)
theorem idsL_take (l : List S63) (j : Nat) (hj : j < l.length) : idsL (l.take (j + 1)) = idsL (l.take j) ++ (if l[j].f0.toList == [105, 100] then [l[j].f1] else []) := by
  unfold idsL
  rw [← List.take_append_getElem hj, List.filter_append, List.map_append]
  congr 1
  by_cases h : (l[j].f0.toList == [105, 100]) = true
  · simp [h]
  · simp [h]
theorem idsL_len (l : List S63) : (idsL l).length ≤ l.length := by unfold idsL; rw [List.length_map]; exact List.length_filter_le _ _
def idsT : List ByteArray → ByteArray → Bool → Bool → List S63 → Option (Option (List ByteArray)) := fun x _ _ _ l => if x.length + l.length ≤ 1048576 then some (some (x ++ idsL l)) else none
def idsO : List ByteArray → Int → Option (Option (List ByteArray)) := fun x _ => some (some x)
structure IdI (w : World) (x : List ByteArray) (W : World) : Prop where
  box : ∃ v, Boxed W w.heap.size 37 v ∧ W.ownsRow w.heap.size 9 1 v x.length (x.map Value.string)
  bel : Below w.heap.size w W
theorem IdI.go {w : World} {x : List ByteArray} {W W' : World} (h : IdI w x W) (hb : Below W.heap.size W W') : IdI w x W' := by
  obtain ⟨v, h1, h2⟩ := h.box
  exact ⟨⟨v, (hb.block _ h1.lt).trans h1, pw_own_below h2 hb⟩, h.bel.trans (hb.mono h.bel.size)⟩
theorem infoS : (Tryz.prog.info? 9).map (fun i => (i.zero, i.size, i.bytes)) = some (some (.string ByteArray.empty), 1, 16) := by kernel_rfl
theorem ids_byte (a : Int) (W : World) : Calls Tryz.prog 28 #[.int .u8 a] W fun e w' => e = .returned (.tuple #[]) ∧ W = w' := by
  go_enter Tryz.func28, Tryz.ntmps28
  go_wp2
  first | go_end0 | refine bodyPost_ret (results_none rfl _ _ _) rfl ?_
  exact ⟨rfl, rfl⟩
set_option maxHeartbeats 4000000 in
set_option maxRecDepth 100000 in
theorem ids_tag (w : World) (x : List ByteArray) (n : ByteArray) (e v : Bool) (A : Option Addr) (c : Nat) (l : List S63) (hl : x.length + l.length ≤ 1048576) (W : World) (hA : At2 W A l) (h : IdI w x W) :
    Calls Tryz.prog 27 #[.agg #[.string n, .bool e, .bool v, .slice A l.length c], .pointer (some ⟨w.heap.size, 0, none⟩)] W fun e w' => e = .returned (.tuple #[]) ∧ IdI w (x ++ idsL l) w' := by
  have hb0 := below_alloc (Below.refl W.heap.size W) (.cells #[.string n, .bool e, .bool v, .slice A l.length c] 33)
  have HX := Lib.hid (h.go hb0)
  have HA := Lib.hid (hA.go (W' := W.alloc (.cells #[.string n, .bool e, .bool v, .slice A l.length c] 33)) (fun g cur hg => blk_alloc hg _))
  have hlt := (h.bel.size)
  clear h hA hb0
  go_enter Tryz.func27, Tryz.ntmps27
  go_wp2
  go_outline
  go_loopw [8] (fun v8 wr => ∃ j : Nat, v8 = .int .i64 j ∧ j ≤ l.length ∧ Hid (IdI w (x ++ idsL (l.take j)) wr) ∧ Hid (At2 wr A l))
    (fun v8 _ => l.length - (intOf v8).toNat)
  case atStart => exact ⟨0, rfl, Nat.zero_le _, by rw [List.take_zero]; show Hid (IdI w (x ++ []) _); rw [List.append_nil]; exact HX, HA⟩
  case round =>
    obtain ⟨j, rfl, hj, HI, HAt⟩ := hrel
    clear HX HA
    by_cases hjl : j < l.length
    · have hA := HAt.out
      rcases hA with h | ⟨g, cur, rfl, hg, hcur⟩
      · rw [h] at hjl; exact absurd hjl (by simp)
      obtain ⟨c0, c1⟩ := hcur j hjl
      have hc0 := (blk_cell hg (j * 2)).trans c0
      have hc1 := (blk_cell hg (j * 2 + 1)).trans c1
      have htk := idsL_take l j hjl
      obtain ⟨y, hy⟩ : ∃ y, l[j] = y := ⟨_, rfl⟩
      rw [hy] at hc0 hc1 htk
      have HC := Lib.hid hcur
      clear hcur c0 c1 hy
      by_cases hid : y.f0.toList = [105, 100]
      · have q : (y.f0.toList == [105, 100]) = true := beq_iff_eq.2 hid
        rw [if_pos q] at htk
        obtain ⟨v0, hv, hrow⟩ := HI.out.box
        rw [List.length_append] at hrow
        have e1 : (x ++ idsL (l.take (j + 1))).length = x.length + (idsL (l.take j)).length + 1 := by rw [htk]; simp; omega
        have e2 : (x ++ idsL (l.take (j + 1))).map Value.string = (x ++ idsL (l.take j)).map Value.string ++ [.string y.f1] := by rw [htk]; simp
        have E1 := Lib.hid e1
        have E2 := Lib.hid e2
        clear e1 e2
        have hv1 := hv.alloc (Obj.cells #[.string y.f0, .string y.f1] 63)
        have hrow1 := hrow.alloc (Obj.cells #[.string y.f0, .string y.f1] 63)
        have hB1 : Below w.heap.size w (wr.alloc (Obj.cells #[.string y.f0, .string y.f1] 63)) := HI.out.bel.trans (below_alloc (Below.refl _ _) _ |>.mono HI.out.bel.size)
        have hxl : x.length + (idsL (l.take j)).length + 1 ≤ 1048577 := by
          have := idsL_len (l.take j)
          rw [List.length_take] at this
          omega
        have hne1 := row_ne hg (by decide) hrow
        have hne2 := blk_ne hg hv (by decide)
        have hltb := hv.lt
        have hvc := hv.cell
        have hvc1 := hv1.cell
        obtain ⟨i0, hi, hi0, hi1, hi2⟩ := info_parts infoS
        clear HI
        go_wp2_with (at_builtin; refine wpList_append_own _ rfl _ _ 37 rfl w.heap.size 9 i0 (.string ByteArray.empty) 1 16 Tryz.underlying37 hi hi0 hi1 hi2 rfl (by decide) _ _ _ rfl (hrow1.alloc _) ⟨wr.heap.size + 1, 0, none⟩ 1 1 [.string y.f1] rfl rfl (by simpa using cell_one_new (wr.alloc (Obj.cells #[.string y.f0, .string y.f1] 63)) (Value.string y.f1) 9) (fun x hx => by simp at hx; subst hx; rfl) (by unfold maxLen; omega) (by omega) (by simp; omega) ?_; intro v' w1 hown' hgrow _; obtain ⟨g', cap', rfl⟩ := ownsRow_succ hown'; obtain ⟨hv3, hv4, hr4, hk4, hb4⟩ := hv1.appended (by decide) hrow1 hB1.size (Nat.le_refl _) hown' hgrow; have hg3 := blk_grown (blk_alloc (blk_alloc hg _) _) hgrow hne1; have HV4 := Lib.hid hv4; have HR4 := Lib.hid hr4; have HB4 := Lib.hid hb4; have HG3 := Lib.hid hg3; clear hown' hgrow hv4 hr4 hk4 hb4 hg3; have hc3 := hv3.cell; have hf3 := hv3.frozen; clear hv3)
        have HI2 := Lib.hid (show IdI w (x ++ idsL (l.take (j + 1))) _ from ⟨⟨_, HV4.out, by rw [E1.out, E2.out]; exact HR4.out⟩, hB1.trans HB4.out⟩)
        have HA2 := Lib.hid (show At2 _ (some ⟨g, 0, none⟩) l from .inr ⟨g, cur, rfl, blk_far HG3.out (p := ⟨w.heap.size, 0, none⟩) hne2 (.slice (some ⟨g', 0, none⟩) (x.length + (idsL (l.take j)).length + 1) cap'), HC.out⟩)
        go_wp2
        go_roundw
        case rel => exact ⟨j + 1, by go_num, by omega, HI2, HA2⟩
        case measure => simp [intOf]; omega
      · have q : (y.f0.toList == [105, 100]) = false := beq_eq_false_iff_ne.2 hid
        rw [if_neg (by rw [q]; decide), List.append_nil] at htk
        have HI2 := Lib.hid (show IdI w (x ++ idsL (l.take (j + 1))) (wr.alloc (.cells #[.string y.f0, .string y.f1] 63)) by rw [htk]; exact HI.out.go (below_alloc (Below.refl _ _) _))
        have HA2 := Lib.hid (HAt.out.go (W' := wr.alloc (.cells #[.string y.f0, .string y.f1] 63)) (fun g cur hg => blk_alloc hg _))
        clear htk HI HAt hg
        go_wp2
        go_roundw
        case rel => exact ⟨j + 1, by go_num, by omega, HI2, HA2⟩
        case measure => simp [intOf]; omega
    · have hI := HI.out
      rw [List.take_of_length_le (by omega)] at hI
      have HI2 := Lib.hid hI
      clear hI HI HAt
      go_wp2
      first | (exact ⟨rfl, rfl, HI2.out⟩) | (refine bodyPost_ret (results_none rfl _ _ _) rfl ?_; exact ⟨rfl, HI2.out⟩) | (go_end0; exact ⟨rfl, HI2.out⟩)
def tags_Ids.f (k : Nat) (a0 : ByteArray) : Option (List ByteArray) := (tags_each.l idsT idsO k k a0 []).bind id
set_option maxHeartbeats 1000000 in
set_option maxRecDepth 100000 in
theorem tags_Ids.calls (k : Nat) (a0 : ByteArray) (r : List ByteArray) (w : World) (hLd : Laid w) (h : tags_Ids.f k a0 = some r) :
    Calls Tryz.prog 12 #[.string a0] w fun e w' => ∃ v0_ : Value, e = .returned v0_ ∧ Kd.R Kd.string 9 w' w.heap.size (fun _ => True) v0_ r ∧ Below w.heap.size w w' := by
  obtain ⟨q, hq, hr⟩ := Option.bind_eq_some_iff.1 h
  obtain rfl : q = some r := hr
  have HB0 := Lib.hid ((Below.refl w.heap.size w).alloc (Nat.le_refl _) (.cells #[.slice none 0 0] 37 (0, 0)))
  have HX0 := Lib.hid (show IdI w [] (w.alloc (.cells #[.slice none 0 0] 37 (0, 0))) from ⟨⟨_, Boxed.new w 37 (.slice none 0 0), World.ownsRow_nil _ _ _ _⟩, HB0.out⟩)
  have HE := Lib.hid (fun W (hW : IdI w [] W) => each_walk idsT idsO (IdI w) (fun _ _ => False) k 27 28 #[.pointer (some ⟨w.heap.size, 0, none⟩)] #[]
    (enters_of Tryz.func27 (by kernel_rfl) rfl) (enters_of Tryz.func28 (by kernel_rfl) rfl)
    (fun x W W' h hb => h.go hb) (fun x W h => hLd.go h.bel)
    (fun x W n e v A c l b r hf hI hR => by
      unfold idsT at hf
      split at hf
      · rename_i hx
        obtain rfl := Option.some.inj hf
        exact ids_tag w x n e v A c l hx W (At2.of hR) hI
      · cases hf)
    (fun x W b r hf h0 h1 hI => by
      obtain rfl := Option.some.inj hf
      refine (ids_byte b W).mono ?_
      rintro e2 w2 ⟨rfl, rfl⟩
      exact ⟨rfl, hI⟩)
    a0 [] (some r) k hq W hW)
  clear h hq hLd
  go_enter Tryz.func12, Tryz.ntmps12
  go_wp2_with fail
  refine (HE.out _ HX0.out).mono ?_
  rintro e w1 ⟨rfl, hX⟩
  obtain ⟨v, hv, hrow⟩ := hX.box
  have HX := Lib.hid hX
  have HR := Lib.hid hrow
  have hvc := hv.cell
  clear hX HE HX0 HB0 hrow hv
  go_wp2
  go_ret
  exact ⟨_, rfl, Kd.R_of_own HR.out (fun _ _ => trivial), HX.out.bel⟩
theorem tags_Ids.mono : ∀ a0 k, LeO (tags_Ids.f k a0) (tags_Ids.f (k + 1) a0) := by
  intro a0 k r h
  obtain ⟨q, hq, h⟩ := Option.bind_eq_some_iff.1 h
  exact Option.bind_eq_some_iff.2 ⟨q, tags_each.mono_l _ _ _ _ _ _ _ hq, h⟩
end Go.Proofs.YtjcfjgcnkbbgmaaGreatDoor.PA

namespace Go.Proofs.YtjcfjgcnkbbgmaaGreatDoor.PA
open Go.RowKit Go.Proofs.YtjcfjgcnkbbgmaaGreatDoor.Pl Go.Proofs.YtjcfjgcnkbbgmaaGreatDoorW.PrintWords Go.Proofs.YtjcfjgcnkbbgmaaGreatDoorW.PrintLast Go.Proofs.YtjcfjgcnkbbgmaaGreatDoorW.PrintMore
set_option linter.unusedVariables false

/-- What ends a check. -/
def wrongC : List PanicEntry := [{ v := .iface 60 (.agg #[]), recovered := false }]
theorem need_yes (W : World) : Calls Tryz.prog 25 #[.bool true] W fun e w' => e = .returned (.tuple #[]) ∧ W = w' := by
  go_enter Tryz.func25, Tryz.ntmps25
  go_wp2
  first | go_end0 | refine bodyPost_ret (results_none rfl _ _ _) rfl ?_
  exact ⟨rfl, rfl⟩
theorem need_no (W : World) : Calls Tryz.prog 25 #[.bool false] W fun e w' => e = .panicked wrongC ∧ W = w' := by
  unfold wrongC
  go_enter Tryz.func25, Tryz.ntmps25
  go_wp2
  exact ⟨rfl, rfl, rfl⟩
/-- A check's step at a tag, at a byte. -/
def chkT : List ByteArray → ByteArray → Bool → Bool → List S63 → Option (Option (List ByteArray)) := fun x n e v _ =>
  if e then (match x.getLast? with | none => some none | some y => if y.toList = n.toList then some (some x.dropLast) else some none)
  else if v then some (some x) else if x.length < 1048576 then some (some (x ++ [n])) else none
def chkO : List ByteArray → Int → Option (Option (List ByteArray)) := fun x b => if b = 60 ∨ b = 62 then some none else some (some x)
structure CkI (w : World) (x : List ByteArray) (W : World) : Prop where
  box : ∃ v, Boxed W (w.heap.size + 1) 37 v ∧ W.ownsRow w.heap.size 9 1 v x.length (x.map Value.string)
  ok : Boxed W w.heap.size 4 (.bool false)
  bel : Below w.heap.size w W
structure CkJ (w : World) (ch : List PanicEntry) (W : World) : Prop where
  ch : ch = wrongC
  ok : Boxed W w.heap.size 4 (.bool false)
  bel : Below w.heap.size w W
theorem CkI.go {w : World} {x : List ByteArray} {W W' : World} (h : CkI w x W) (hb : Below W.heap.size W W') : CkI w x W' := by
  obtain ⟨v, h1, h2⟩ := h.box
  exact ⟨⟨v, (hb.block _ h1.lt).trans h1, pw_own_below h2 hb⟩, (hb.block _ h.ok.lt).trans h.ok, h.bel.trans (hb.mono h.bel.size)⟩
theorem CkI.j {w : World} {x : List ByteArray} {W : World} (h : CkI w x W) : CkJ w wrongC W := ⟨rfl, h.ok, h.bel⟩
theorem chk_byte (w : World) (x : List ByteArray) (b : Int) (W : World) (r : Option (List ByteArray)) (hr : chkO x b = some r) (h : CkI w x W) : Calls Tryz.prog 26 #[.int .u8 b] W (EndE (CkI w) (CkJ w) r) := by
  have HX := Lib.hid h
  clear h
  unfold chkO at hr
  by_cases h1 : b = 60
  · rw [if_pos (.inl h1)] at hr
    obtain rfl := Option.some.inj hr
    have q : (b != 60) = false := by rw [h1]; rfl
    clear hr h1
    go_enter Tryz.func26, Tryz.ntmps26
    go_wp2_with fail
    refine (need_no _).mono ?_
    rintro e w1 ⟨rfl, rfl⟩
    go_wp2
    exact ⟨rfl, _, rfl, HX.out.j⟩
  · have q : (b != 60) = true := by simpa using h1
    by_cases h2 : b = 62
    · rw [if_pos (.inr h2)] at hr
      obtain rfl := Option.some.inj hr
      have q2 : (b != 62) = false := by rw [h2]; rfl
      clear hr h1 h2
      go_enter Tryz.func26, Tryz.ntmps26
      go_wp2_with fail
      refine (need_no _).mono ?_
      rintro e w1 ⟨rfl, rfl⟩
      go_wp2
      exact ⟨rfl, _, rfl, HX.out.j⟩
    · rw [if_neg (by rintro (h | h); exact h1 h; exact h2 h)] at hr
      obtain rfl := Option.some.inj hr
      have q2 : (b != 62) = true := by simpa using h2
      clear hr h1 h2
      go_enter Tryz.func26, Tryz.ntmps26
      go_wp2_with fail
      refine (need_yes _).mono ?_
      rintro e w1 ⟨rfl, rfl⟩
      go_wp2
      first | (exact ⟨rfl, rfl, HX.out⟩) | (refine bodyPost_ret (results_none rfl _ _ _) rfl ?_; exact ⟨rfl, HX.out⟩) | (go_end0; exact ⟨rfl, HX.out⟩)
theorem own_slice {W : World} {base e size n : Nat} {v : Value} {xs : List Value} (h : W.ownsRow base e size v n xs) : ∃ A c, v = .slice A n c ∧ n ≤ c ∧ c ≤ 9223372036854775807 := by
  rcases h.2 with ⟨rfl, rfl⟩ | ⟨g, cap, cur, rfl, _, _, h, h2, _⟩
  · exact ⟨none, 0, rfl, Nat.le_refl _, by decide⟩
  · exact ⟨_, _, rfl, h, by unfold maxLen at h2; omega⟩
theorem own_take {W : World} {base e n c m : Nat} {A : Option Addr} {xs : List Value} (h : W.ownsRow base e 1 (.slice A n c) n xs) (hm : m ≤ n) (hn : 0 < n) : W.ownsRow base e 1 (.slice A m c) m (xs.take m) := by
  obtain ⟨h1, h2⟩ := h
  rcases h2 with ⟨_, h0⟩ | ⟨g, cap, cur, e1, hb, hg, hc, hcm, hs, ht⟩
  · omega
  · cases e1
    refine ⟨by rw [List.length_take]; omega, .inr ⟨g, c, cur, rfl, hb, hg, by omega, hcm, hs, ?_⟩⟩
    rw [← ht, List.take_take]
    congr 1
    omega
theorem own_cell {W : World} {base e n c j : Nat} {A : Option Addr} {xs : List Value} (h : W.ownsRow base e 1 (.slice A n c) n xs) (hj : j < n) : ∃ g, A = some ⟨g, 0, none⟩ ∧ W.cell? ⟨g, j, none⟩ = xs[j]? := by
  obtain ⟨h1, h2⟩ := h
  rcases h2 with ⟨_, h0⟩ | ⟨g, cap, cur, e1, hb, hg, hc, hcm, hs, ht⟩
  · omega
  · cases e1
    refine ⟨g, rfl, ?_⟩
    rw [blk_cell hg, ← ht, List.getElem?_take, if_pos (by omega)]
    simp
set_option maxHeartbeats 4000000 in
set_option maxRecDepth 100000 in
theorem chk_none (w : World) (n : ByteArray) (v : Bool) (A : Option Addr) (c : Nat) (l : List S63) (W : World) (h : CkI w [] W) :
    Calls Tryz.prog 24 #[.agg #[.string n, .bool true, .bool v, .slice A l.length c], .pointer (some ⟨w.heap.size + 1, 0, none⟩)] W (EndE (CkI w) (CkJ w) none) := by
  have HX := Lib.hid (h.go (below_alloc (Below.refl W.heap.size W) (.cells #[.string n, .bool true, .bool v, .slice A l.length c] 33)))
  obtain ⟨v0, hv, hrow⟩ := h.box
  have hltb := hv.lt
  obtain ⟨A0, c0, rfl, hc0, hcm⟩ := own_slice hrow
  rw [List.length_nil] at hv
  have hvc1 := (hv.alloc (Obj.cells #[.string n, .bool true, .bool v, .slice A l.length c] 33)).cell
  have hvc := hv.cell
  clear hv hrow h hc0 hcm
  go_enter Tryz.func24, Tryz.ntmps24
  go_wp2
  refine wp_region_any (by kernel_rfl) ?_
  change wpAny _ _ _ _ _ _ _ (World.drew _)
  refine wpAny_take (i := 0) (v := ?_) rfl (by kernel_rfl) (by kernel_rfl) (by kernel_rfl) (fun _ _ _ h => h) (Or.inl ⟨by rfl, ?_⟩) ?_
  rotate_left
  · intro w; go_simp; try with_reducible rfl
  refine wpAny_take (i := 1) (v := ?_) rfl (by kernel_rfl) (by kernel_rfl) (by kernel_rfl) (fun _ _ _ h => h) (Or.inl ⟨by rfl, ?_⟩) ?_
  rotate_left
  · intro w; go_simp; try with_reducible rfl
  refine wpAny_take (i := 2) (v := ?_) rfl (by kernel_rfl) (by kernel_rfl) (by kernel_rfl) (fun _ _ _ h => h) (Or.inl ⟨by rfl, ?_⟩) ?_
  rotate_left
  · intro w; go_simp; try with_reducible rfl
  refine wpAny_take (i := 4) (v := undef) rfl (by kernel_rfl) (by kernel_rfl) (by kernel_rfl) (fun _ _ _ h => h) (Or.inr ⟨by rfl, rfl⟩) ?_
  refine wpAny_take (i := 7) (v := undef) rfl (by kernel_rfl) (by kernel_rfl) (by kernel_rfl) (fun _ _ _ h => h) (Or.inr ⟨by rfl, rfl⟩) ?_
  refine wpAny_ready (rs := [3, 8]) (by kernel_rfl) (by simp) ?_
  refine AllReady.cons rfl (fun K hK => ?_) ?_
  · go_simp
    refine hK _ _ ?_
    clear hK K
    refine wpAny_ready (rs := [5, 8]) (by kernel_rfl) (by simp) ?_
    refine AllReady.cons rfl (fun K hK => ?_) ?_
    · go_simp
      refine hK _ _ ?_
      clear hK K
      refine wpAny_ready (rs := [6, 8]) (by kernel_rfl) (by simp) ?_
      refine AllReady.cons rfl (fun K hK => ?_) ?_
      · go_simp
        refine hK _ _ ?_
        clear hK K
        refine wpAny_ready (rs := [8]) (by kernel_rfl) (by simp) ?_
        refine AllReady.cons rfl (fun K hK => ?_) AllReady.nil
        go_simp
        refine hK _ _ ?_
        clear hK K
        refine wpAny_ready (rs := [9]) (by kernel_rfl) (by simp) ?_
        refine AllReady.cons rfl (fun K hK => ?_) AllReady.nil
        go_simp
        refine hK _ _ ?_
        clear hK K
        refine wpAny_take (i := 10) (v := ?_) rfl (by kernel_rfl) (by kernel_rfl) (by kernel_rfl) (fun _ _ _ h => h) (Or.inl ⟨by rfl, ?_⟩) ?_
        rotate_left
        · intro w; go_simp; try with_reducible rfl
        refine wpAny_ready (rs := [11]) (by kernel_rfl) (by simp) ?_
        refine AllReady.cons rfl (fun K hK => ?_) AllReady.nil
        go_simp
        (go_at_call 25; refine (need_no _).mono ?_; rintro e w1 ⟨rfl, rfl⟩; exact ⟨rfl, _, rfl, (HX.out.go (below_drew1 (Below.refl _ _))).j⟩)
      refine AllReady.cons rfl (fun K hK => ?_) AllReady.nil
      go_simp
      refine hK _ _ ?_
      clear hK K
      refine wpAny_ready (rs := [6]) (by kernel_rfl) (by simp) ?_
      refine AllReady.cons rfl (fun K hK => ?_) AllReady.nil
      go_simp
      refine hK _ _ ?_
      clear hK K
      refine wpAny_ready (rs := [9]) (by kernel_rfl) (by simp) ?_
      refine AllReady.cons rfl (fun K hK => ?_) AllReady.nil
      go_simp
      refine hK _ _ ?_
      clear hK K
      refine wpAny_take (i := 10) (v := ?_) rfl (by kernel_rfl) (by kernel_rfl) (by kernel_rfl) (fun _ _ _ h => h) (Or.inl ⟨by rfl, ?_⟩) ?_
      rotate_left
      · intro w; go_simp; try with_reducible rfl
      refine wpAny_ready (rs := [11]) (by kernel_rfl) (by simp) ?_
      refine AllReady.cons rfl (fun K hK => ?_) AllReady.nil
      go_simp
      (go_at_call 25; refine (need_no _).mono ?_; rintro e w1 ⟨rfl, rfl⟩; exact ⟨rfl, _, rfl, (HX.out.go (below_drew1 (Below.refl _ _))).j⟩)
    refine AllReady.cons rfl (fun K hK => ?_) AllReady.nil
    go_simp
    refine hK _ _ ?_
    clear hK K
    refine wpAny_ready (rs := [5]) (by kernel_rfl) (by simp) ?_
    refine AllReady.cons rfl (fun K hK => ?_) AllReady.nil
    go_simp
    refine hK _ _ ?_
    clear hK K
    refine wpAny_ready (rs := [6]) (by kernel_rfl) (by simp) ?_
    refine AllReady.cons rfl (fun K hK => ?_) AllReady.nil
    go_simp
    refine hK _ _ ?_
    clear hK K
    refine wpAny_ready (rs := [9]) (by kernel_rfl) (by simp) ?_
    refine AllReady.cons rfl (fun K hK => ?_) AllReady.nil
    go_simp
    refine hK _ _ ?_
    clear hK K
    refine wpAny_take (i := 10) (v := ?_) rfl (by kernel_rfl) (by kernel_rfl) (by kernel_rfl) (fun _ _ _ h => h) (Or.inl ⟨by rfl, ?_⟩) ?_
    rotate_left
    · intro w; go_simp; try with_reducible rfl
    refine wpAny_ready (rs := [11]) (by kernel_rfl) (by simp) ?_
    refine AllReady.cons rfl (fun K hK => ?_) AllReady.nil
    go_simp
    (go_at_call 25; refine (need_no _).mono ?_; rintro e w1 ⟨rfl, rfl⟩; exact ⟨rfl, _, rfl, (HX.out.go (below_drew1 (Below.refl _ _))).j⟩)
  refine AllReady.cons rfl (fun K hK => ?_) AllReady.nil
  go_simp
  refine hK _ _ ?_
  clear hK K
  refine wpAny_ready (rs := [3]) (by kernel_rfl) (by simp) ?_
  refine AllReady.cons rfl (fun K hK => ?_) AllReady.nil
  go_simp
  refine hK _ _ ?_
  clear hK K
  refine wpAny_ready (rs := [5]) (by kernel_rfl) (by simp) ?_
  refine AllReady.cons rfl (fun K hK => ?_) AllReady.nil
  go_simp
  refine hK _ _ ?_
  clear hK K
  refine wpAny_ready (rs := [6]) (by kernel_rfl) (by simp) ?_
  refine AllReady.cons rfl (fun K hK => ?_) AllReady.nil
  go_simp
  refine hK _ _ ?_
  clear hK K
  refine wpAny_ready (rs := [9]) (by kernel_rfl) (by simp) ?_
  refine AllReady.cons rfl (fun K hK => ?_) AllReady.nil
  go_simp
  refine hK _ _ ?_
  clear hK K
  refine wpAny_take (i := 10) (v := ?_) rfl (by kernel_rfl) (by kernel_rfl) (by kernel_rfl) (fun _ _ _ h => h) (Or.inl ⟨by rfl, ?_⟩) ?_
  rotate_left
  · intro w; go_simp; try with_reducible rfl
  refine wpAny_ready (rs := [11]) (by kernel_rfl) (by simp) ?_
  refine AllReady.cons rfl (fun K hK => ?_) AllReady.nil
  go_simp
  (go_at_call 25; refine (need_no _).mono ?_; rintro e w1 ⟨rfl, rfl⟩; exact ⟨rfl, _, rfl, (HX.out.go (below_drew1 (Below.refl _ _))).j⟩)
set_option maxHeartbeats 4000000 in
set_option maxRecDepth 100000 in
theorem chk_pop (w : World) (xs : List ByteArray) (y : ByteArray) (n : ByteArray) (v : Bool) (A : Option Addr) (c : Nat) (l : List S63) (W : World) (h : CkI w (xs ++ [y]) W) (hyn : y.toList = n.toList) :
    Calls Tryz.prog 24 #[.agg #[.string n, .bool true, .bool v, .slice A l.length c], .pointer (some ⟨w.heap.size + 1, 0, none⟩)] W (EndE (CkI w) (CkJ w) (some xs)) := by
  have HX := Lib.hid (h.go (below_alloc (Below.refl W.heap.size W) (.cells #[.string n, .bool true, .bool v, .slice A l.length c] 33)))
  obtain ⟨v0, hv, hrow⟩ := h.box
  obtain ⟨A0, c0, rfl, hc0, hcm⟩ := own_slice hrow
  have hltb := hv.lt
  have hrow0 := hrow
  rw [List.length_append, List.length_singleton] at hv hrow hc0
  have hrow1 := hrow.alloc (Obj.cells #[.string n, .bool true, .bool v, .slice A l.length c] 33)
  have hvc1 := (hv.alloc (Obj.cells #[.string n, .bool true, .bool v, .slice A l.length c] 33)).cell
  have hvf1 := (hv.alloc (Obj.cells #[.string n, .bool true, .bool v, .slice A l.length c] 33)).frozen
  have hvc := hv.cell
  have hvf := hv.frozen
  obtain ⟨g, rfl, hy1⟩ := own_cell hrow1 (Nat.lt_succ_self _)
  rw [show ((xs ++ [y]).map Value.string)[xs.length]? = some (.string y) by simp] at hy1
  obtain ⟨g', e', hy⟩ := own_cell hrow (Nat.lt_succ_self _)
  cases e'
  rw [show ((xs ++ [y]).map Value.string)[xs.length]? = some (.string y) by simp] at hy
  have hT := own_take hrow1 (Nat.le_succ xs.length) (Nat.succ_pos _)
  have q : (y.toList == n.toList) = true := beq_iff_eq.2 hyn
  have HT := Lib.hid hT
  have HV := Lib.hid (hv.alloc (Obj.cells #[.string n, .bool true, .bool v, .slice A l.length c] 33))
  have hbe := h.bel.size
  have hT2 := own_take hrow (Nat.le_succ xs.length) (Nat.succ_pos _)
  rw [show ((xs ++ [y]).map Value.string).take xs.length = xs.map Value.string by simp] at hT2
  have HI2 := Lib.hid (((⟨⟨_, hv.set _, hT2.kept (grownBy_setCell' _ _ _) (.inr (hv.not_row (by decide) hT2).symm)⟩, h.ok.kept (grownBy_setCell' _ _ _) (by simp), h.bel.setCell (p := ⟨w.heap.size + 1, 0, none⟩) (Nat.le_succ _) (.slice (some ⟨g, 0, none⟩) xs.length c0)⟩ : CkI w xs (W.setCell ⟨w.heap.size + 1, 0, none⟩ (.slice (some ⟨g, 0, none⟩) xs.length c0))).go (below_alloc (Below.refl _ _) (Obj.cells #[.string n, .bool true, .bool v, .slice A l.length c] 33))).go (below_drew1 (Below.refl _ _)))
  clear hT2
  clear hrow hrow0 hrow1 hv h hT hyn
  go_enter Tryz.func24, Tryz.ntmps24
  go_wp2
  go_region_with (go_at_call 25; refine (need_yes _).mono ?_; rintro e w1 ⟨rfl, rfl⟩)
  all_goals
    go_wp2
    first | go_end0 | refine bodyPost_ret (results_none rfl _ _ _) rfl ?_
    exact ⟨rfl, HI2.out⟩
set_option maxHeartbeats 4000000 in
set_option maxRecDepth 100000 in
theorem chk_bad (w : World) (xs : List ByteArray) (y : ByteArray) (n : ByteArray) (v : Bool) (A : Option Addr) (c : Nat) (l : List S63) (W : World) (h : CkI w (xs ++ [y]) W) (hyn : ¬ y.toList = n.toList) :
    Calls Tryz.prog 24 #[.agg #[.string n, .bool true, .bool v, .slice A l.length c], .pointer (some ⟨w.heap.size + 1, 0, none⟩)] W (EndE (CkI w) (CkJ w) none) := by
  have HX := Lib.hid (h.go (below_alloc (Below.refl W.heap.size W) (.cells #[.string n, .bool true, .bool v, .slice A l.length c] 33)))
  obtain ⟨v0, hv, hrow⟩ := h.box
  obtain ⟨A0, c0, rfl, hc0, hcm⟩ := own_slice hrow
  have hltb := hv.lt
  have hrow0 := hrow
  rw [List.length_append, List.length_singleton] at hv hrow hc0
  have hrow1 := hrow.alloc (Obj.cells #[.string n, .bool true, .bool v, .slice A l.length c] 33)
  have hvc1 := (hv.alloc (Obj.cells #[.string n, .bool true, .bool v, .slice A l.length c] 33)).cell
  have hvf1 := (hv.alloc (Obj.cells #[.string n, .bool true, .bool v, .slice A l.length c] 33)).frozen
  have hvc := hv.cell
  have hvf := hv.frozen
  obtain ⟨g, rfl, hy1⟩ := own_cell hrow1 (Nat.lt_succ_self _)
  rw [show ((xs ++ [y]).map Value.string)[xs.length]? = some (.string y) by simp] at hy1
  obtain ⟨g', e', hy⟩ := own_cell hrow (Nat.lt_succ_self _)
  cases e'
  rw [show ((xs ++ [y]).map Value.string)[xs.length]? = some (.string y) by simp] at hy
  have q : (y.toList == n.toList) = false := beq_eq_false_iff_ne.2 hyn
  clear hrow hrow0 hrow1 hv h hyn
  go_enter Tryz.func24, Tryz.ntmps24
  go_wp2
  refine wp_region_still_tail 11 (by kernel_rfl) (by kernel_rfl) ?_
  simp only [List.take_succ_cons, List.take_zero, List.drop_succ_cons, List.drop_zero]
  have hib : ((xs.length : Nat) : Int) < (xs.length : Int) + 1 := by omega
  change wpStill _ _ ((W.alloc (Obj.cells #[.string n, .bool true, .bool v, .slice A l.length c] 33)).drew) _ _ _
  repeat still_step
  refine wpStill_nil ?_
  go_wp2_with fail
  refine (need_no _).mono ?_
  rintro e w1 ⟨rfl, rfl⟩
  exact ⟨rfl, _, rfl, (HX.out.go (below_drew1 (Below.refl _ _))).j⟩
set_option maxHeartbeats 4000000 in
set_option maxRecDepth 100000 in
theorem chk_void (w : World) (x : List ByteArray) (n : ByteArray) (A : Option Addr) (c : Nat) (l : List S63) (W : World) (h : CkI w x W) :
    Calls Tryz.prog 24 #[.agg #[.string n, .bool false, .bool true, .slice A l.length c], .pointer (some ⟨w.heap.size + 1, 0, none⟩)] W (EndE (CkI w) (CkJ w) (some x)) := by
  have HX := Lib.hid (h.go (below_alloc (Below.refl W.heap.size W) (.cells #[.string n, .bool false, .bool true, .slice A l.length c] 33)))
  obtain ⟨v0, hv, hrow⟩ := h.box
  obtain ⟨A0, c0, rfl, hc0, hcm⟩ := own_slice hrow
  have hltb := hv.lt
  have hvc := hv.cell
  clear hrow hv h
  go_enter Tryz.func24, Tryz.ntmps24
  go_wp2
  first | (exact ⟨rfl, rfl, HX.out⟩) | (refine bodyPost_ret (results_none rfl _ _ _) rfl ?_; exact ⟨rfl, HX.out⟩) | (go_end0; exact ⟨rfl, HX.out⟩)
set_option maxHeartbeats 4000000 in
set_option maxRecDepth 100000 in
theorem chk_push (w : World) (x : List ByteArray) (n : ByteArray) (A : Option Addr) (c : Nat) (l : List S63) (W : World) (h : CkI w x W) (hlen : x.length < 1048576) :
    Calls Tryz.prog 24 #[.agg #[.string n, .bool false, .bool false, .slice A l.length c], .pointer (some ⟨w.heap.size + 1, 0, none⟩)] W (EndE (CkI w) (CkJ w) (some (x ++ [n]))) := by
  have HX := Lib.hid (h.go (below_alloc (Below.refl W.heap.size W) (.cells #[.string n, .bool false, .bool false, .slice A l.length c] 33)))
  obtain ⟨v0, hv, hrow⟩ := h.box
  obtain ⟨A0, c0, rfl, hc0, hcm⟩ := own_slice hrow
  have hltb := hv.lt
  have hv1 := hv.alloc (Obj.cells #[.string n, .bool false, .bool false, .slice A l.length c] 33)
  have hvc := hv.cell
  have hvc1 := hv1.cell
  have hrow1 := hrow.alloc (Obj.cells #[.string n, .bool false, .bool false, .slice A l.length c] 33)
  have hB1 := HX.out.bel
  have hok1 := HX.out.ok
  have hne1 := hok1.not_row (by decide) hrow1
  obtain ⟨i0, hi, hi0, hi1, hi2⟩ := info_parts infoS
  have hbe := h.bel.size
  clear h hrow hv
  go_enter Tryz.func24, Tryz.ntmps24
  go_wp2_with (at_builtin; refine wpList_append_own _ rfl _ _ 37 rfl w.heap.size 9 i0 (.string ByteArray.empty) 1 16 Tryz.underlying37 hi hi0 hi1 hi2 rfl (by decide) _ _ _ rfl (hrow1.alloc _) ⟨W.heap.size + 1, 0, none⟩ 1 1 [.string n] rfl rfl (by simpa using cell_one_new (W.alloc (Obj.cells #[.string n, .bool false, .bool false, .slice A l.length c] 33)) (Value.string n) 9) (fun x hx => by simp at hx; subst hx; rfl) (by unfold maxLen; omega) (by omega) (by simp; omega) ?_; intro v' w1 hown' hgrow _; obtain ⟨g', cap', rfl⟩ := ownsRow_succ hown'; obtain ⟨hv3, hv4, hr4, hk4, hb4⟩ := hv1.appended (by decide) hrow1 hB1.size (Nat.le_succ _) hown' hgrow; have ho3 := (hok1.alloc _).kept hgrow hne1; have HV4 := Lib.hid hv4; have HR4 := Lib.hid hr4; have HB4 := Lib.hid hb4; have HO3 := Lib.hid ho3; clear hown' hgrow hv4 hr4 hk4 hb4 ho3; have hc3 := hv3.cell; have hf3 := hv3.frozen; clear hv3)
  have HI2 := Lib.hid (show CkI w (x ++ [n]) _ from ⟨⟨_, HV4.out, by rw [List.length_append, List.map_append]; exact HR4.out⟩, HO3.out.kept (grownBy_setCell' w1 (w.heap.size + 1) _) (by simp), hB1.trans HB4.out⟩)
  go_wp2
  first | (exact ⟨rfl, rfl, HI2.out⟩) | (refine bodyPost_ret (results_none rfl _ _ _) rfl ?_; exact ⟨rfl, HI2.out⟩) | (go_end0; exact ⟨rfl, HI2.out⟩)
theorem chk_tag (w : World) (x : List ByteArray) (n : ByteArray) (e v : Bool) (A : Option Addr) (c : Nat) (l : List S63) (W : World) (r : Option (List ByteArray)) (hr : chkT x n e v l = some r) (h : CkI w x W) :
    Calls Tryz.prog 24 #[.agg #[.string n, .bool e, .bool v, .slice A l.length c], .pointer (some ⟨w.heap.size + 1, 0, none⟩)] W (EndE (CkI w) (CkJ w) r) := by
  unfold chkT at hr
  cases e with
  | true =>
    rw [if_pos rfl] at hr
    rcases List.eq_nil_or_concat x with rfl | ⟨xs, y, rfl⟩
    · obtain rfl := Option.some.inj hr
      exact chk_none w n v A c l W h
    · rw [List.concat_eq_append] at h hr
      rw [List.getLast?_concat, List.dropLast_concat] at hr
      dsimp only at hr
      by_cases hy : y.toList = n.toList
      · rw [if_pos hy] at hr
        obtain rfl := Option.some.inj hr
        exact chk_pop w xs y n v A c l W h hy
      · rw [if_neg hy] at hr
        obtain rfl := Option.some.inj hr
        exact chk_bad w xs y n v A c l W h hy
  | false =>
    rw [if_neg (by decide)] at hr
    cases v with
    | true =>
      rw [if_pos rfl] at hr
      obtain rfl := Option.some.inj hr
      exact chk_void w x n A c l W h
    | false =>
      rw [if_neg (by decide)] at hr
      split at hr
      · rename_i hx
        obtain rfl := Option.some.inj hr
        exact chk_push w x n A c l W h hx
      · cases hr
end Go.Proofs.YtjcfjgcnkbbgmaaGreatDoor.PA

namespace Go.Proofs.YtjcfjgcnkbbgmaaGreatDoor.PA
open Go.RowKit Go.Proofs.YtjcfjgcnkbbgmaaGreatDoor.Pl Go.Proofs.YtjcfjgcnkbbgmaaGreatDoorW.PrintWords Go.Proofs.YtjcfjgcnkbbgmaaGreatDoorW.PrintLast Go.Proofs.YtjcfjgcnkbbgmaaGreatDoorW.PrintMore
set_option linter.unusedVariables false

theorem catch_wrong (b : Nat) (x : Bool) (W : World) (h : Boxed W b 4 (.bool x)) :
    CallsD Tryz.prog 23 #[.pointer (some ⟨b, 0, none⟩)] (.panicking wrongC) W fun e u' w' =>
      e = .returned (.tuple #[]) ∧ u' = .panicking [{ v := .iface 60 (.agg #[]), recovered := true }] ∧ Boxed w' b 4 (.bool false) ∧ Below b W w' := by
  have hc := h.cell
  have hf := h.frozen
  have hlt := h.lt
  have hc1 := (h.alloc (Obj.cells #[] 60)).cell
  have hf1 := (h.alloc (Obj.cells #[] 60)).frozen
  have HO := Lib.hid (((h.set (.bool false)).alloc (Obj.cells #[] 60)))
  have HB := Lib.hid ((((Below.refl b W).setCell (p := ⟨b, 0, none⟩) (Nat.le_refl _) (.bool false))).alloc (by simpa using Nat.le_of_lt hlt) (Obj.cells #[] 60))
  have hta : ∀ w : World, (Instr.typeAssert (.iface 60 (.agg #[])) 20 60 true).run Tryz.prog w = .ok (.tuple #[.agg #[], .bool true]) w := fun w => by kernel_rfl
  unfold wrongC
  refine callsD_of_wpS Tryz.func23 rfl fun c₀ cs hu => ?_
  apply wpS_seq
  apply wpS_region
  simp [wpOpsS, go_sem, recoverD, hu, Tryz.ntmps23, Exit.thenS]
  refine wpS_of_wp ?_
  simp only [Array.replicate_succ, Array.replicate_zero, List.push_toArray, List.append_toArray, List.nil_append, List.cons_append, List.setIfInBounds_toArray, List.set_cons_succ, List.set_cons_zero]
  go_wp2
  exact ⟨rfl, _, rfl, _, by simp [results, Tryz.results23, go_sem], rfl, rfl, HO.out, HB.out⟩
theorem catch_idle (b : Nat) (W : World) :
    CallsD Tryz.prog 23 #[.pointer (some ⟨b, 0, none⟩)] .returning W fun e u' w' => e = .returned (.tuple #[]) ∧ u' = .returning ∧ w' = W := by
  refine callsD_of_wpS Tryz.func23 rfl fun c₀ cs hu => ?_
  apply wpS_seq
  apply wpS_region
  simp [wpOpsS, go_sem, recoverD, hu, Tryz.ntmps23, Exit.thenS]
  refine wpS_of_wp ?_
  simp only [Array.replicate_succ, Array.replicate_zero, List.push_toArray, List.append_toArray, List.nil_append, List.cons_append, List.setIfInBounds_toArray, List.set_cons_succ, List.set_cons_zero]
  go_wp2
  cases c₀
  simp_all [bodyPostS, results, Tryz.results23]
def chkR : Option (List ByteArray) → Bool
  | none => false
  | some x => x.length == 0
def tags_Check.f (k : Nat) (a0 : ByteArray) : Option Bool := (tags_each.l chkT chkO k k a0 []).map chkR
set_option maxHeartbeats 1000000 in
set_option maxRecDepth 100000 in
theorem check_walk (k : Nat) (a0 : ByteArray) (R : Option (List ByteArray)) (w : World) (hLd : Laid w) (hq : tags_each.l chkT chkO k k a0 [] = some R) :
    Calls Tryz.prog 11 #[.string a0] w fun e w' => e = .returned (.bool (chkR R)) ∧ Below w.heap.size w w' := by
  have hmf : ∀ (fn : Fn) (first cap : Array Value) (w : World), (Instr.makeFunc fn first cap).run Tryz.prog w = .ok (.func fn first cap) w := fun _ _ _ _ => rfl
  have b1 := Boxed.new w 4 (.bool false)
  have b2 := Boxed.new (w.alloc (.cells #[.bool false] 4)) 37 (.slice none 0 0)
  rw [World.size_alloc] at b2
  have HB0 := Lib.hid (((Below.refl w.heap.size w).alloc (Nat.le_refl _) (.cells #[.bool false] 4 (0, 0))).alloc (by simp) (.cells #[.slice none 0 0] 37 (0, 0)))
  have HX0 := Lib.hid (show CkI w [] _ from ⟨⟨_, b2, World.ownsRow_nil _ _ _ _⟩, b1.alloc (.cells #[.slice none 0 0] 37 (0, 0)), HB0.out⟩)
  have HE := Lib.hid (fun W (hW : CkI w [] W) => each_walk chkT chkO (CkI w) (CkJ w) k 24 26 #[.pointer (some ⟨w.heap.size + 1, 0, none⟩)] #[]
    (enters_of Tryz.func24 (by kernel_rfl) rfl) (enters_of Tryz.func26 (by kernel_rfl) rfl)
    (fun x W W' h hb => h.go hb) (fun x W h => hLd.go h.bel)
    (fun x W n e v A c l b r hf hI hR => chk_tag w x n e v A c l W r hf hI)
    (fun x W b r hf h0 h1 hI => chk_byte w x b W r hf hI)
    a0 [] R k hq W hW)
  clear hq hLd b1 b2
  go_enter_defers Tryz.func11, Tryz.ntmps11
  go_wp2_with fail
  refine (HE.out _ HX0.out).mono ?_
  intro e w1 he
  cases R with
  | none =>
    obtain ⟨ch, rfl, hJ⟩ := he
    obtain ⟨rfl, hok, hbel⟩ := hJ
    go_wp2
    refine leaves_cons (f := 23) (args := #[.pointer (some ⟨w.heap.size, 0, none⟩)]) (by simp) (by simp [go_sem]) ?_
    refine (catch_wrong w.heap.size false w1 hok).mono ?_
    rintro e u' w2 ⟨rfl, rfl, hB, hb⟩
    have hc := hB.cell
    have HB := Lib.hid (hbel.trans hb)
    clear hb hbel hok hB
    simp [Leaves, settle, results, Tryz.results11, go_sem, chkR, hc]
    exact HB.out
  | some x =>
    obtain ⟨rfl, hX⟩ := he
    obtain ⟨v, hv, hrow⟩ := hX.box
    obtain ⟨A0, c0, rfl, hc0, hcm⟩ := own_slice hrow
    have hvc := hv.cell
    have hoc := hX.ok.cell
    have hof := hX.ok.frozen
    have hoc2 := (hX.ok.set (.bool ((x.length : Int) == 0))).cell
    have HB := Lib.hid (hX.bel.setCell (p := ⟨w.heap.size, 0, none⟩) (Nat.le_refl _) (.bool ((x.length : Int) == 0)))
    have hR : chkR (some x) = ((x.length : Int) == 0) := by
      show (x.length == 0) = _
      cases x with
      | nil => rfl
      | cons a b => simp; omega
    clear hX hv hrow
    go_wp2
    refine leaves_cons (f := 23) (args := #[.pointer (some ⟨w.heap.size, 0, none⟩)]) (by simp) (by simp [go_sem]) ?_
    refine (catch_idle w.heap.size _).mono ?_
    rintro e u' w2 ⟨rfl, rfl, rfl⟩
    rw [hR]
    clear hR
    simp [Leaves, settle, results, Tryz.results11, go_sem, hoc2]
    exact HB.out
theorem tags_Check.calls (k : Nat) (a0 : ByteArray) (r : Bool) (w : World) (hLd : Laid w) (h : tags_Check.f k a0 = some r) :
    Calls Tryz.prog 11 #[.string a0] w fun e w' => e = .returned (.bool r) ∧ Below w.heap.size w w' := by
  obtain ⟨R, hq, rfl⟩ := Option.map_eq_some_iff.1 h
  exact check_walk k a0 R w hLd hq
theorem tags_Check.mono : ∀ a0 k, LeO (tags_Check.f k a0) (tags_Check.f (k + 1) a0) := by
  intro a0 k r h
  obtain ⟨q, hq, h⟩ := Option.map_eq_some_iff.1 h
  exact Option.map_eq_some_iff.2 ⟨q, tags_each.mono_l _ _ _ _ _ _ _ hq, h⟩
end Go.Proofs.YtjcfjgcnkbbgmaaGreatDoor.PA

namespace Go.Proofs.YtjcfjgcnkbbgmaaGreatDoor.PA
open Go.RowKit Go.Proofs.YtjcfjgcnkbbgmaaGreatDoor.Pl Go.Proofs.YtjcfjgcnkbbgmaaGreatDoorW.PrintWords Go.Proofs.YtjcfjgcnkbbgmaaGreatDoorW.PrintLast Go.Proofs.YtjcfjgcnkbbgmaaGreatDoorW.PrintMore
set_option linter.unusedVariables false

/-- The writer in block b, made behind w0: its mask m, its text X. -/
structure Wt (w0 : World) (b : Nat) (m : Int) (X : List UInt8) (w : World) : Prop where
  bel : Below w0.heap.size w0 w
  le : w0.heap.size ≤ b
  at' : ∃ p v, (p = .pointer none ∨ p = .pointer (some ⟨b, 0, none⟩)) ∧ w.heap[b]? = some (.cells #[p, v, .int .i64 m] 53 (0, 0)) ∧ w.ownsRow w0.heap.size 5 1 v X.length (Lib.byteCells X)
/-- .. used. -/
structure Wu (w0 : World) (b : Nat) (m : Int) (X : List UInt8) (v : Value) (w : World) : Prop where
  bel : Below w0.heap.size w0 w
  le : w0.heap.size ≤ b
  blk : w.heap[b]? = some (.cells #[.pointer (some ⟨b, 0, none⟩), v, .int .i64 m] 53 (0, 0))
  own : w.ownsRow w0.heap.size 5 1 v X.length (Lib.byteCells X)
/-- What a method that writes T leaves. -/
structure Wrote (w0 : World) (b : Nat) (m : Int) (X T : List UInt8) (w : World) (e : Ending) (w' : World) : Prop where
  ret : e = .returned (.tuple #[])
  wt : Wt w0 b m (X ++ T) w'
  oth : Lib.OthersKept 5 (some b) w w'
section
variable {w0 w w' w'' : World} {b : Nat} {m : Int} {X T U : List UInt8} {v : Value}
theorem Wu.wt (h : Wu w0 b m X v w) : Wt w0 b m X w := ⟨h.bel, h.le, _, v, .inr rfl, h.blk, h.own⟩
theorem Wt.lt (h : Wt w0 b m X w) : b < w.heap.size := by
  obtain ⟨p, v, _, hk, _⟩ := h.at'
  exact (Array.getElem?_eq_some_iff.1 hk).1
theorem Wt.step (h : Wt w0 b m X w) (hb : Below w.heap.size w w') : Wt w0 b m X w' := by
  obtain ⟨p, v, hp, hk, ho⟩ := h.at'
  exact ⟨below_step h.bel hb, h.le, p, v, hp, (hb.block b h.lt).trans hk, own_move ho fun k hk => hb.block k (ho.lt k hk).2⟩
theorem Wt.mask (h : Wt w0 b m X w) : w.cell? ⟨b, 2, none⟩ = some (.int .i64 m) := by
  obtain ⟨p, v, _, hk, _⟩ := h.at'
  rw [Lib.cell_of_heap hk]
  rfl
theorem oth_step (hb : Below w.heap.size w w') : Lib.OthersKept 5 (some b) w w' := fun k o hk _ _ => (hb.block k (Array.getElem?_eq_some_iff.1 hk).1).trans hk
theorem Wrote.more (h : Wt w0 b m (X ++ T) w') (ho : Lib.OthersKept 5 (some b) w w') {e : Ending} (k : Wrote w0 b m (X ++ T) U w' e w'') : Wrote w0 b m X (T ++ U) w e w'' := ⟨k.ret, by have := k.wt; rwa [List.append_assoc] at this, ho.trans k.oth⟩
end
theorem lies_w : liesAt Tryz.prog Tryz.prog.depth 53 (3 / Tryz.prog.cellsOf 53) 0 43 1 = true := by kernel_rfl
theorem info_b : (Tryz.prog.info? 43).map (·.size) = some 2 := by kernel_rfl
theorem info_u8 : (Tryz.prog.info? 5).map (fun i => (i.zero, i.size, i.bytes)) = some (some (.int .u8 0), 1, 1) := by kernel_rfl
set_option maxHeartbeats 1000000 in
set_option maxRecDepth 100000 in
theorem cc_w {w0 : World} {b : Nat} {m : Int} {X : List UInt8} {w : World} (h : Wt w0 b m X w) :
    Calls Tryz.prog 29 #[.pointer (some ⟨b, 0, none⟩)] w fun e w' => e = .returned (.tuple #[]) ∧ (∃ v, Wu w0 b m X v w') ∧ Lib.OthersKept 5 (some b) w w' := by
  obtain ⟨p, v, hp, hk, ho⟩ := h.at'
  obtain ⟨j, hj, hjs⟩ := Option.map_eq_some_iff.1 info_b
  have h0 : w.cell? ⟨b, 0, none⟩ = some p := by rw [Lib.cell_of_heap hk]; rfl
  have hsh : w.shape? b = some (53, 3) := by simp [World.shape?, hk]
  have hfz : w.frozen? ⟨b, 0, none⟩ = false := Lib.frozen_of_heap hk 0
  have hne := Lib.ownBlock_ne ho hk (by decide)
  rcases hp with rfl | rfl
  · have HF := Aside0.mk (show Wu w0 b m X v (w.setCell ⟨b, 0, none⟩ (.pointer (some ⟨b, 0, none⟩))) from
      ⟨h.bel.setCell (p := ⟨b, 0, none⟩) h.le _, h.le, by simp [World.setCell, Array.getElem?_modify, hk], ho.kept (row := some b) ⟨rfl, rfl, rfl, by simp [World.setCell], fun k _ hk => Below.heap_setCell _ _ _ _ (fun e => hk (by simp [e]))⟩ (Or.inr hne)⟩)
    clear h hk ho hne
    go_enter Tryz.func29, Tryz.ntmps29
    go_wp2
    rw [Lib.run_to_unsafe w ⟨b, 0, none⟩ Tryz.underlying40 Tryz.underlying73 hj (by rw [hjs]; decide) hsh (Nat.zero_lt_succ 2)]
    simp only [Result.andThen]
    rw [Oper.upon_value]
    go_wp2
    rw [run_callFunc_extern Tryz.func40 (by kernel_rfl) (by kernel_rfl) (by kernel_rfl) (e := Extern.AbiNoEscape.same) (by kernel_rfl)]
    rw [Lib.run_noEscape]
    simp only [Result.andThen]
    rw [Oper.upon_value]
    go_wp2
    rw [Lib.run_from_unsafe w ⟨b, 0, none⟩ Tryz.underlying73 Tryz.underlying40 hj hsh lies_w]
    simp only [Result.andThen]
    rw [Oper.upon_value]
    go_wp2
    go_end0
    exact ⟨rfl, ⟨v, HF.out⟩, (Lib.OthersKept.refl _ _ w).setCell ⟨b, 0, none⟩ rfl _⟩
  · have HF := Aside0.mk (show Wu w0 b m X v w from ⟨h.bel, h.le, hk, ho⟩)
    have hnq := Lib.run_neq_ptr_same (P := Tryz.prog) (w := w) (tp := 40) (te := 43) (j := j) ⟨b, 0, none⟩ Tryz.underlying40 hj
    clear h hk ho hne
    go_enter Tryz.func29, Tryz.ntmps29
    go_wp2
    go_end0
    exact ⟨rfl, ⟨v, HF.out⟩, Lib.OthersKept.refl _ _ w⟩
set_option maxHeartbeats 2000000 in
set_option maxRecDepth 100000 in
theorem wstr {w0 : World} {b : Nat} {m : Int} {X : List UInt8} {w : World} (h : Wt w0 b m X w) (s : ByteArray) (hl : X.length + s.size ≤ 70368744177664) :
    Calls Tryz.prog 41 #[.pointer (some ⟨b, 0, none⟩), .string s] w fun e w' => e = .returned (.tuple #[.int .i64 s.size, .nilIface]) ∧ Wt w0 b m (X ++ s.data.toList) w' ∧ Lib.OthersKept 5 (some b) w w' := by
  obtain ⟨i0, hi, hz0, hz1, hz2⟩ := info_parts info_u8
  have HC := Aside0.mk (cc_w h)
  clear h
  go_enter Tryz.func41, Tryz.ntmps41
  go_wp2_with fail
  refine HC.out.mono ?_
  rintro e w1 ⟨rfl, ⟨v, hu⟩, hk1⟩
  have c1 : w1.cell? ⟨b, 1, none⟩ = some v := by rw [Lib.cell_of_heap hu.blk]; rfl
  have HU := Aside0.mk hu
  have HK1 := Aside0.mk hk1
  have HOW := Aside0.mk hu.own
  have hbs : w0.heap.size ≤ w1.heap.size := hu.bel.size
  clear hu hk1 HC
  go_wp2_with (at_builtin; refine Lib.wpList_append_own_string _ rfl _ _ 41 9 rfl w0.heap.size 5 i0 Tryz.underlying41 Tryz.underlying9 hi hz0 hz1 hz2 _ _ _ rfl HOW.out s rfl ?c3 ?c4 ?c5 ?_)
  case c3 => unfold maxLen; omega
  case c4 => omega
  case c5 => exact hbs
  intro v' w2 hown' hgrow _
  have hne := Lib.ownBlock_ne HOW.out HU.out.blk (by decide)
  have hlt : b < w1.heap.size := (Array.getElem?_eq_some_iff.1 HU.out.blk).1
  have hb2 : w2.heap[b]? = some (.cells #[.pointer (some ⟨b, 0, none⟩), v, .int .i64 m] 53 (0, 0)) := by
    rw [hgrow.block b hlt (fun e => hne e.symm)]
    exact HU.out.blk
  have hne' := Lib.ownBlock_ne hown' hb2 (by decide)
  have f1 : w2.frozen? ⟨b, 1, none⟩ = false := Lib.frozen_of_heap hb2 1
  have d1 : w2.cell? ⟨b, 1, none⟩ = some v := by rw [Lib.cell_of_heap hb2]; rfl
  have HF := Aside0.mk (show Wt w0 b m (X ++ s.data.toList) (w2.setCell ⟨b, 1, none⟩ v') from
    ⟨(HU.out.bel.grown hgrow hbs (fun k hk => (HOW.out.lt k hk).1)).setCell (p := ⟨b, 1, none⟩) HU.out.le _, HU.out.le, _, v', .inr rfl, by simp [World.setCell, Array.getElem?_modify, hb2], by
      have h1 := hown'.kept (row := some b) (w' := w2.setCell ⟨b, 1, none⟩ v') ⟨rfl, rfl, rfl, by simp [World.setCell], fun k _ hk => Below.heap_setCell _ _ _ _ (fun e => hk (by simp [e]))⟩ (Or.inr hne')
      rw [Lib.strCells_eq, ← Lib.byteCells_append] at h1
      rw [List.length_append, Array.length_toList]
      exact h1⟩)
  have HO := Aside0.mk (show Lib.OthersKept 5 (some b) w (w2.setCell ⟨b, 1, none⟩ v') from (HK1.out.grown hgrow (fun g hg => by
    obtain ⟨c, hc⟩ := own_typed HOW.out g hg
    exact ⟨c, _, hc⟩)).setCell ⟨b, 1, none⟩ rfl _)
  obtain ⟨ao, n', cap, rfl⟩ : ∃ ao n' cap, v' = .slice ao n' cap := by
    rcases hown'.2 with ⟨hv, _⟩ | ⟨g, cap, cur, hv, _⟩
    · exact ⟨_, _, _, hv⟩
    · exact ⟨_, _, _, hv⟩
  clear hne hne' hb2 hlt hown' hgrow
  go_wp2
  go_ret2
  exact ⟨rfl, HF.out, HO.out⟩
/-- Texts in line. -/
def cat (ss : List ByteArray) : List UInt8 := ss.flatMap fun s => s.data.toList
set_option maxHeartbeats 2000000 in
set_option maxRecDepth 100000 in
theorem put_w {w0 : World} {b : Nat} {m : Int} {X : List UInt8} {w : World} (h : Wt w0 b m X w) (g : Nat) (ss : List ByteArray) (hg : w.heap[g]? = some (.cells (ss.map Value.string).toArray 9 (0, 0))) (hl : X.length + (cat ss).length ≤ 70368744177664) (hs : ss.length ≤ 100) :
    Calls Tryz.prog 34 #[.pointer (some ⟨b, 0, none⟩), .slice (some ⟨g, 0, none⟩) ss.length ss.length] w (Wrote w0 b m X (cat ss) w) := by
  have HW := Aside0.mk h
  have HG := Aside0.mk hg
  have hgb : some g ≠ some b := fun e => by
    obtain ⟨p, v, _, hk, _⟩ := h.at'
    injection e with e
    rw [e, hk] at hg
    injection hg with hg
    injection hg with _ hg
    exact absurd hg (by decide)
  have HGB := Aside0.mk hgb
  obtain ⟨R, hR⟩ : ∃ R, Wrote w0 b m X (cat ss) w = R := ⟨_, rfl⟩
  have HR := Aside0.mk hR
  rw [hR]
  clear h hg hgb hR
  go_enter Tryz.func34, Tryz.ntmps34
  go_wp2_with fail
  go_loopw [5, 8] (fun v5 v8 wr => ∃ i : Nat, v8 = .int .i64 (i : Int) ∧ i ≤ ss.length ∧ Aside0 (Wt w0 b m (X ++ cat (ss.take i)) wr) ∧ Aside0 (Lib.OthersKept 5 (some b) w wr)) (fun _ v8 _ => ss.length - (intOf v8).toNat)
  case atStart => exact ⟨0, rfl, by omega, ⟨by simpa [cat] using HW.out⟩, ⟨Lib.OthersKept.refl _ _ _⟩⟩
  case round =>
    obtain ⟨i, rfl, hi, HWr, HO⟩ := hrel
    by_cases hlt : i < ss.length
    · have q1 : decide ((i : Int) < (ss.length : Int)) = true := decide_eq_true (by omega)
      have p0 := eq_true (show 0 ≤ (i : Int) from by omega)
      have p1 := eq_true (show (i : Int) < (ss.length : Int) from by omega)
      have hgr : wr.heap[g]? = some (.cells (ss.map Value.string).toArray 9 (0, 0)) := HO.out g _ HG.out HGB.out (fun c fz e => by injection e with _ e; exact absurd e (by decide))
      have x0 : wr.cell? ⟨g, i, none⟩ = some (.string ss[i]) := by rw [Lib.cell_of_heap hgr]; simp [hlt]
      have hsp : cat (ss.take (i + 1)) = cat (ss.take i) ++ ss[i].data.toList := by unfold cat; rw [List.take_add_one, List.getElem?_eq_getElem hlt, Option.toList_some, List.flatMap_append, List.flatMap_singleton]
      have hll : (cat (ss.take (i + 1))).length ≤ (cat ss).length := by
        have e : cat ss = cat (ss.take (i + 1)) ++ cat (ss.drop (i + 1)) := by unfold cat; rw [← List.flatMap_append, List.take_append_drop]
        rw [e, List.length_append]
        omega
      have hbd : X.length + (cat (ss.take i)).length + (ss[i]).size ≤ 70368744177664 := by
        rw [hsp, List.length_append] at hll
        have : (ss[i]).data.toList.length = (ss[i]).size := by rw [Array.length_toList]; rfl
        omega
      have HC := Aside0.mk (wstr HWr.out ss[i] (by rw [List.length_append]; exact hbd))
      have HSP := Aside0.mk hsp
      clear hgr hsp hll hbd HWr
      go_wp2_with fail
      refine HC.out.mono ?_
      rintro e w2 ⟨rfl, hw2, ho2⟩
      have HW2 := Aside0.mk (show Wt w0 b m (X ++ cat (ss.take (i + 1))) w2 from by rw [HSP.out, ← List.append_assoc]; exact hw2)
      have HO2 := Aside0.mk (HO.out.trans ho2)
      clear hw2 ho2 HC x0
      go_wp2
      go_roundw
      case rel => exact ⟨i + 1, by simp, by omega, HW2, HO2⟩
      case measure => simp [intOf]; omega
    · have q1 : decide ((i : Int) < (ss.length : Int)) = false := decide_eq_false (by omega)
      have htk : ss.take i = ss := List.take_of_length_le (by omega)
      rw [htk] at HWr
      clear htk
      go_wp2
      go_end0
      rw [← HR.out]
      exact ⟨rfl, HWr.out, HO.out⟩
end Go.Proofs.YtjcfjgcnkbbgmaaGreatDoor.PA

namespace Go.Proofs.YtjcfjgcnkbbgmaaGreatDoor.PA
open Go.RowKit Go.Proofs.YtjcfjgcnkbbgmaaGreatDoor.Pl Go.Proofs.YtjcfjgcnkbbgmaaGreatDoorW.PrintWords Go.Proofs.YtjcfjgcnkbbgmaaGreatDoorW.PrintLast Go.Proofs.YtjcfjgcnkbbgmaaGreatDoorW.PrintMore
set_option linter.unusedVariables false

theorem cells_u8 : Tryz.prog.cellsOf 5 = 1 := by kernel_rfl
set_option maxHeartbeats 2000000 in
set_option maxRecDepth 100000 in
theorem wout_some {w0 : World} {b : Nat} {m : Int} {X : List UInt8} {w : World} (h : Wt w0 b m X w) (h0 : X ≠ []) :
    Calls Tryz.prog 18 #[.pointer (some ⟨b, 0, none⟩)] w fun e w' => e = .returned (.string (B X)) ∧ Below w0.heap.size w0 w' := by
  obtain ⟨p, v, _, hk, hown⟩ := h.at'
  have hl0 : X.length ≠ 0 := by simpa using h0
  obtain ⟨g, cap, cur, rfl, hbg, hg, hnc, hcm, hcs, htake⟩ : ∃ g cap cur, v = .slice (some ⟨g, 0, none⟩) X.length cap ∧ w0.heap.size ≤ g ∧ w.heap[g]? = some (.cells cur 5 (0, 0)) ∧ X.length ≤ cap ∧ cap ≤ maxLen ∧ cur.size = cap * 1 ∧ cur.toList.take (X.length * 1) = Lib.byteCells X := by
    rcases hown.2 with ⟨_, hz⟩ | ⟨g, cap, cur, hv, r⟩
    · exact absurd hz hl0
    · exact ⟨g, cap, cur, hv, r⟩
  have c1 : w.drew.cell? ⟨b, 1, none⟩ = some (.slice (some ⟨g, 0, none⟩) X.length cap) := by
    have : w.drew.heap[b]? = some (.cells #[p, .slice (some ⟨g, 0, none⟩) X.length cap, .int .i64 m] 53 (0, 0)) := hk
    rw [Lib.cell_of_heap this]; rfl
  have hSD : (Builtin.unsafeSliceData_ #[41] 64 #[.slice (some ⟨g, 0, none⟩) X.length cap]).run Tryz.prog w.drew = .ok (.pointer (some ⟨g, 0, none⟩)) w.drew :=
    Lib.run_unsafeSliceData_row _ _ _ _ _ _ (by omega)
  have hUS : (Builtin.unsafeString_ #[64, 3] 9 #[.pointer (some ⟨g, 0, none⟩), .int .i64 X.length]).run Tryz.prog w.drew = .ok (.string ⟨X.toArray⟩) (w.drew.freeze ⟨g, 0, none⟩ X.length) := by
    refine Lib.run_unsafeString_row w.drew 64 3 9 5 Tryz.underlying64 cells_u8 g cur.size (by have hg' : w.drew.heap[g]? = some (.cells cur 5 (0, 0)) := hg; simp [World.shape?, hg']) X h0 (by omega) (by unfold maxLen at hcm; omega) ?_
    intro j x hx
    have := hown.cells (g := g) rfl j (.int .u8 x.toNat) (by simp [Lib.byteCells, hx])
    exact this
  have HB := Aside0.mk (Lib.below_freeze (Below.drew h.bel) (p := ⟨g, 0, none⟩) hbg X.length)
  clear h hk hown htake hg hbg
  have mixed : Tryz.prog.follows Departure.mixedOrders = true := by kernel_rfl
  go_enter Tryz.func18, Tryz.ntmps18
  go_wp2
  go_region_o
  all_goals (go_wp2; go_ret; exact ⟨rfl, HB.out⟩)
set_option maxHeartbeats 2000000 in
set_option maxRecDepth 100000 in
theorem wout_none {w0 : World} {b : Nat} {m : Int} {w : World} (h : Wt w0 b m [] w) :
    Calls Tryz.prog 18 #[.pointer (some ⟨b, 0, none⟩)] w fun e w' => e = .returned (.string (B [])) ∧ Below w0.heap.size w0 w' := by
  obtain ⟨p, v, _, hk, hown⟩ := h.at'
  have hUS : ∀ (W : World) (q : Option Addr), (Builtin.unsafeString_ #[64, 3] 9 #[.pointer q, .int .i64 0]).run Tryz.prog W = .ok (.string .empty) W := fun W q => Lib.run_unsafeString_none W _ _ _ q
  have hlt := h.lt
  have hbs := h.bel.size
  have HBL := Aside0.mk h.bel
  rcases hown.2 with ⟨rfl, _⟩ | ⟨g, cap, cur, rfl, hbg, hg, -⟩
  · have c1 : w.drew.cell? ⟨b, 1, none⟩ = some (.slice none 0 0) := by
      have : w.drew.heap[b]? = some (.cells #[p, .slice none 0 0, .int .i64 m] 53 (0, 0)) := hk
      rw [Lib.cell_of_heap this]; rfl
    have hSD : (Builtin.unsafeSliceData_ #[41] 64 #[.slice none 0 0]).run Tryz.prog w.drew = .ok (.pointer none) w.drew := rfl
    clear h hk hown
    have mixed : Tryz.prog.follows Departure.mixedOrders = true := by kernel_rfl
    go_enter Tryz.func18, Tryz.ntmps18
    go_wp2
    go_region_o
    all_goals (go_wp2; go_ret; exact ⟨rfl, Below.drew HBL.out⟩)
  · by_cases hc0 : cap = 0
    · subst hc0
      have c1 : w.drew.cell? ⟨b, 1, none⟩ = some (.slice (some ⟨g, 0, none⟩) 0 0) := by
        have : w.drew.heap[b]? = some (.cells #[p, .slice (some ⟨g, 0, none⟩) 0 0, .int .i64 m] 53 (0, 0)) := hk
        rw [Lib.cell_of_heap this]; rfl
      have hSD : (Builtin.unsafeSliceData_ #[41] 64 #[.slice (some ⟨g, 0, none⟩) 0 0]).run Tryz.prog w.drew = .ok (.pointer (some ⟨w.drew.heap.size, 0, none⟩)) (w.drew.alloc (.view ⟨g, 0, none⟩ 5)) :=
        Lib.run_unsafeSliceData_zero w.drew _ _ 5 Tryz.underlying64 ⟨g, 0, none⟩ 0 (5, cur.size) (by have hg' : w.drew.heap[g]? = some (.cells cur 5 (0, 0)) := hg; simp [World.shape?, hg'])
      have c2 : (w.drew.alloc (.view ⟨g, 0, none⟩ 5)).cell? ⟨b, 1, none⟩ = some (.slice (some ⟨g, 0, none⟩) 0 0) := by
        have : (w.drew.alloc (.view ⟨g, 0, none⟩ 5)).heap[b]? = _ := (Lib.alloc_old w.drew _ b hlt).trans hk
        rw [Lib.cell_of_heap this]; rfl
      have c3 : (w.alloc (.view ⟨g, 0, none⟩ 5)).drew.cell? ⟨b, 1, none⟩ = some (.slice (some ⟨g, 0, none⟩) 0 0) := c2
      have c0 : w.cell? ⟨b, 1, none⟩ = some (.slice (some ⟨g, 0, none⟩) 0 0) := c1
      clear h hk hown hg
      have mixed : Tryz.prog.follows Departure.mixedOrders = true := by kernel_rfl
      go_enter Tryz.func18, Tryz.ntmps18
      go_wp2
      go_region_o
      all_goals (go_wp2; go_ret; exact ⟨rfl, (Below.drew HBL.out).alloc hbs _⟩)
    · have c1 : w.drew.cell? ⟨b, 1, none⟩ = some (.slice (some ⟨g, 0, none⟩) 0 cap) := by
        have : w.drew.heap[b]? = some (.cells #[p, .slice (some ⟨g, 0, none⟩) 0 cap, .int .i64 m] 53 (0, 0)) := hk
        rw [Lib.cell_of_heap this]; rfl
      have hSD : (Builtin.unsafeSliceData_ #[41] 64 #[.slice (some ⟨g, 0, none⟩) 0 cap]).run Tryz.prog w.drew = .ok (.pointer (some ⟨g, 0, none⟩)) w.drew :=
        Lib.run_unsafeSliceData_row _ _ _ _ _ _ hc0
      clear hc0 h hk hown hg
      have mixed : Tryz.prog.follows Departure.mixedOrders = true := by kernel_rfl
      go_enter Tryz.func18, Tryz.ntmps18
      go_wp2
      go_region_o
      all_goals (go_wp2; go_ret; exact ⟨rfl, Below.drew HBL.out⟩)
theorem wout {w0 : World} {b : Nat} {m : Int} {X : List UInt8} {w : World} (h : Wt w0 b m X w) :
    Calls Tryz.prog 18 #[.pointer (some ⟨b, 0, none⟩)] w fun e w' => e = .returned (.string (B X)) ∧ Below w0.heap.size w0 w' := by
  cases X with
  | nil => exact wout_none h
  | cons x r => exact wout_some h (by simp)
end Go.Proofs.YtjcfjgcnkbbgmaaGreatDoor.PA

namespace Go.Proofs.YtjcfjgcnkbbgmaaGreatDoor.Pl
open Go.RowKit Go.Proofs.YtjcfjgcnkbbgmaaGreatDoorW.PrintWords

/-! #### HTML -/
/-- A byte as it stands in HTML. -/
def esc (x : UInt8) : List UInt8 := if x = 38 then [38, 97, 109, 112, 59] else if x = 60 then [38, 108, 116, 59] else if x = 62 then [38, 103, 116, 59] else if x = 34 then [38, 113, 117, 111, 116, 59] else [x]
/-- A text as it stands in HTML. -/
def htm (l : List UInt8) : List UInt8 := l.flatMap esc
theorem htm_nil : htm [] = [] := rfl
theorem htm_cons (x : UInt8) (l : List UInt8) : htm (x :: l) = esc x ++ htm l := by unfold htm; rw [List.flatMap_cons]
theorem htm_append (a b : List UInt8) : htm (a ++ b) = htm a ++ htm b := by unfold htm; rw [List.flatMap_append]
theorem esc_len (x : UInt8) : 1 ≤ (esc x).length ∧ (esc x).length ≤ 6 := by
  unfold esc
  repeat' split
  all_goals simp
theorem htm_len : ∀ l : List UInt8, l.length ≤ (htm l).length ∧ (htm l).length ≤ 6 * l.length
  | [] => by simp [htm]
  | x :: l => by
    have h1 := htm_len l
    have h2 := esc_len x
    rw [htm_cons, List.length_append, List.length_cons]
    omega
/-! #### an address -/
/-- Does a byte stand for itself in an address? -/
def pln (x : UInt8) : Bool := (decide (48 ≤ x.toNat) && decide (x.toNat ≤ 57)) || (decide (97 ≤ x.toNat) && decide (x.toNat ≤ 122)) || (decide (65 ≤ x.toNat) && decide (x.toNat ≤ 90)) || ([33, 35, 36, 37, 40, 41, 42, 43, 44, 45, 46, 47, 58, 59, 61, 63, 64, 95, 126] : List UInt8).contains x
/-- A digit of base 16. -/
def hxd16 (n : Nat) : UInt8 := if n < 10 then UInt8.ofNat (48 + n) else UInt8.ofNat (55 + n)
/-- A byte as it stands in an address. -/
def adr (x : UInt8) : List UInt8 := if x = 38 then [38, 97, 109, 112, 59] else if x = 39 then [38, 35, 51, 57, 59] else if pln x = true then [x] else [37, hxd16 (x.toNat / 16), hxd16 (x.toNat % 16)]
/-- A text as an address. -/
def hrf (l : List UInt8) : List UInt8 := l.flatMap adr
theorem hrf_cons (x : UInt8) (l : List UInt8) : hrf (x :: l) = adr x ++ hrf l := by unfold hrf; rw [List.flatMap_cons]
theorem hrf_append (a b : List UInt8) : hrf (a ++ b) = hrf a ++ hrf b := by unfold hrf; rw [List.flatMap_append]
theorem adr_len (x : UInt8) : 1 ≤ (adr x).length ∧ (adr x).length ≤ 6 := by
  unfold adr
  repeat' split
  all_goals simp
theorem hrf_len : ∀ l : List UInt8, l.length ≤ (hrf l).length ∧ (hrf l).length ≤ 6 * l.length
  | [] => by simp [hrf]
  | x :: l => by
    have h1 := hrf_len l
    have h2 := adr_len x
    rw [hrf_cons, List.length_append, List.length_cons]
    omega
/-- Is a byte a sign of HTML? -/
def isS (x : UInt8) : Bool := decide (x = 38) || decide (x = 60) || decide (x = 62) || decide (x = 34)
theorem esc_no (x : UInt8) (h : isS x = false) : esc x = [x] := by
  unfold isS at h
  simp only [Bool.or_eq_false_iff, decide_eq_false_iff_not] at h
  unfold esc
  rw [if_neg h.1.1.1, if_neg h.1.1.2, if_neg h.1.2, if_neg h.2]
theorem htm_no : ∀ l : List UInt8, l.any isS = false → htm l = l
  | [], _ => rfl
  | x :: l, h => by
    rw [List.any_cons, Bool.or_eq_false_iff] at h
    rw [htm_cons, esc_no x h.1, htm_no l h.2]
    rfl
theorem htm_count : ∀ l : List UInt8, (htm l).length = l.length + (l.count 34 * 5 + l.count 62 * 3 + l.count 60 * 3 + l.count 38 * 4)
  | [] => rfl
  | x :: l => by
    have ih := htm_count l
    rw [htm_cons, List.length_append, ih, List.length_cons, List.count_cons, List.count_cons, List.count_cons, List.count_cons]
    unfold esc
    by_cases h1 : x = 38
    · subst h1; simp; omega
    · by_cases h2 : x = 60
      · subst h2; simp; omega
      · by_cases h3 : x = 62
        · subst h3; simp; omega
        · by_cases h4 : x = 34
          · subst h4; simp; omega
          · simp [h1, h2, h3, h4]; omega
theorem any_count : ∀ l : List UInt8, l.any isS = decide (0 < l.count 34 + l.count 62 + l.count 60 + l.count 38)
  | [] => rfl
  | x :: l => by
    rw [List.any_cons, any_count l, List.count_cons, List.count_cons, List.count_cons, List.count_cons]
    unfold isS
    by_cases h1 : x = 38
    · subst h1; simp; omega
    · by_cases h2 : x = 60
      · subst h2; simp; omega
      · by_cases h3 : x = 62
        · subst h3; simp; omega
        · by_cases h4 : x = 34
          · subst h4; simp; omega
          · simp [h1, h2, h3, h4]
theorem htm_take (l : List UInt8) (k : Nat) (h : k < l.length) : htm (l.take (k + 1)) = htm (l.take k) ++ esc l[k] := by
  rw [List.take_succ_eq_append_getElem h, htm_append]
  congr 1
  simp [htm]
theorem htm_take_lt (l : List UInt8) (k : Nat) : (htm (l.take k)).length + (l.length - k) ≤ (htm l).length := by
  have e : htm l = htm (l.take k) ++ htm (l.drop k) := by rw [← htm_append, List.take_append_drop]
  have h2 := (htm_len (l.drop k)).1
  rw [List.length_drop] at h2
  rw [e, List.length_append]
  omega
end Go.Proofs.YtjcfjgcnkbbgmaaGreatDoor.Pl

namespace Go.Proofs.YtjcfjgcnkbbgmaaGreatDoor.Pl
open Go.RowKit Go.Proofs.YtjcfjgcnkbbgmaaGreatDoor.PA
set_option linter.unusedVariables false

abbrev Nd := S26
/-- An attribute. -/
def atr (n v : List UInt8) : List UInt8 := if v = [] then [] else [32] ++ n ++ [61, 34] ++ v ++ [34]
/-- A part in a tag. -/
def tagd (tag attrs body : List UInt8) : List UInt8 := [60] ++ tag ++ attrs ++ [62] ++ (body ++ ([60, 47] ++ tag ++ [62]))
def idA (n : Int) : List UInt8 := [102, 110, 45] ++ Lib.itoa (max n 1)
def idB (n m : Int) : List UInt8 := [102, 110, 114, 101, 102, 45] ++ Lib.itoa (max n 1) ++ (if 1 < m then [45] ++ Lib.itoa m else [])
def refT (n m : Int) : List UInt8 := [60, 115, 117, 112, 32, 99, 108, 97, 115, 115, 61, 34, 102, 111, 111, 116, 110, 111, 116, 101, 45, 114, 101, 102, 34, 62, 60, 97, 32, 104, 114, 101, 102, 61, 34, 35] ++ idA n ++ [34, 32, 105, 100, 61, 34] ++ idB n m ++ [34, 62] ++ Lib.itoa (max n 1) ++ [60, 47, 97, 62, 60, 47, 115, 117, 112, 62]
/-- The names that are filtered. -/
def bads : List (List UInt8) := [[116, 105, 116, 108, 101], [116, 101, 120, 116, 97, 114, 101, 97], [115, 116, 121, 108, 101], [120, 109, 112], [105, 102, 114, 97, 109, 101], [110, 111, 101, 109, 98, 101, 100], [110, 111, 102, 114, 97, 109, 101, 115], [115, 99, 114, 105, 112, 116], [112, 108, 97, 105, 110, 116, 101, 120, 116]]
def lwr (l : List UInt8) : List UInt8 := l.map fun x => if 65 ≤ x.toNat ∧ x.toNat ≤ 90 then x + 32 else x
def isW (x : UInt8) : Bool := x = 32 || x = 9 || x = 10 || x = 47 || x = 62
/-- Does a tag that is filtered begin, behind a smaller-than sign? -/
def bad (l : List UInt8) : Bool := bads.contains (lwr ((if l.head? = some 47 then l.tail else l).takeWhile fun x => !isW x))
def flt : List UInt8 → List UInt8
  | [] => []
  | x :: r => (if x = 60 ∧ bad r = true then [38, 108, 116, 59] else [x]) ++ flt r
def rawT (m : Int) (l : List UInt8) : List UInt8 := if bits .and .i64 m 16 = 0 then l else flt l
def boxT (fl : Bool) : List UInt8 := [60, 105, 110, 112, 117, 116, 32, 116, 121, 112, 101, 61, 34, 99, 104, 101, 99, 107, 98, 111, 120, 34, 32, 100, 105, 115, 97, 98, 108, 101, 100, 61, 34, 34] ++ ((if fl then [32, 99, 104, 101, 99, 107, 101, 100, 61, 34, 34] else []) ++ [32, 47, 62])
/-- A part that nothing stands in. -/
def leafT (m k : Int) (s : List UInt8) (n mm : Int) (fl : Bool) : List UInt8 :=
  if k = 14 then htm s
  else if k = 15 then [10]
  else if k = 16 then [60, 98, 114, 32, 47, 62, 10]
  else if k = 17 then [60, 99, 111, 100, 101, 62] ++ htm s ++ [60, 47, 99, 111, 100, 101, 62]
  else if k = 22 then rawT m s
  else if k = 24 then refT n mm
  else if k = 25 then boxT fl
  else []
mutual
/-- What can be read of a part; of parts. -/
def rdX1 : Nd → List UInt8
  | ⟨k, s, _, _, _, _, l⟩ => (if k = 14 ∨ k = 17 then s.data.toList else if k = 15 ∨ k = 16 then [32] else []) ++ rdX l
def rdX : List Nd → List UInt8
  | [] => []
  | x :: r => rdX1 x ++ rdX r
end
mutual
/-- A part of a text; parts. -/
def inl1 (m : Int) : Nd → List UInt8
  | ⟨k, s, t, n, mm, fl, l⟩ =>
    if k = 18 then tagd [101, 109] [] (inl m l)
    else if k = 19 then tagd [115, 116, 114, 111, 110, 103] [] (inl m l)
    else if k = 23 then tagd [100, 101, 108] [] (inl m l)
    else if k = 20 then tagd [97] ([32, 104, 114, 101, 102, 61, 34] ++ hrf s.data.toList ++ [34] ++ atr [116, 105, 116, 108, 101] (htm t.data.toList)) (inl m l)
    else if k = 21 then [60, 105, 109, 103, 32, 115, 114, 99, 61, 34] ++ hrf s.data.toList ++ [34, 32, 97, 108, 116, 61, 34] ++ htm (rdX l) ++ [34] ++ atr [116, 105, 116, 108, 101] (htm t.data.toList) ++ [32, 47, 62]
    else leafT m k s.data.toList n mm fl
def inl (m : Int) : List Nd → List UInt8
  | [] => []
  | x :: r => inl1 m x ++ inl m r
end
def alnT (n : Int) : List UInt8 := if n = 1 then atr [97, 108, 105, 103, 110] [108, 101, 102, 116] else if n = 2 then atr [97, 108, 105, 103, 110] [114, 105, 103, 104, 116] else if n = 3 then atr [97, 108, 105, 103, 110] [99, 101, 110, 116, 101, 114] else []
def celT (m : Int) (tag : List UInt8) (c : Nd) : List UInt8 := tagd tag (alnT c.f3) (inl m c.f6) ++ [10]
def rowT (m : Int) (tag : List UInt8) (r : Nd) : List UInt8 := [60, 116, 114, 62, 10] ++ (r.f6.flatMap (celT m tag) ++ [60, 47, 116, 114, 62, 10])
def tblT (m : Int) (l : List Nd) : List UInt8 :=
  [60, 116, 97, 98, 108, 101, 62, 10, 60, 116, 104, 101, 97, 100, 62, 10] ++ ((l.take 1).flatMap (rowT m [116, 104]) ++ ([60, 47, 116, 104, 101, 97, 100, 62, 10] ++
    ((if 1 < l.length then [60, 116, 98, 111, 100, 121, 62, 10] ++ ((l.drop 1).flatMap (rowT m [116, 100]) ++ [60, 47, 116, 98, 111, 100, 121, 62, 10]) else []) ++ [60, 47, 116, 97, 98, 108, 101, 62, 10])))
def wrdT (t : List UInt8) : List UInt8 := t.takeWhile fun x => !(x = 32 || x = 9 || x = 10)
def codT (s t : List UInt8) : List UInt8 :=
  [60, 112, 114, 101, 62, 60, 99, 111, 100, 101] ++ (if wrdT t = [] then [] else atr [99, 108, 97, 115, 115] ([108, 97, 110, 103, 117, 97, 103, 101, 45] ++ htm (wrdT t))) ++ [62] ++ htm s ++ [60, 47, 99, 111, 100, 101, 62, 60, 47, 112, 114, 101, 62, 10]
def ordd (mm : Int) : Bool := mm = 46 || mm = 41
def lstO (n mm : Int) : List UInt8 := [60] ++ (if ordd mm then [111, 108] else [117, 108]) ++ (if ordd mm && decide (n ≠ 1) then atr [115, 116, 97, 114, 116] (Lib.itoa (max n 0)) else []) ++ [62, 10]
def lstC (mm : Int) : List UInt8 := [60, 47] ++ (if ordd mm then [111, 108] else [117, 108]) ++ [62, 10]
mutual
/-- A block; blocks; an item; a list's items; an item's blocks, tight. -/
def blk1 (m : Int) : Nd → List UInt8
  | ⟨k, s, t, n, mm, fl, l⟩ =>
    if k = 7 then tagd [112] [] (inl m l) ++ [10]
    else if k = 8 then tagd ([104] ++ Lib.itoa (min (max n 1) 6)) (atr [105, 100] (htm t.data.toList)) (inl m l) ++ [10]
    else if k = 9 then [60, 104, 114, 32, 47, 62, 10]
    else if k = 5 then codT s.data.toList t.data.toList
    else if k = 6 then rawT m s.data.toList
    else if k = 2 then [60, 98, 108, 111, 99, 107, 113, 117, 111, 116, 101, 62, 10] ++ (blk m l ++ [60, 47, 98, 108, 111, 99, 107, 113, 117, 111, 116, 101, 62, 10])
    else if k = 3 then lstO n mm ++ (itms m fl l ++ lstC mm)
    else if k = 10 then tblT m l
    else blk m l
def blk (m : Int) : List Nd → List UInt8
  | [] => []
  | x :: r => blk1 m x ++ blk m r
def itmT (m : Int) (fl : Bool) : Nd → List UInt8
  | ⟨k, s, t, n, mm, f, l⟩ => [60, 108, 105, 62] ++ ((if fl = false then (if l = [] then [] else [10]) ++ blk m l else tght m true l) ++ [60, 47, 108, 105, 62, 10])
def itms (m : Int) (fl : Bool) : List Nd → List UInt8
  | [] => []
  | x :: r => (if x.f0 = 4 then itmT m fl x else blk1 m x) ++ itms m fl r
def tght (m : Int) (first : Bool) : List Nd → List UInt8
  | [] => []
  | x :: r => (if x.f0 = 7 then inl m x.f6 ++ (if r = [] then [] else [10]) else (if first then [10] else []) ++ blk1 m x) ++ tght m false r
end
end Go.Proofs.YtjcfjgcnkbbgmaaGreatDoor.Pl

namespace Go.Proofs.YtjcfjgcnkbbgmaaGreatDoor.Pl
open Go.RowKit Go.Proofs.YtjcfjgcnkbbgmaaGreatDoor.PA
set_option linter.unusedVariables false

theorem dec_len : ∀ k u : Nat, u < 10 ^ (k + 1) → (Lib.decDigits u).length ≤ k + 1 := by
  intro k
  induction k with
  | zero =>
    intro u hu
    rw [Lib.decDigits_one (by simpa using hu)]
    simp
  | succ k ih =>
    intro u hu
    by_cases h : u < 10
    · rw [Lib.decDigits_one h]
      simp
    · rw [Lib.decDigits, dif_neg h, List.length_append, List.length_singleton]
      have h1 := ih (u / 10) (Nat.div_lt_of_lt_mul (by rw [Nat.pow_succ, Nat.mul_comm] at hu; exact hu))
      omega
theorem itoa_len {n : Int} (h0 : -9223372036854775808 ≤ n) (h1 : n ≤ 9223372036854775807) : (Lib.itoa n).length ≤ 20 := by
  have hd : (Lib.decDigits n.natAbs).length ≤ 19 := dec_len 18 _ (by omega)
  have hd2 : (Lib.decDigits n.toNat).length ≤ 19 := dec_len 18 _ (by omega)
  unfold Lib.itoa
  split
  · rw [List.length_cons]; omega
  · omega
/-- A number that an int holds. -/
def i64 (n : Int) : Prop := -9223372036854775808 ≤ n ∧ n ≤ 9223372036854775807
mutual
def wt1 : Nd → Nat
  | ⟨k, s, t, n, mm, fl, l⟩ => 1 + s.size + t.size + wt l
def wt : List Nd → Nat
  | [] => 0
  | x :: r => wt1 x + wt r
end
mutual
/-- Numbers that ints hold, texts that are not too long. -/
def ok1 : Nd → Prop
  | ⟨k, s, t, n, mm, fl, l⟩ => (i64 n ∧ i64 mm ∧ s.size ≤ 1048576 ∧ t.size ≤ 1048576) ∧ okl l
def okl : List Nd → Prop
  | [] => True
  | x :: r => ok1 x ∧ okl r
end
theorem wt1_eta (x : Nd) : wt1 x = 1 + x.f1.size + x.f2.size + wt x.f6 := by cases x; rw [wt1]
theorem ok1_eta {x : Nd} (h : ok1 x) : (i64 x.f3 ∧ i64 x.f4 ∧ x.f1.size ≤ 1048576 ∧ x.f2.size ≤ 1048576) ∧ okl x.f6 := by cases x; rw [ok1] at h; exact h
theorem wt_append : ∀ a b : List Nd, wt (a ++ b) = wt a + wt b
  | [], b => by rw [List.nil_append, wt]; omega
  | x :: a, b => by rw [List.cons_append, wt, wt, wt_append a b]; omega
theorem wt_mem : ∀ {l : List Nd} {x : Nd}, x ∈ l → wt1 x ≤ wt l
  | [], x, h => by simp at h
  | y :: r, x, h => by
    rw [wt]
    rcases List.mem_cons.1 h with rfl | h
    · omega
    · have := wt_mem h; omega
theorem okl_mem : ∀ {l : List Nd} {x : Nd}, okl l → x ∈ l → ok1 x
  | [], x, _, h => by simp at h
  | y :: r, x, ho, h => by
    rw [okl] at ho
    rcases List.mem_cons.1 h with rfl | h
    · exact ho.1
    · exact okl_mem ho.2 h
theorem okl_of : ∀ {l : List Nd}, (∀ x ∈ l, ok1 x) → okl l
  | [], _ => by rw [okl]; trivial
  | y :: r, h => by rw [okl]; exact ⟨h y List.mem_cons_self, okl_of fun x hx => h x (List.mem_cons_of_mem _ hx)⟩
theorem okl_take {l : List Nd} (h : okl l) (n : Nat) : okl (l.take n) := okl_of fun x hx => okl_mem h (List.mem_of_mem_take hx)
theorem okl_drop {l : List Nd} (h : okl l) (n : Nat) : okl (l.drop n) := okl_of fun x hx => okl_mem h (List.mem_of_mem_drop hx)
theorem wt_take (l : List Nd) (n : Nat) : wt (l.take n) ≤ wt l := by
  have h := wt_append (l.take n) (l.drop n)
  rw [List.take_append_drop] at h
  omega
theorem wt_drop (l : List Nd) (n : Nat) : wt (l.drop n) ≤ wt l := by
  have h := wt_append (l.take n) (l.drop n)
  rw [List.take_append_drop] at h
  omega
theorem inl_append (m : Int) : ∀ a b : List Nd, inl m (a ++ b) = inl m a ++ inl m b
  | [], b => by simp [inl]
  | x :: a, b => by rw [List.cons_append, inl, inl, inl_append m a b, List.append_assoc]
theorem rdX_append : ∀ a b : List Nd, rdX (a ++ b) = rdX a ++ rdX b
  | [], b => by simp [rdX]
  | x :: a, b => by rw [List.cons_append, rdX, rdX, rdX_append a b, List.append_assoc]
theorem inl_one (m : Int) (x : Nd) : inl m [x] = inl1 m x := by rw [inl, inl, List.append_nil]
theorem rdX_one (x : Nd) : rdX [x] = rdX1 x := by rw [rdX, rdX, List.append_nil]
theorem take_succ {l : List Nd} {i : Nat} (h : i < l.length) : l.take (i + 1) = l.take i ++ [l[i]] := by rw [List.take_add_one, List.getElem?_eq_getElem h]; rfl
theorem inl_take (m : Int) {l : List Nd} {i : Nat} (h : i < l.length) : inl m (l.take (i + 1)) = inl m (l.take i) ++ inl1 m l[i] := by rw [take_succ h, inl_append, inl_one]
theorem rdX_take {l : List Nd} {i : Nat} (h : i < l.length) : rdX (l.take (i + 1)) = rdX (l.take i) ++ rdX1 l[i] := by rw [take_succ h, rdX_append, rdX_one]
/-! how long -/
mutual
theorem rdX1_len : ∀ x : Nd, (rdX1 x).length ≤ wt1 x
  | ⟨k, s, t, n, mm, fl, l⟩ => by
    have h := rdX_len l
    have hs : s.data.toList.length = s.size := by rw [Array.length_toList]; rfl
    rw [rdX1, wt1, List.length_append]
    split
    · omega
    · split
      · rw [List.length_singleton]; omega
      · rw [List.length_nil]; omega
theorem rdX_len : ∀ l : List Nd, (rdX l).length ≤ wt l
  | [] => by rw [rdX, wt]; exact Nat.le_refl _
  | x :: r => by
    have h1 := rdX1_len x
    have h2 := rdX_len r
    rw [rdX, wt, List.length_append]
    omega
end
theorem tagd_len (a b c : List UInt8) : (tagd a b c).length = 5 + 2 * a.length + b.length + c.length := by
  unfold tagd
  simp only [List.length_append, List.length_cons, List.length_nil]
  omega
theorem atr_len (a b : List UInt8) : (atr a b).length ≤ 4 + a.length + b.length := by
  unfold atr
  split
  · simp
  · simp only [List.length_append, List.length_cons, List.length_nil]; omega
theorem flt_len : ∀ l : List UInt8, (flt l).length ≤ 4 * l.length
  | [] => by simp [flt]
  | x :: r => by
    have h := flt_len r
    rw [flt, List.length_append, List.length_cons]
    split
    · simp only [List.length_cons, List.length_nil]; omega
    · simp only [List.length_cons, List.length_nil]; omega
theorem rawT_len (m : Int) (l : List UInt8) : (rawT m l).length ≤ 4 * l.length := by
  unfold rawT
  split
  · omega
  · exact flt_len l
theorem refT_len {n m : Int} (hn : i64 n) (hm : i64 m) : (refT n m).length ≤ 200 := by
  have h1 := itoa_len (n := max n 1) (by have := hn.1; omega) (by have := hn.2; omega)
  have h2 := itoa_len (n := m) hm.1 hm.2
  have h3 : (if 1 < m then [45] ++ Lib.itoa m else ([] : List UInt8)).length ≤ 21 := by
    split
    · rw [List.length_append, List.length_singleton]; omega
    · simp
  unfold refT idA idB
  simp only [List.length_append, List.length_cons, List.length_nil]
  omega
theorem boxT_len (fl : Bool) : (boxT fl).length ≤ 60 := by cases fl <;> decide
theorem leafT_len (m k : Int) (s : List UInt8) {n mm : Int} (fl : Bool) (hn : i64 n) (hm : i64 mm) : (leafT m k s n mm fl).length ≤ 200 + 6 * s.length := by
  have h1 := (htm_len s).2
  have h2 := rawT_len m s
  have h3 := refT_len hn hm
  have h4 := boxT_len fl
  unfold leafT
  split
  · omega
  split
  · simp only [List.length_cons, List.length_nil]; omega
  split
  · simp only [List.length_cons, List.length_nil]; omega
  split
  · simp only [List.length_append, List.length_cons, List.length_nil]; omega
  split
  · omega
  split
  · omega
  split
  · omega
  · rw [List.length_nil]; omega
mutual
theorem inl1_len (m : Int) : ∀ x : Nd, ok1 x → (inl1 m x).length ≤ 300 * wt1 x
  | ⟨k, s, t, n, mm, fl, l⟩, ho => by
    rw [ok1] at ho
    have h := inl_len m l ho.2
    have hs : s.data.toList.length = s.size := by rw [Array.length_toList]; rfl
    have ht : t.data.toList.length = t.size := by rw [Array.length_toList]; rfl
    have h1 := leafT_len m k s.data.toList fl ho.1.1 ho.1.2.1
    have h2 := (hrf_len s.data.toList).2
    have h3 := (htm_len t.data.toList).2
    have h4 := (htm_len (rdX l)).2
    have h5 := rdX_len l
    have h6 := atr_len [116, 105, 116, 108, 101] (htm t.data.toList)
    rw [inl1, wt1]
    simp only [List.length_cons, List.length_nil] at h6
    split
    · rw [tagd_len]; simp only [List.length_append, List.length_cons, List.length_nil]; omega
    split
    · rw [tagd_len]; simp only [List.length_append, List.length_cons, List.length_nil]; omega
    split
    · rw [tagd_len]; simp only [List.length_append, List.length_cons, List.length_nil]; omega
    split
    · rw [tagd_len]; simp only [List.length_append, List.length_cons, List.length_nil]; omega
    split
    · simp only [List.length_append, List.length_cons, List.length_nil]; omega
    · omega
theorem inl_len (m : Int) : ∀ l : List Nd, okl l → (inl m l).length ≤ 300 * wt l
  | [], _ => by rw [inl, wt]; exact Nat.le_refl _
  | x :: r, ho => by
    rw [okl] at ho
    have h1 := inl1_len m x ho.1
    have h2 := inl_len m r ho.2
    rw [inl, wt, List.length_append]
    omega
end
end Go.Proofs.YtjcfjgcnkbbgmaaGreatDoor.Pl

namespace Go.Proofs.YtjcfjgcnkbbgmaaGreatDoor.Pl
open Go.RowKit Go.Proofs.YtjcfjgcnkbbgmaaGreatDoor.PA
set_option linter.unusedVariables false

end Go.Proofs.YtjcfjgcnkbbgmaaGreatDoor.Pl

namespace Go.Proofs.YtjcfjgcnkbbgmaaGreatDoor.PA
open Go.RowKit Go.Sort Go.Proofs.YtjcfjgcnkbbgmaaGreatDoor.Pl Go.Proofs.YtjcfjgcnkbbgmaaGreatDoorW.PrintWords Go.Proofs.YtjcfjgcnkbbgmaaGreatDoorW.PrintLast Go.Proofs.YtjcfjgcnkbbgmaaGreatDoorW.PrintMore
set_option linter.unusedVariables false

/-- A row of bytes in block g. -/
def Byt (g : Nat) (l : List UInt8) (w : World) : Prop := ∃ cur fz, w.heap[g]? = some (.cells cur 5 fz) ∧ l.length ≤ fz.1 ∧ ∀ j, (hj : j < l.length) → cur[j]? = some (.int .u8 (l[j].toNat : Int))
theorem Byt.cell {g : Nat} {l : List UInt8} {w : World} (h : Byt g l w) {j : Nat} (hj : j < l.length) : w.cell? ⟨g, j, none⟩ = some (.int .u8 (l[j].toNat : Int)) := by
  obtain ⟨cur, fz, h1, _, h3⟩ := h
  simp [World.cell?, h1, h3 j hj]
theorem Byt.frozen {g : Nat} {l : List UInt8} {w : World} (h : Byt g l w) {j : Nat} (hj : j < l.length) : w.frozen? ⟨g, j, none⟩ = false := by
  obtain ⟨cur, fz, h1, h2, h3⟩ := h
  simp [World.frozen?, h1]
  omega
theorem Byt.set {g : Nat} {l : List UInt8} {w : World} (h : Byt g l w) {j : Nat} (hj : j < l.length) (x : UInt8) : Byt g (l.set j x) (w.setCell ⟨g, j, none⟩ (.int .u8 (x.toNat : Int))) := by
  obtain ⟨cur, fz, h1, h2, h3⟩ := h
  have hlt : g < w.heap.size := (Array.getElem?_eq_some_iff.1 h1).1
  refine ⟨cur.setIfInBounds j (.int .u8 (x.toNat : Int)), fz, by simp [World.setCell, Array.getElem?_modify, h1], by rw [List.length_set]; exact h2, fun i hi => ?_⟩
  rw [List.length_set] at hi
  rw [Array.getElem?_setIfInBounds, List.getElem_set]
  have hs : j < cur.size := (Array.getElem?_eq_some_iff.1 (h3 j hj)).1
  split
  · first | rfl | rw [if_pos hs]
  · exact h3 i hi
theorem byt_new (w : World) (s : List UInt8) : Byt w.heap.size s (Lib.bytesWorld w 5 (B s)) := by
  refine ⟨_, _, Lib.bytesWorld_at_new w 5 (B s), ?_, fun j hj => ?_⟩
  · simp [Lib.bytesCells, B]
  · have h := Lib.bytesWorld_cell w 5 (B s) j (by rw [B_size]; exact hj)
    rw [B_data, List.getD_eq_getElem?_getD, List.getElem?_eq_getElem hj] at h
    have h2 := Lib.bytesWorld_at_new w 5 (B s)
    simpa [World.cell?, h2] using h
def lw1 (x : UInt8) : UInt8 := if 65 ≤ x.toNat ∧ x.toNat ≤ 90 then x + 32 else x
theorem lwr_eq (l : List UInt8) : lwr l = l.map lw1 := rfl
/-- The first i without capitals. -/
def lwN (l : List UInt8) (i : Nat) : List UInt8 := (l.take i).map lw1 ++ l.drop i
theorem lwN_len (l : List UInt8) (i : Nat) (h : i ≤ l.length) : (lwN l i).length = l.length := by
  unfold lwN
  rw [List.length_append, List.length_map, List.length_take, List.length_drop]
  omega
theorem lwN_at (l : List UInt8) (i : Nat) (h : i < l.length) (h2 : i < (lwN l i).length) : (lwN l i)[i] = l[i] := by
  have h3 : (lwN l i)[i]? = some l[i] := by
    unfold lwN
    rw [List.getElem?_append_right (by rw [List.length_map, List.length_take]; omega)]
    simp [Nat.min_eq_left (Nat.le_of_lt h), h]
  exact Option.some.inj ((List.getElem?_eq_getElem h2).symm.trans h3)
theorem lwN_step (l : List UInt8) (i : Nat) (h : i < l.length) : (lwN l i).set i (lw1 l[i]) = lwN l (i + 1) := by
  unfold lwN
  rw [List.set_append_right _ _ (by rw [List.length_map, List.length_take]; omega), List.length_map, List.length_take, Nat.min_eq_left (Nat.le_of_lt h), Nat.sub_self, List.drop_eq_getElem_cons h, List.set_cons_zero, List.take_add_one, List.getElem?_eq_getElem h, List.map_append, List.append_assoc]
  rfl
theorem lwN_zero (l : List UInt8) : lwN l 0 = l := by simp [lwN]
theorem lwN_end (l : List UInt8) : lwN l l.length = lwr l := by simp [lwN, lwr_eq]
theorem or_low (x : UInt8) (h1 : 65 ≤ x.toNat) (h2 : x.toNat ≤ 90) : bits .or .u8 (x.toNat : Int) 32 = ((lw1 x).toNat : Int) := by
  have h : ∀ y : Fin 256, 65 ≤ y.val → y.val ≤ 90 → bits .or .u8 (y.val : Int) 32 = ((lw1 (UInt8.ofNat y.val)).toNat : Int) := by decide +kernel
  have := h ⟨x.toNat, x.toNat_lt⟩ h1 h2
  simpa using this
theorem lw1_no (x : UInt8) (h : ¬ (65 ≤ x.toNat ∧ x.toNat ≤ 90)) : lw1 x = x := by unfold lw1; rw [if_neg h]
set_option maxHeartbeats 2000000 in
set_option maxRecDepth 100000 in
theorem low_calls (s : List UInt8) (hs : s.length ≤ 4294967296) (w : World) :
    Calls Tryz.prog 93 #[.string (B s)] w fun e w' => e = .returned (.string (B (lwr s))) ∧ Below w.heap.size w w' := by
  have hcv := Lib.run_convert_string_bytes (P := Tryz.prog) w 9 41 5 (B s) Tryz.underlying9 Tryz.underlying41 Tryz.underlying5
  rw [B_size] at hcv
  obtain ⟨cp, hcp⟩ : ∃ cp, grownCap w s.length 0 5 = cp := ⟨_, rfl⟩
  rw [hcp] at hcv
  obtain ⟨w1, hw1⟩ : ∃ w1, Lib.bytesWorld w 5 (B s) = w1 := ⟨_, rfl⟩
  have hb1 : Below w.heap.size w w1 := hw1 ▸ Lib.bytesWorld_below w _ _
  have hy : Byt w.heap.size s w1 := hw1 ▸ byt_new w s
  rw [hw1] at hcv
  obtain ⟨g, hg⟩ : ∃ g, w.heap.size = g := ⟨_, rfl⟩
  have hbk := fun (W : World) (hW : Byt g (lwr s) W) => run_convert_bytes_back (P := Tryz.prog) W 41 9 5 ⟨g, 0, none⟩ cp (lwr s) Tryz.underlying41 Tryz.underlying5 Tryz.underlying9 (fun j hj => by rw [show (⟨g, 0, none⟩ : Addr).add j = ⟨g, j, none⟩ from by simp [Addr.add]; omega]; exact hW.cell hj)
  have hll : (lwr s).length = s.length := by rw [lwr_eq, List.length_map]
  rw [hll] at hbk
  rw [hg] at hcv hb1 hy ⊢
  have HB1 := Aside0.mk hb1
  have HY := Aside0.mk hy
  have HBK := Aside0.mk hbk
  clear hb1 hy hbk hw1 hcp hll
  go_enter Tryz.func93, Tryz.ntmps93
  go_wp2_with fail
  go_loopw [4, 5, 10] (fun v4 v5 v10 wr => ∃ i : Nat, v10 = .int .i64 (i : Int) ∧ i ≤ s.length ∧ Aside0 (Byt g (lwN s i) wr) ∧ Aside0 (Below g w wr)) (fun _ _ v10 _ => s.length - (intOf v10).toNat)
  case atStart => exact ⟨0, rfl, by omega, ⟨by rw [lwN_zero]; exact HY.out⟩, HB1⟩
  case round =>
    obtain ⟨i, rfl, hi, HYr, HB⟩ := hrel
    by_cases hlt : i < s.length
    · have q1 : decide ((i : Int) < (s.length : Int)) = true := decide_eq_true (by omega)
      have p0 := eq_true (show 0 ≤ (i : Int) from by omega)
      have p1 := eq_true (show (i : Int) < (s.length : Int) from by omega)
      have hil : i < (lwN s i).length := by rw [lwN_len s i hi]; exact hlt
      have x0 := HYr.out.cell hil
      rw [lwN_at s i hlt hil] at x0
      have f0 := HYr.out.frozen hil
      obtain ⟨x, hx⟩ : ∃ x, s[i] = x := ⟨_, rfl⟩
      rw [hx] at x0
      have HX := Aside0.mk hx
      have HIL := Aside0.mk hil
      have hgw : g < wr.heap.size := by obtain ⟨_, _, h1, _⟩ := HYr.out; exact (Array.getElem?_eq_some_iff.1 h1).1
      clear hx hil
      by_cases hc : 65 ≤ x.toNat ∧ x.toNat ≤ 90
      · have z1 : decide ((65 : Int) ≤ (x.toNat : Int)) = true := decide_eq_true (by omega)
        have z2 : decide ((x.toNat : Int) ≤ 90) = true := decide_eq_true (by omega)
        have hor := or_low x hc.1 hc.2
        have HY2 := Aside0.mk (show Byt g (lwN s (i + 1)) (wr.setCell ⟨g, i, none⟩ (.int .u8 ((lw1 x).toNat : Int))) from by
          have h := HYr.out.set HIL.out (lw1 x)
          rw [← HX.out, lwN_step s i hlt, HX.out] at h
          exact h)
        have HB2 := Aside0.mk (show Below g w (wr.setCell ⟨g, i, none⟩ (.int .u8 ((lw1 x).toNat : Int))) from HB.out.setCell (p := ⟨g, i, none⟩) (Nat.le_refl _) _)
        clear hc
        go_wp2
        go_roundw
        case rel => exact ⟨i + 1, by simp, by omega, HY2, HB2⟩
        case measure => simp [intOf]; omega
      · have HY2 := Aside0.mk (show Byt g (lwN s (i + 1)) wr from by
          have e := lwN_step s i hlt
          rw [HX.out, lw1_no x hc] at e
          have e2 : (lwN s i).set i x = lwN s i := by
            refine List.ext_getElem (by rw [List.length_set]) fun j h1 h2 => ?_
            rw [List.getElem_set]
            split
            · rename_i e3
              subst e3
              rw [lwN_at s i hlt h2, HX.out]
            · rfl
          rw [← e, e2]
          exact HYr.out)
        by_cases h65 : 65 ≤ x.toNat
        · have z1 : decide ((65 : Int) ≤ (x.toNat : Int)) = true := decide_eq_true (by omega)
          have z2 : decide ((x.toNat : Int) ≤ 90) = false := decide_eq_false (by omega)
          clear hc h65
          go_wp2
          go_roundw
          case rel => exact ⟨i + 1, by simp, by omega, HY2, HB⟩
          case measure => simp [intOf]; omega
        · have z1 : decide ((65 : Int) ≤ (x.toNat : Int)) = false := decide_eq_false (by omega)
          clear hc h65
          go_wp2
          go_roundw
          case rel => exact ⟨i + 1, by simp, by omega, HY2, HB⟩
          case measure => simp [intOf]; omega
    · have q1 : decide ((i : Int) < (s.length : Int)) = false := decide_eq_false (by omega)
      have hie : i = s.length := by omega
      rw [hie, lwN_end] at HYr
      have hbk := HBK.out _ HYr.out
      clear hie
      go_wp2
      go_ret
      exact ⟨rfl, HB.out⟩
end Go.Proofs.YtjcfjgcnkbbgmaaGreatDoor.PA

namespace Go.Proofs.YtjcfjgcnkbbgmaaGreatDoor.PA
open Go.RowKit Go.Sort Go.Proofs.YtjcfjgcnkbbgmaaGreatDoor.Pl Go.Proofs.YtjcfjgcnkbbgmaaGreatDoorW.PrintWords Go.Proofs.YtjcfjgcnkbbgmaaGreatDoorW.PrintLast Go.Proofs.YtjcfjgcnkbbgmaaGreatDoorW.PrintMore
set_option linter.unusedVariables false

theorem ia_tw (cs : List UInt8) : ∀ l : List UInt8, (0 ≤ Lib.indexAny l cs → Lib.indexAny l cs = ((l.takeWhile fun x => !cs.contains x).length : Int)) ∧ (Lib.indexAny l cs < 0 → (l.takeWhile fun x => !cs.contains x).length = l.length)
  | [] => by simp [Lib.indexAny]
  | x :: t => by
    obtain ⟨h1, h2⟩ := ia_tw cs t
    have hge := Lib.indexAny_ge cs t
    rw [Lib.indexAny, List.takeWhile_cons]
    by_cases hx : cs.contains x = true
    · rw [if_pos hx, if_neg (by rw [hx]; decide)]
      exact ⟨fun _ => rfl, fun h => absurd h (by decide)⟩
    · have hx' : (!cs.contains x) = true := by simpa using hx
      rw [if_neg hx, if_pos hx']
      by_cases hm : Lib.indexAny t cs = -1
      · rw [if_pos (by rw [hm]; rfl)]
        refine ⟨fun h => absurd h (by decide), fun _ => ?_⟩
        rw [List.length_cons, List.length_cons, h2 (by omega)]
      · rw [if_neg (by rw [beq_iff_eq]; exact hm)]
        refine ⟨fun h => ?_, fun h => absurd h (by omega)⟩
        rw [List.length_cons, h1 (by omega)]
        omega
set_option maxHeartbeats 2000000 in
set_option maxRecDepth 100000 in
theorem filtered_calls (s : List UInt8) (hs : s.length ≤ 4294967296) (w : World) :
    Calls Tryz.prog 80 #[.string (B s)] w fun e w' => e = .returned (.bool (bads.contains (lwr s))) ∧ Below w.heap.size w w' := by
  have HL := Aside0.mk (low_calls s hs w)
  obtain ⟨t, ht⟩ : ∃ t, lwr s = t := ⟨_, rfl⟩
  rw [ht] at HL ⊢
  clear ht hs
  go_enter Tryz.func80, Tryz.ntmps80
  go_wp2_with fail
  refine HL.out.mono ?_
  rintro e w1 ⟨rfl, hb⟩
  have HB := Aside0.mk hb
  clear hb HL
  go_wp2
  all_goals
    simp only [B_toList] at *
    first
    | (exfalso; simp_all; done)
    | (go_ret; refine ⟨?_, HB.out⟩; simp only [bads, List.contains_cons, List.contains_nil, *]; rfl)
theorem isW_eq (x : UInt8) : isW x = ([32, 9, 10, 47, 62] : List UInt8).contains x := by
  unfold isW
  simp [List.contains_cons, Bool.or_assoc]
theorem tw_take {p : UInt8 → Bool} : ∀ l : List UInt8, l.takeWhile p = l.take (l.takeWhile p).length
  | [] => rfl
  | x :: r => by
    rw [List.takeWhile_cons]
    split
    · rw [List.length_cons, List.take_succ_cons, ← tw_take r]
    · rfl
set_option maxHeartbeats 2000000 in
set_option maxRecDepth 100000 in
theorem bad_calls (s : List UInt8) (hs : s.length ≤ 4294967200) (w : World) :
    Calls Tryz.prog 66 #[.string (B s)] w fun e w' => e = .returned (.bool (Pl.bad s)) ∧ Below w.heap.size w w' := by
  obtain ⟨u, hu⟩ : ∃ u, (if s.head? = some 47 then s.tail else s) = u := ⟨_, rfl⟩
  have hul : u.length ≤ s.length := by
    rw [← hu]
    split
    · rw [List.length_tail]; omega
    · exact Nat.le_refl _
  have htp : Lib.trimPrefix s [47] = u := by
    rw [← hu]
    unfold Lib.trimPrefix Lib.hasPrefix
    cases s with
    | nil => rfl
    | cons x r => by_cases h : x = 47 <;> simp [List.isPrefixOf, h]; intro h2; exact absurd h2.symm h
  have hT := Tryz.strings_TrimPrefix (B s) (B [47]) w
  rw [B_data, B_data, htp] at hT
  have hbad : Pl.bad s = bads.contains (lwr (u.takeWhile fun x => !isW x)) := by unfold Pl.bad; rw [hu]
  have hfun : (fun x => !isW x) = fun x => !([32, 9, 10, 47, 62] : List UInt8).contains x := by funext x; rw [isW_eq]
  rw [hfun] at hbad
  obtain ⟨i1, i2⟩ := ia_tw [32, 9, 10, 47, 62] u
  have hI := fun W => strings_IndexAny.calls (B u) (B [32, 9, 10, 47, 62]) (Lib.indexAny u [32, 9, 10, 47, 62]) W (by unfold strings_IndexAny.f; rw [if_pos ⟨by decide, by decide, by rw [B_size]; omega, by decide⟩, B_data, B_data])
  obtain ⟨r, hr⟩ : ∃ r, Lib.indexAny u [32, 9, 10, 47, 62] = r := ⟨_, rfl⟩
  obtain ⟨v, hv⟩ : ∃ v, (u.takeWhile fun x => !([32, 9, 10, 47, 62] : List UInt8).contains x) = v := ⟨_, rfl⟩
  have hvt : v = u.take v.length := by rw [← hv]; exact tw_take u
  have hvl : v.length ≤ u.length := by rw [← hv]; exact (List.takeWhile_sublist _).length_le
  rw [hr, hv] at i1 i2
  rw [hr] at hI
  rw [hv] at hbad
  have HT := Aside0.mk hT
  have HI := Aside0.mk hI
  obtain ⟨z, hz⟩ : ∃ z, bads.contains (lwr v) = z := ⟨_, rfl⟩
  have hfl := fun W => filtered_calls v (by omega) W
  rw [hz] at hbad
  simp only [hz] at hfl
  have HF := Aside0.mk hfl
  have HVT := Aside0.mk hvt
  have HBD := Aside0.mk hbad
  clear hT hI hvt hbad htp hu hfun hr hv hfl hz
  have hul2 : (B u).size = u.length := B_size u
  go_enter Tryz.func66, Tryz.ntmps66
  go_wp2_with fail
  refine HT.out.mono ?_
  rintro e w1 ⟨rfl, rfl⟩
  go_wp2_with fail
  refine (HI.out w1).mono ?_
  rintro e w2 ⟨rfl, hb2⟩
  have HB2 := Aside0.mk hb2
  clear hb2 HI HT
  by_cases hr0 : r < 0
  · have q : decide (r < 0) = true := decide_eq_true hr0
    have hvu := i2 hr0
    have e3 : (B u).extract 0 u.length = B v := by rw [B_to, ← hvu, ← HVT.out]
    go_wp2_with fail
    rw [show (⟨u.toArray⟩ : ByteArray).extract 0 u.length = B v from e3]
    refine (HF.out w2).mono ?_
    rintro e w3 ⟨rfl, hb3⟩
    have HB3 := Aside0.mk (below_step HB2.out hb3)
    clear hb3 e3
    go_wp2
    go_ret
    exact ⟨by rw [HBD.out]; rfl, HB3.out⟩
  · have q : decide (r < 0) = false := decide_eq_false hr0
    have hrv := i1 (by omega)
    subst hrv
    have p0 := eq_true (show 0 ≤ (v.length : Int) from by omega)
    have p1 := eq_true (show (v.length : Int) ≤ (u.length : Int) from by omega)
    have e3 : (B u).extract 0 v.length = B v := by rw [B_to, ← HVT.out]
    go_wp2_with fail
    rw [show (⟨u.toArray⟩ : ByteArray).extract 0 v.length = B v from e3]
    refine (HF.out w2).mono ?_
    rintro e w3 ⟨rfl, hb3⟩
    have HB3 := Aside0.mk (below_step HB2.out hb3)
    clear hb3 e3
    go_wp2
    go_ret
    exact ⟨by rw [HBD.out]; rfl, HB3.out⟩
theorem isB_below {T e B b : Nat} {bs : List Value} {w w' : World} (h : Lib.IsBuilder T e B b bs w) (hb : Below w.heap.size w w') : Lib.IsBuilder T e B b bs w' := by
  have go : ∀ p, Lib.BuilderAt T e B b p bs w → Lib.BuilderAt T e B b p bs w' := by
    intro p h
    have hlt := h.lt
    obtain ⟨h1, v, h2, h3, h4⟩ := h
    exact ⟨h1, v, (hb.block _ hlt).trans h2, pw_own_below h3 hb, h4⟩
  rcases h with h | h
  · exact .inl (go _ h)
  · exact .inr (go _ h)
theorem cut60 (l : List UInt8) : (∃ a t, l = a ++ 60 :: t ∧ (60 : UInt8) ∉ a ∧ Lib.cut l [60] = (a, t, true)) ∨ ((60 : UInt8) ∉ l ∧ Lib.cut l [60] = (l, [], false)) := by
  unfold Lib.cut
  rw [Lib.index_one]
  have hge := Lib.indexByte_ge l 60
  by_cases h : Lib.indexByte l 60 = -1
  · right
    have hn := Lib.indexByte_none h
    refine ⟨fun hm => ?_, by rw [if_neg (by omega)]⟩
    obtain ⟨k, hk⟩ := List.getElem?_of_mem hm
    exact hn k hk
  · left
    obtain ⟨o, ho⟩ : ∃ o : Nat, Lib.indexByte l 60 = (o : Int) := ⟨(Lib.indexByte l 60).toNat, by omega⟩
    obtain ⟨h1, h2⟩ := Lib.indexByte_some ho
    obtain ⟨hlt, h3⟩ := List.getElem?_eq_some_iff.1 h1
    refine ⟨l.take o, l.drop (o + 1), ?_, fun hm => ?_, ?_⟩
    · rw [← h3, ← List.drop_eq_getElem_cons hlt, List.take_append_drop]
    · obtain ⟨k, hk⟩ := List.getElem?_of_mem hm
      rw [List.getElem?_take] at hk
      split at hk
      · rename_i hko
        exact h2 k hko hk
      · cases hk
    · rw [if_pos (by omega), ho]
      rfl
theorem flt_no : ∀ (a t : List UInt8), (60 : UInt8) ∉ a → flt (a ++ t) = a ++ flt t
  | [], t, _ => rfl
  | x :: a, t, h => by
    have hx : x ≠ 60 := fun e => h (by rw [e]; exact List.mem_cons_self)
    rw [List.cons_append, flt, if_neg (fun e => hx e.1), flt_no a t (fun hm => h (List.mem_cons_of_mem _ hm))]
    rfl
theorem flt_all (a : List UInt8) (h : (60 : UInt8) ∉ a) : flt a = a := by
  have := flt_no a [] h
  rw [List.append_nil] at this
  rw [this, flt, List.append_nil]
set_option maxHeartbeats 4000000 in
set_option maxRecDepth 100000 in
theorem filter_calls (s : List UInt8) (hs : s.length ≤ 268435456) (w : World) (hLd : LaidW w) :
    Calls Tryz.prog 57 #[.string (B s)] w fun e w' => e = .returned (.string (B (flt s))) ∧ Below w.heap.size w w' := by
  have HL := Aside0.mk hLd
  clear hLd
  go_enter Tryz.func57, Tryz.ntmps57
  go_wp2
  go_loopw [0, 4, 5, 6] (fun v0 v4 v5 v6 wr => ∃ l acc : List UInt8, v0 = .string (B l) ∧ l.length ≤ s.length ∧ Aside0 (acc.length + 4 * l.length ≤ 4 * s.length) ∧ Aside0 (acc ++ flt l = flt s) ∧ Aside0 (Lib.IsBuilder 43 5 w.heap.size w.heap.size (Lib.byteCells acc) wr) ∧ Aside0 (Below w.heap.size w wr)) (fun v0 _ _ _ _ => match v0 with | .string x => x.size | _ => 0)
  case atStart => exact ⟨s, [], rfl, Nat.le_refl _, ⟨by simp⟩, ⟨rfl⟩, ⟨Lib.fresh_isBuilder _ _ w⟩, ⟨(Below.refl _ w).alloc (Nat.le_refl _) _⟩⟩
  case round =>
    obtain ⟨l, acc, rfl, hl, HS, HE, HI, HB⟩ := hrel
    have hbs := HB.out.size
    obtain ⟨mx, hmx⟩ := (HL.out.mx.go HB.out).ml
    have HCUT := Aside0.mk (Tryz.strings_Cut (B l) (B [60]) mx wr (by rw [B_size]; omega) hmx)
    rw [B_data, B_data] at HCUT
    clear hmx
    rcases cut60 l with ⟨a, t, rfl, ha, hc⟩ | ⟨hn, hc⟩
    · rw [hc] at HCUT
      have HA := Aside0.mk ha
      rw [List.length_append, List.length_cons] at HS hl
      clear hc ha
      go_wp2_with fail
      refine HCUT.out.mono ?_
      rintro e w1 ⟨rfl, ⟨n, rfl⟩⟩
      have HI1 := Aside0.mk (show Lib.IsBuilder 43 5 w.heap.size w.heap.size (Lib.byteCells acc) (wr.drewN n) from isB_below HI.out ⟨rfl, rfl, rfl, Nat.le_refl _, fun _ _ => rfl⟩)
      have HB1 := Aside0.mk (show Below w.heap.size w (wr.drewN n) from HB.out.trans ⟨rfl, rfl, rfl, Nat.le_refl _, fun _ _ => rfl⟩)
      clear HCUT HI HB
      obtain ⟨w1, hw1⟩ : ∃ w1, wr.drewN n = w1 := ⟨_, rfl⟩
      rw [hw1] at HI1 HB1 ⊢
      clear hw1
      have hbs1 := HB1.out.size
      have HW1 := Aside0.mk (Tryz.Builder_WriteString w.heap.size w.heap.size _ (B a) w1 HI1.out (by rw [Lib.byteCells_length, B_size]; have := HS.out; omega) hbs1)
      go_wp2_with fail
      refine HW1.out.mono ?_
      rintro e w2 ⟨rfl, h2, b2⟩
      have HI2 := Aside0.mk (show Lib.IsBuilder 43 5 w.heap.size w.heap.size (Lib.byteCells (acc ++ a)) w2 from by rw [Lib.byteCells_append]; rw [Lib.strCells_eq, B_data] at h2; exact .inr h2)
      have HB2 := Aside0.mk (HB1.out.trans b2)
      have hbs2 := HB2.out.size
      clear h2 b2 HW1 HI1 HB1 hbs1
      have HBAD := Aside0.mk (bad_calls t (by omega) w2)
      go_wp2_with fail
      refine HBAD.out.mono ?_
      rintro e w3 ⟨rfl, b3⟩
      have HI3 := Aside0.mk (isB_below HI2.out b3)
      have HB3 := Aside0.mk (below_step HB2.out b3)
      have hbs3 := HB3.out.size
      clear HBAD b3 HI2 HB2 hbs2
      cases hbd : Pl.bad t with
      | true =>
        have HE3 := Aside0.mk (show (acc ++ a ++ [38, 108, 116, 59]) ++ flt t = flt s from by
          rw [← HE.out, flt_no a _ HA.out, flt, if_pos ⟨rfl, hbd⟩]
          simp only [List.append_assoc])
        have HW := Aside0.mk (Tryz.Builder_WriteString w.heap.size w.heap.size _ (B [38, 108, 116, 59]) w3 HI3.out (by rw [Lib.byteCells_length, B_size, List.length_append]; have := HS.out; simp only [List.length_cons, List.length_nil]; omega) hbs3)
        go_wp2_with fail
        refine HW.out.mono ?_
        rintro e w4 ⟨rfl, h4, b4⟩
        have HI4 := Aside0.mk (show Lib.IsBuilder 43 5 w.heap.size w.heap.size (Lib.byteCells (acc ++ a ++ [38, 108, 116, 59])) w4 from by rw [Lib.byteCells_append (acc ++ a)]; rw [Lib.strCells_eq, B_data] at h4; exact .inr h4)
        have HB4 := Aside0.mk (HB3.out.trans b4)
        clear h4 b4 HW HI3 HB3 hbd
        go_wp2
        go_roundw
        case rel => exact ⟨t, _, rfl, by omega, ⟨by have := HS.out; simp only [List.length_append, List.length_cons, List.length_nil]; omega⟩, HE3, HI4, HB4⟩
        case measure =>
          change (B t).size < (B (a ++ 60 :: t)).size
          rw [B_size, B_size, List.length_append, List.length_cons]
          omega
      | false =>
        have HE3 := Aside0.mk (show (acc ++ a ++ [60]) ++ flt t = flt s from by
          rw [← HE.out, flt_no a _ HA.out, flt, if_neg (fun e => by rw [hbd] at e; cases e.2)]
          simp only [List.append_assoc])
        have HW := Aside0.mk (Tryz.Builder_WriteByte w.heap.size w.heap.size _ 60 w3 HI3.out (by rw [Lib.byteCells_length, List.length_append]; have := HS.out; omega) hbs3)
        go_wp2_with fail
        refine HW.out.mono ?_
        rintro e w4 ⟨rfl, h4, b4⟩
        have HI4 := Aside0.mk (show Lib.IsBuilder 43 5 w.heap.size w.heap.size (Lib.byteCells (acc ++ a ++ [60])) w4 from by rw [Lib.byteCells_append (acc ++ a)]; exact .inr h4)
        have HB4 := Aside0.mk (HB3.out.trans b4)
        clear h4 b4 HW HI3 HB3 hbd
        go_wp2
        go_roundw
        case rel => exact ⟨t, _, rfl, by omega, ⟨by have := HS.out; simp only [List.length_append, List.length_cons, List.length_nil]; omega⟩, HE3, HI4, HB4⟩
        case measure =>
          change (B t).size < (B (a ++ 60 :: t)).size
          rw [B_size, B_size, List.length_append, List.length_cons]
          omega
    · rw [hc] at HCUT
      have HE3 := Aside0.mk (show acc ++ l = flt s from by rw [← HE.out, flt_all l hn])
      clear hc hn
      go_wp2_with fail
      refine HCUT.out.mono ?_
      rintro e w1 ⟨rfl, ⟨n, rfl⟩⟩
      have HI1 := Aside0.mk (show Lib.IsBuilder 43 5 w.heap.size w.heap.size (Lib.byteCells acc) (wr.drewN n) from isB_below HI.out ⟨rfl, rfl, rfl, Nat.le_refl _, fun _ _ => rfl⟩)
      have HB1 := Aside0.mk (show Below w.heap.size w (wr.drewN n) from HB.out.trans ⟨rfl, rfl, rfl, Nat.le_refl _, fun _ _ => rfl⟩)
      clear HCUT HI HB
      obtain ⟨w1, hw1⟩ : ∃ w1, wr.drewN n = w1 := ⟨_, rfl⟩
      rw [hw1] at HI1 HB1 ⊢
      clear hw1
      have hbs1 := HB1.out.size
      have HW1 := Aside0.mk (Tryz.Builder_WriteString w.heap.size w.heap.size _ (B l) w1 HI1.out (by rw [Lib.byteCells_length, B_size]; have := HS.out; omega) hbs1)
      go_wp2_with fail
      refine HW1.out.mono ?_
      rintro e w2 ⟨rfl, h2, b2⟩
      have HI2 := Aside0.mk (show Lib.IsBuilder 43 5 w.heap.size w.heap.size (Lib.byteCells (flt s)) w2 from by rw [← HE3.out, Lib.byteCells_append]; rw [Lib.strCells_eq, B_data] at h2; exact .inr h2)
      have HB2 := Aside0.mk (HB1.out.trans b2)
      have hbs2 := HB2.out.size
      have HO := Aside0.mk (Tryz.Builder_String_any w.heap.size w.heap.size (flt s) w2 HI2.out hbs2)
      clear h2 b2 HW1 HI1 HB1 hbs1
      go_wp2_with fail
      refine HO.out.mono ?_
      rintro e w3 ⟨rfl, b3⟩
      have HB3 := Aside0.mk (HB2.out.trans b3)
      clear b3
      go_wp2
      repeat (first | refine ex_noGoto_ret ?_ | refine ex_block_ret ?_ | refine ex_then_ret ?_)
      go_ret
      exact ⟨rfl, HB3.out⟩
end Go.Proofs.YtjcfjgcnkbbgmaaGreatDoor.PA

namespace Go.Proofs.YtjcfjgcnkbbgmaaGreatDoor.PA
open Go.RowKit
set_option linter.unusedVariables false

/-- An append whose run is known. -/
theorem met_append {P : Program} {w : World} {ops : Array Oper} {rest : List Oper} {o : Oper} {a : Act} {Q : Exit → Act → World → Prop} {x y : Operand} {t : TypeId} {w' : World} {u v v' : Value}
    (hr : (Builtin.append_ #[t, t] o.type #[u, v]).run P w = .ok v' w') (hgd : o.guard = none) (ho : o.op = .call { callee := .builtin .append, args := #[x, y], argTypes := #[t, t] }) (hx : a.eval x = u) (hy : a.eval y = v)
    (h : wpList P ops Q rest (a.put o.dst v') w') : wpList P ops Q (o :: rest) a w := by
  refine wpList_plain hgd fun K hK => ?_
  unfold Oper.wp execOp
  simp only [ho, resolve, invoke, builtin, Sem.run_bind, Sem.run_pure, Result.andThen_ok, List.map_toArray, List.map_cons, List.map_nil, hx, hy, hr]
  exact hK _ _ h
theorem hid0 {p : Prop} (h : p) : Hid p := h
/-- The eight texts. -/
def pats : List ByteArray := [⟨#[38]⟩, ⟨#[38, 97, 109, 112, 59]⟩, ⟨#[60]⟩, ⟨#[38, 108, 116, 59]⟩, ⟨#[62]⟩, ⟨#[38, 103, 116, 59]⟩, ⟨#[34]⟩, ⟨#[38, 113, 117, 111, 116, 59]⟩]
/-- Eight texts lie in a row. -/
def PatsAt (g : Nat) (w : World) : Prop := g < w.heap.size ∧ ∀ j, j < 8 → w.cell? ⟨g, j, none⟩ = some (.string (pats.getD j ByteArray.empty))
/-- A replacer's record, not yet built. -/
structure RepNew (B b : Nat) (w : World) : Prop where
  lo : B ≤ b
  lt : b < w.heap.size
  c0 : w.cell? ⟨b, 0, none⟩ = some (.int .u32 0)
  c1 : w.cell? ⟨b, 1, none⟩ = some (.int .i32 0)
  c2 : w.cell? ⟨b, 2, none⟩ = some (.int .u32 0)
  c3 : w.cell? ⟨b, 3, none⟩ = some .nilIface
  c4 : ∃ g c, w.cell? ⟨b, 4, none⟩ = some (.slice (some ⟨g, 0, none⟩) 8 c) ∧ 8 ≤ c ∧ PatsAt g w ∧ g ≠ b ∧ B ≤ g
  fz : ∀ j, w.frozen? ⟨b, j, none⟩ = false
set_option maxHeartbeats 2000000 in
set_option maxRecDepth 100000 in
theorem newRep (g : Nat) (w : World) (hg : PatsAt g w) : Calls Tryz.prog 45 #[.slice (some ⟨g, 0, none⟩) 8 8] w fun e w' => ∃ b, e = .returned (.pointer (some ⟨b, 0, none⟩)) ∧ RepNew w.heap.size b w' ∧ Below w.heap.size w w' := by
  have hadd : ∀ j, (⟨g, 0, none⟩ : Addr).add j = ⟨g, j, none⟩ := by
    intro j
    unfold Addr.add
    split
    · rename_i e; subst e; rfl
    · simp
  obtain ⟨i0, hi, hz0, hz1, hz2⟩ := info_parts (show (Tryz.prog.info? 9).map (fun i => (i.zero, i.size, i.bytes)) = some (some (.string ByteArray.empty), 1, 16) by kernel_rfl)
  have hx := fun W (hW : ∀ j, j < 8 → World.cell? W ⟨g, j, none⟩ = some (.string (pats.getD j ByteArray.empty))) ty => run_append_nil (P := Tryz.prog) (w := W) 37 ty 9 i0 (.string ByteArray.empty) Tryz.underlying37 hi hz0 ⟨g, 0, none⟩ 8 8 (pats.map Value.string) (by rw [hz1]; rfl) (by
    intro j v hv
    rw [hadd]
    have hj : j < 8 := (List.getElem?_eq_some_iff.1 hv).1
    rw [hW j hj, ← hv, List.getElem?_map, List.getD_eq_getElem?_getD, List.getElem?_eq_getElem (show j < pats.length from hj)]
    rfl) (by decide) (by decide) (by rw [hz2]; decide)
  have hap := hx w hg.2
  clear hx
  obtain ⟨C, hC⟩ : ∃ C, grownCap w 8 0 9 = C := ⟨_, rfl⟩
  have hC8 : 8 ≤ C := by rw [← hC]; exact grownCap_ge w 8 0 9
  rw [hC] at hap
  have HG := hid0 hg
  clear hg hC hadd hi hz0 hz1 hz2
  go_enter Tryz.func45, Tryz.ntmps45
  go_wp2_with (refine met_append (hap _) rfl rfl rfl rfl ?_)
  go_ret
  have hz : ∀ j, j < 8 → ((List.map Value.string pats).toArray ++ Builtin.zeroCells #[Value.string ByteArray.empty] (C - 8))[j]? = some (.string (pats.getD j ByteArray.empty)) := by
    intro j hj
    rw [Array.getElem?_append_left (by simp [pats]; exact hj), List.getElem?_toArray, List.getElem?_map, List.getD_eq_getElem?_getD, List.getElem?_eq_getElem (show j < pats.length from hj)]
    rfl
  generalize (List.map Value.string pats).toArray ++ Builtin.zeroCells #[Value.string ByteArray.empty] (C - 8) = cs at hz ⊢
  refine ⟨w.heap.size + 1, rfl, { lo := Nat.le_succ _, lt := by simp, c0 := by simp, c1 := by simp, c2 := by simp, c3 := by simp, c4 := ⟨w.heap.size, C, by simp, hC8, ⟨by simp; omega, fun j hj => ?_⟩, by omega, Nat.le_refl _⟩, fz := fun j => by simp }, ((Below.refl _ w).alloc (Nat.le_refl _) _).alloc (by simp) _ |>.drew⟩
  rw [← hz j hj, World.cell?_drew, World.cell?_alloc_past _ _ _ (by simp)]
  simp
end Go.Proofs.YtjcfjgcnkbbgmaaGreatDoor.PA

namespace Go.Proofs.YtjcfjgcnkbbgmaaGreatDoor.PA
open Go.RowKit
set_option linter.unusedVariables false

/-- The four signs, and what stands for each, in the order in which they are laid. -/
def sgs : List UInt8 := [34, 62, 60, 38]
def rps : List (List UInt8) := [[38, 113, 117, 111, 116, 59], [38, 103, 116, 59], [38, 108, 116, 59], [38, 97, 109, 112, 59]]
/-- A row of bytes that stand for a sign. -/
def Rep1 (B c t : Nat) (v : Value) (l : List UInt8) (w : World) : Prop :=
  ∃ gx cap, v = .slice (some ⟨gx, 0, none⟩) l.length cap ∧ l.length ≤ cap ∧ B ≤ gx ∧ gx < w.heap.size ∧ gx ≠ c ∧ gx ≠ t ∧ ∀ j, j < l.length → w.cell? ⟨gx, j, none⟩ = some (.int .u8 (l.getD j 0).toNat)
/-- The record, k signs laid. -/
structure Bld (B c t k : Nat) (w : World) : Prop where
  lc : B ≤ c
  lt : B ≤ t
  ct : c ≠ t
  hc : c < w.heap.size
  ht : t < w.heap.size
  row : ∃ tc : Array Value, w.heap[t]? = some (.cells tc 9 (0, 0)) ∧ tc.size = 4 ∧ ∀ j, j < k → tc[j]? = some (.string ⟨#[sgs.getD j 0]⟩)
  ary : ∃ cc : Array Value, w.heap[c]? = some (.cells cc 126 (0, 0)) ∧ cc.size = 257 ∧ cc[256]? = some (.slice (some ⟨t, 0, none⟩) k 4) ∧
    (∀ j, j < k → ∃ v, cc[(sgs.getD j 0).toNat]? = some v ∧ Rep1 B c t v (rps.getD j []) w) ∧ ∀ x, x < 256 → (∀ j, j < k → (sgs.getD j 0).toNat ≠ x) → cc[x]? = some (.slice none 0 0)
theorem built96 (t : Nat) : (Tryz.prog.built 126 [(1, .slice (some ⟨t, 0, none⟩) 0 4)]) = some (Tryz.zeroCells126.setIfInBounds 256 (.slice (some ⟨t, 0, none⟩) 0 4)) := by kernel_rfl
theorem zero96 : Tryz.zeroCells126.size = 257 := by kernel_rfl
theorem zero96_eq : Tryz.zeroCells126 = Array.replicate 257 (.slice none 0 0) := by kernel_rfl
theorem info96 : (Tryz.prog.info? 126).map (·.size) = some 257 := by kernel_rfl
/-- A build whose cells are known. -/
theorem met_build {P : Program} {w : World} {ops : Array Oper} {rest : List Oper} {o : Oper} {a : Act} {Q : Exit → Act → World → Prop} {t : TypeId} {parts : Array (Nat × Operand)} {l : List (Nat × Value)} {v : Array Value}
    (hb : P.built t l = some v) (hg : o.guard = none) (ho : o.op = .build t parts) (hl : (parts.map fun (i, x) => (i, a.eval x)).toList = l) (h : wpList P ops Q rest (a.put o.dst (.agg v)) w) : wpList P ops Q (o :: rest) a w :=
  wpList_build hg t parts ho (by rw [hl, hb]; rfl) (by rw [hl, hb]; exact h)
theorem rec_one (t : Nat) : (Tryz.zeroCells126.setIfInBounds 256 (.slice (some ⟨t, 0, none⟩) 0 4)).all (·.oneCell') = true := by
  rw [zero96_eq]
  kernel_rfl
theorem heap96 (w : World) (mc : Array Value) : ((w.alloc (.cells mc 9)).alloc (.cells Tryz.zeroCells126 126)).heap[w.heap.size + 1]? = some (.cells Tryz.zeroCells126 126 (0, 0)) := by
  have h := heap_alloc_new (w.alloc (.cells mc 9)) (.cells Tryz.zeroCells126 126)
  rw [World.size_alloc] at h
  exact h
theorem size96 (t : Nat) : (Tryz.zeroCells126.setIfInBounds 256 (.slice (some ⟨t, 0, none⟩) 0 4)).size = 257 := by rw [Array.size_setIfInBounds, zero96]
theorem met_store96 {w : World} {ops : Array Oper} {rest : List Oper} {o : Oper} {a : Act} {Q : Exit → Act → World → Prop} {mc : Array Value} {x y : Operand} {t : Nat}
    (hgd : o.guard = none) (ho : o.op = .store 126 x y) (hx : a.eval x = .pointer (some ⟨w.heap.size + 1, 0, none⟩)) (hy : a.eval y = .agg (Tryz.zeroCells126.setIfInBounds 256 (.slice (some ⟨t, 0, none⟩) 0 4)))
    (h : wpList Tryz.prog ops Q rest (a.put o.dst undef) (((w.alloc (.cells mc 9)).alloc (.cells Tryz.zeroCells126 126)).setRow (w.heap.size + 1) (Tryz.zeroCells126.setIfInBounds 256 (.slice (some ⟨t, 0, none⟩) 0 4)))) :
    wpList Tryz.prog ops Q (o :: rest) a ((w.alloc (.cells mc 9)).alloc (.cells Tryz.zeroCells126 126)) :=
  wpList_store_row hgd _ x y ho (w.heap.size + 1) _ hx hy 126 Tryz.zeroCells126 (heap96 w mc) (info96.trans (congrArg some (size96 t).symm)) (zero96.trans (size96 t).symm) (rec_one t) h
theorem eql_nil (a : Option Addr) (l c : Nat) (W : World) : (binOp .eql 41 (.slice a l c) (.slice none 0 0)).run Tryz.prog W = .ok (.bool a.isNone) W := by
  simp only [binOp]
  simp [run_equal_slice_nil W 41 5 a l c Tryz.underlying41]
/-- Behind the append: the sign's text lies in the row of signs. -/
def wA (wr : World) (t k : Nat) (tc : Array Value) (x : Int) (S : ByteArray) : World :=
  ((wr.alloc (.cells #[.int .u8 x] 5)).alloc (.cells #[.string S] 9)).setRow t (tc.toList.take k ++ [Value.string S] ++ tc.toList.drop (k + 1)).toArray
def wB (wr : World) (t k : Nat) (tc : Array Value) (x : Int) (S : ByteArray) (c : Nat) : World := (wA wr t k tc x S).setCell ⟨c, 256, none⟩ (.slice (some ⟨t, 0, none⟩) (k + 1) 4)
def wC (wr : World) (t k : Nat) (tc : Array Value) (x : Int) (S : ByteArray) (c : Nat) (R : ByteArray) : World := Lib.bytesWorld (wB wr t k tc x S c) 5 R
section
variable {wr : World} {t k c : Nat} {tc cc : Array Value} {x : Int} {S R : ByteArray}
theorem wA_size : (wA wr t k tc x S).heap.size = wr.heap.size + 2 := by simp [wA]
theorem wA_old {j : Nat} (h : j < wr.heap.size) (hj : j ≠ t) : (wA wr t k tc x S).heap[j]? = wr.heap[j]? := by
  unfold wA
  rw [setRow_other _ _ _ _ hj, Below.heap_alloc _ _ _ (by simp; omega), Below.heap_alloc _ _ _ h]
theorem wA_row (ht : wr.heap[t]? = some (.cells tc 9 (0, 0))) : (wA wr t k tc x S).heap[t]? = some (.cells (tc.toList.take k ++ [Value.string S] ++ tc.toList.drop (k + 1)).toArray 9 (0, 0)) := by
  have hl : t < wr.heap.size := (Array.getElem?_eq_some_iff.1 ht).1
  refine setRow_heap _ t tc _ _ _ ?_
  rw [Below.heap_alloc _ _ _ (by simp; omega), Below.heap_alloc _ _ _ hl]
  exact ht
theorem wB_size : (wB wr t k tc x S c).heap.size = wr.heap.size + 2 := by unfold wB; rw [World.size_setCell, wA_size]
theorem wB_old {j : Nat} (h : j < wr.heap.size) (hj : j ≠ t) (hc : j ≠ c) : (wB wr t k tc x S c).heap[j]? = wr.heap[j]? := by
  unfold wB
  rw [Below.heap_setCell _ _ _ _ hc, wA_old h hj]
theorem wB_row (ht : wr.heap[t]? = some (.cells tc 9 (0, 0))) (htc : t ≠ c) : (wB wr t k tc x S c).heap[t]? = some (.cells (tc.toList.take k ++ [Value.string S] ++ tc.toList.drop (k + 1)).toArray 9 (0, 0)) := by
  unfold wB
  rw [Below.heap_setCell _ _ _ _ htc, wA_row ht]
theorem wB_rec (hc : wr.heap[c]? = some (.cells cc 126 (0, 0))) (htc : c ≠ t) : (wB wr t k tc x S c).heap[c]? = some (.cells (cc.setIfInBounds 256 (.slice (some ⟨t, 0, none⟩) (k + 1) 4)) 126 (0, 0)) := by
  have hl : c < wr.heap.size := (Array.getElem?_eq_some_iff.1 hc).1
  have h1 : (wA wr t k tc x S).heap[c]? = some (.cells cc 126 (0, 0)) := by rw [wA_old hl htc]; exact hc
  unfold wB
  rw [setCell_eq_setRow _ _ _ _ _ _ _ h1]
  exact setRow_heap _ _ _ _ _ _ h1
theorem wC_size : (wC wr t k tc x S c R).heap.size = wr.heap.size + 3 := by unfold wC; rw [Lib.bytesWorld_size, wB_size]
theorem wC_old {j : Nat} (h : j < wr.heap.size) (hj : j ≠ t) (hc : j ≠ c) : (wC wr t k tc x S c R).heap[j]? = wr.heap[j]? := by
  unfold wC
  rw [Lib.bytesWorld_at_old _ _ _ _ (by rw [wB_size]; omega), wB_old h hj hc]
theorem wC_row (ht : wr.heap[t]? = some (.cells tc 9 (0, 0))) (htc : t ≠ c) : (wC wr t k tc x S c R).heap[t]? = some (.cells (tc.toList.take k ++ [Value.string S] ++ tc.toList.drop (k + 1)).toArray 9 (0, 0)) := by
  have hl : t < wr.heap.size := (Array.getElem?_eq_some_iff.1 ht).1
  unfold wC
  rw [Lib.bytesWorld_at_old _ _ _ _ (by rw [wB_size]; omega), wB_row ht htc]
theorem wC_rec (hc : wr.heap[c]? = some (.cells cc 126 (0, 0))) (htc : c ≠ t) : (wC wr t k tc x S c R).heap[c]? = some (.cells (cc.setIfInBounds 256 (.slice (some ⟨t, 0, none⟩) (k + 1) 4)) 126 (0, 0)) := by
  have hl : c < wr.heap.size := (Array.getElem?_eq_some_iff.1 hc).1
  unfold wC
  rw [Lib.bytesWorld_at_old _ _ _ _ (by rw [wB_size]; omega), wB_rec hc htc]
theorem wA_run (ht : wr.heap[t]? = some (.cells tc 9 (0, 0))) (hs : tc.size = 4) (hk : k < 4) (ty : TypeId) :
    (Builtin.append_ #[37, 37] ty #[.slice (some ⟨t, 0, none⟩) k 4, .slice (some ⟨wr.heap.size + 1, 0, none⟩) 1 1]).run Tryz.prog ((wr.alloc (.cells #[.int .u8 x] 5)).alloc (.cells #[.string S] 9)) = .ok (.slice (some ⟨t, 0, none⟩) (k + 1) 4) (wA wr t k tc x S) := by
  obtain ⟨i0, hi, hz0, hz1, hz2⟩ := info_parts (show (Tryz.prog.info? 9).map (fun i => (i.zero, i.size, i.bytes)) = some (some (.string ByteArray.empty), 1, 16) by kernel_rfl)
  have hl : t < wr.heap.size := (Array.getElem?_eq_some_iff.1 ht).1
  have h := run_append_room (P := Tryz.prog) ((wr.alloc (.cells #[.int .u8 x] 5)).alloc (.cells #[.string S] 9)) 37 ty 9 i0 Tryz.underlying37 hi t k 4 tc (by rw [Below.heap_alloc _ _ _ (by simp; omega), Below.heap_alloc _ _ _ hl]; exact ht) ⟨wr.heap.size + 1, 0, none⟩ 1 1 [.string S] (by rw [hz1]; rfl) (by
    intro j u hu
    cases j with
    | zero =>
      obtain rfl := Option.some.inj hu
      simp [Addr.add]
    | succ j => simp at hu) (by intro u hu; rw [List.mem_singleton] at hu; subst hu; rfl) (by omega) (by rw [hz1, hs]; simp; omega)
  rw [h, hz1]
  simp [wA]
theorem bld_step {B : Nat} (hk : k < 4) (HD : Bld B c t k wr) (ht1 : wr.heap[t]? = some (.cells tc 9 (0, 0))) (ht2 : tc.size = 4) (ht3 : ∀ j, j < k → tc[j]? = some (.string ⟨#[sgs.getD j 0]⟩)) (hB : B ≤ wr.heap.size)
    (hc1 : wr.heap[c]? = some (.cells cc 126 (0, 0))) (hc2 : cc.size = 257) (hc3 : cc[256]? = some (.slice (some ⟨t, 0, none⟩) k 4))
    (hc4 : ∀ j, j < k → ∃ v, cc[(sgs.getD j 0).toNat]? = some v ∧ Rep1 B c t v (rps.getD j []) wr) (hc5 : ∀ x, x < 256 → (∀ j, j < k → (sgs.getD j 0).toNat ≠ x) → cc[x]? = some (.slice none 0 0))
    (hS : S = ⟨#[sgs.getD k 0]⟩) (hR : R = ⟨(rps.getD k []).toArray⟩) {m cap : Nat} (hm : m = (rps.getD k []).length) (hcap : m ≤ cap) {n : Nat} (hn : n = (sgs.getD k 0).toNat) :
    Bld B c t (k + 1) ((wC wr t k tc x S c R).setCell ⟨c, n, none⟩ (.slice (some ⟨wr.heap.size + 2, 0, none⟩) m cap)) := by
  subst hS hR hm hn
  have hlt : t < wr.heap.size := (Array.getElem?_eq_some_iff.1 ht1).1
  have hlc : c < wr.heap.size := (Array.getElem?_eq_some_iff.1 hc1).1
  have hct := HD.ct
  have hr := wC_rec (k := k) (tc := tc) (x := x) (S := ⟨#[sgs.getD k 0]⟩) (R := ⟨(rps.getD k []).toArray⟩) hc1 hct
  refine { lc := HD.lc, lt := HD.lt, ct := hct, hc := by rw [World.size_setCell, wC_size]; omega, ht := by rw [World.size_setCell, wC_size]; omega, row := ?_, ary := ?_ }
  · refine ⟨_, by rw [Below.heap_setCell _ _ _ _ (Ne.symm hct)]; exact wC_row ht1 (Ne.symm hct), ?_, ?_⟩
    · simp [ht2]; omega
    · intro j hj
      rw [List.getElem?_toArray]
      rcases Nat.lt_succ_iff_lt_or_eq.1 hj with h | rfl
      · rw [List.append_assoc, List.getElem?_append_left (by rw [List.length_take, Array.length_toList]; omega), List.getElem?_take, if_pos h, Array.getElem?_toList]
        exact ht3 j h
      · rw [List.append_assoc, List.getElem?_append_right (by rw [List.length_take, Array.length_toList]; omega), List.length_take, Array.length_toList, show j - min j tc.size = 0 by omega]
        rfl
  · have hn256 : (sgs.getD k 0).toNat < 256 := (sgs.getD k 0).toNat_lt
    refine ⟨_, by rw [setCell_eq_setRow _ _ _ _ _ _ _ hr]; exact setRow_heap _ _ _ _ _ _ hr, ?_, ?_, ?_, ?_⟩
    · simp [hc2]
    · rw [Array.getElem?_setIfInBounds_ne (by omega), Array.getElem?_setIfInBounds_self_of_lt (by omega)]
    · intro j hj
      have hold : ∀ v, Rep1 B c t v (rps.getD j []) wr → Rep1 B c t v (rps.getD j []) ((wC wr t k tc x ⟨#[sgs.getD k 0]⟩ c ⟨(rps.getD k []).toArray⟩).setCell ⟨c, (sgs.getD k 0).toNat, none⟩ (.slice (some ⟨wr.heap.size + 2, 0, none⟩) (rps.getD k []).length cap)) := by
        rintro v ⟨gx, cp, h1, h2, h3, h4, h5, h6, h7⟩
        refine ⟨gx, cp, h1, h2, h3, by rw [World.size_setCell, wC_size]; omega, h5, h6, fun i hi => ?_⟩
        rw [← h7 i hi]
        refine World.cell?_of_block ?_
        rw [Below.heap_setCell _ _ _ _ h5]
        exact wC_old h4 h6 h5
      rcases Nat.lt_succ_iff_lt_or_eq.1 hj with h | rfl
      · obtain ⟨v, h1, h2⟩ := hc4 j h
        have hne : (sgs.getD k 0).toNat ≠ (sgs.getD j 0).toNat := by
          have : ∀ k : Fin 4, ∀ j : Fin 4, j < k → (sgs.getD k.val 0).toNat ≠ (sgs.getD j.val 0).toNat := by decide
          exact this ⟨k, hk⟩ ⟨j, by omega⟩ h
        have h256 : (sgs.getD j 0).toNat < 256 := (sgs.getD j 0).toNat_lt
        exact ⟨v, by rw [Array.getElem?_setIfInBounds_ne hne, Array.getElem?_setIfInBounds_ne (by omega)]; exact h1, hold v h2⟩
      · refine ⟨_, by rw [Array.getElem?_setIfInBounds_self_of_lt (by rw [Array.size_setIfInBounds]; omega)], _, cap, rfl, hcap, by omega, by rw [World.size_setCell, wC_size]; omega, by omega, by omega, fun i hi => ?_⟩
        have e1 : ∀ W : World, wr.heap.size + 2 ≠ c → (W.setCell ⟨c, (sgs.getD j 0).toNat, none⟩ (.slice (some ⟨wr.heap.size + 2, 0, none⟩) (rps.getD j []).length cap)).cell? ⟨wr.heap.size + 2, i, none⟩ = W.cell? ⟨wr.heap.size + 2, i, none⟩ := fun W h => World.cell?_of_block (Below.heap_setCell _ _ _ _ h)
        rw [e1 _ (by omega)]
        have e2 := Lib.bytesWorld_cell (wB wr t j tc x ⟨#[sgs.getD j 0]⟩ c) 5 ⟨(rps.getD j []).toArray⟩ i hi
        rw [wB_size] at e2
        exact e2
    · intro y hy hn
      have h1 := hn k (by omega)
      rw [Array.getElem?_setIfInBounds_ne h1, Array.getElem?_setIfInBounds_ne (by omega)]
      exact hc5 y hy (fun j hj => hn j (by omega))
theorem wC_below {w : World} {n : Nat} {v : Value} (h : Below w.heap.size w wr) (hbt : w.heap.size ≤ t) (hbc : w.heap.size ≤ c) : Below w.heap.size w ((wC wr t k tc x S c R).setCell ⟨c, n, none⟩ v) := by
  have hs := h.size
  refine Below.setCell ?_ hbc v
  have h1 : Below w.heap.size w (wA wr t k tc x S) := below_setRow ((h.alloc hs _).alloc (by simp; omega) _) hbt _
  have h2 : Below w.heap.size w (wB wr t k tc x S c) := Below.setCell h1 hbc _
  exact h2.trans ⟨rfl, rfl, rfl, by unfold wC; rw [Lib.bytesWorld_size]; omega, fun j hj => Lib.bytesWorld_at_old _ _ _ j (by rw [wB_size]; omega)⟩
end
/-- The record at its start. -/
theorem bld0 (w : World) (mc : Array Value) (hm : mc.size = 4) : Hid (Bld w.heap.size (w.heap.size + 1) w.heap.size 0 (((w.alloc (.cells mc 9)).alloc (.cells Tryz.zeroCells126 126)).setRow (w.heap.size + 1) (Tryz.zeroCells126.setIfInBounds 256 (.slice (some ⟨w.heap.size, 0, none⟩) 0 4)))) := by
  refine hid0 { lc := Nat.le_succ _, lt := Nat.le_refl _, ct := by omega, hc := by simp, ht := by simp; omega, row := ⟨mc, ?_, hm, fun j hj => by omega⟩, ary := ⟨_, setRow_heap _ _ _ _ _ _ (heap96 w mc), size96 _, ?_, fun j hj => by omega, fun x hx _ => ?_⟩ }
  · rw [setRow_other _ _ _ _ (by omega), Below.heap_alloc _ _ _ (by simp)]
    exact heap_alloc_new w _
  · rw [Array.getElem?_setIfInBounds_self_of_lt (by rw [zero96]; decide)]
  · rw [Array.getElem?_setIfInBounds_ne (by omega), zero96_eq, Array.getElem?_replicate, if_pos (by omega)]
theorem below0 (w : World) (mc : Array Value) : Below w.heap.size w (((w.alloc (.cells mc 9)).alloc (.cells Tryz.zeroCells126 126)).setRow (w.heap.size + 1) (Tryz.zeroCells126.setIfInBounds 256 (.slice (some ⟨w.heap.size, 0, none⟩) 0 4))) :=
  below_setRow (((Below.refl _ w).alloc (Nat.le_refl _) _).alloc (by simp) _) (Nat.le_succ _) _
end Go.Proofs.YtjcfjgcnkbbgmaaGreatDoor.PA
