/-
  The law TagsTexts holds: for every input it answers true, its arguments read behind the call as before. Conditions: the listed package-level variables as the program's text lays them (tied by the card).
-/
import Derived.Test.YtjcfjgcnkbbgmaaGreatDoorSTagsTexts5
import Derived.Test.YtjcfjgcnkbbgmaaGreatDoorSTagsTexts3
import Derived.Test.YtjcfjgcnkbbgmaaGreatDoorSTagsTexts1
set_option linter.unusedVariables false
namespace Go.Proofs.YtjcfjgcnkbbgmaaGreatDoor.Pure
open Go.RowKit Go.Proofs.YtjcfjgcnkbbgmaaGreatDoorW.PrintWords Go.Proofs.YtjcfjgcnkbbgmaaGreatDoorW.PrintMore Go.Proofs.YtjcfjgcnkbbgmaaGreatDoor.Pl Go.Proofs.YtjcfjgcnkbbgmaaGreatDoor.PA

/-- How long the tag is that a text begins with, how many attributes it has. -/
theorem rd_len (l : List UInt8) : 0 ≤ (rdT l).2.2.2.2 ∧ (rdT l).2.2.2.2 ≤ (l.length : Int) ∧ ((rdT l).2.2.2.1.length : Int) ≤ (rdT l).2.2.2.2 := by
  cases l with
  | nil => exact ⟨Int.le_refl _, Int.le_refl _, Int.le_refl _⟩
  | cons x t =>
    have z : 0 ≤ zT.2.2.2.2 ∧ zT.2.2.2.2 ≤ (((x :: t).length : Nat) : Int) ∧ (zT.2.2.2.1.length : Int) ≤ zT.2.2.2.2 := ⟨Int.le_refl _, Int.natCast_nonneg _, Int.le_refl _⟩
    rw [rdT]
    split
    · split
      · rename_i p1
        obtain ⟨u, rfl⟩ := List.isPrefixOf_iff_prefix.1 p1
        show 0 ≤ (rdE u).2.2.2.2 ∧ (rdE u).2.2.2.2 ≤ _ ∧ ((rdE u).2.2.2.1.length : Int) ≤ (rdE u).2.2.2.2
        unfold rdE
        have hn := nm_le false u 0
        split
        · exact z
        · split
          · rename_i p2
            have h2 := (List.isPrefixOf_iff_prefix.1 p2).length_le
            rw [List.length_drop] at h2
            simp only [List.length_singleton] at h2
            refine ⟨Int.natCast_nonneg _, ?_, ?_⟩
            · show ((nm false 0 u + 3 : Nat) : Int) ≤ _
              simp only [List.length_cons, List.length_append, List.length_nil]
              omega
            · show ((0 : Nat) : Int) ≤ ((nm false 0 u + 3 : Nat) : Int)
              omega
          · exact z
      · unfold rdB
        have hn := nm_le false t 0
        obtain ⟨q, hq⟩ : ∃ q, ats t.length (t.drop (nm false 0 t)) = q := ⟨_, rfl⟩
        have hql := ats_len t.length (t.drop (nm false 0 t))
        rw [hq] at hql ⊢
        rw [List.length_drop] at hql
        split
        · exact z
        · split
          · rename_i p2
            have h2 := (List.isPrefixOf_iff_prefix.1 p2).length_le
            simp only [List.length_singleton] at h2
            refine ⟨Int.natCast_nonneg _, ?_, ?_⟩
            · show ((t.length + 1 - q.2.length + 1 : Nat) : Int) ≤ _
              simp only [List.length_cons]
              omega
            · show ((q.1.length : Nat) : Int) ≤ ((t.length + 1 - q.2.length + 1 : Nat) : Int)
              omega
          · split
            · rename_i p3
              have h2 := (List.isPrefixOf_iff_prefix.1 p3).length_le
              simp only [List.length_cons, List.length_nil] at h2
              refine ⟨Int.natCast_nonneg _, ?_, ?_⟩
              · show ((t.length + 1 - q.2.length + 3 : Nat) : Int) ≤ _
                simp only [List.length_cons]
                omega
              · show ((q.1.length : Nat) : Int) ≤ ((t.length + 1 - q.2.length + 3 : Nat) : Int)
                omega
            · exact z
    · exact z
/-- A tag, or a byte. -/
abbrev Tok := (ByteArray × Bool × Bool × List S63) ⊕ UInt8
def tok : Nat → List UInt8 → List Tok
  | 0, _ => []
  | _ + 1, [] => []
  | f + 1, x :: t => if (rdT (x :: t)).2.2.2.2 = 0 then .inr x :: tok f t else .inl ((rdT (x :: t)).1, (rdT (x :: t)).2.1, (rdT (x :: t)).2.2.1, (rdT (x :: t)).2.2.2.1) :: tok f ((x :: t).drop (rdT (x :: t)).2.2.2.2.toNat)
theorem tok_nil (f : Nat) : tok f [] = [] := by cases f <;> rfl
theorem tok_byte (f : Nat) (x : UInt8) (t : List UInt8) (h : (rdT (x :: t)).2.2.2.2 = 0) : tok (f + 1) (x :: t) = .inr x :: tok f t := by rw [tok, if_pos h]
theorem tok_tag (f : Nat) (x : UInt8) (t : List UInt8) (h : ¬ (rdT (x :: t)).2.2.2.2 = 0) : tok (f + 1) (x :: t) = .inl ((rdT (x :: t)).1, (rdT (x :: t)).2.1, (rdT (x :: t)).2.2.1, (rdT (x :: t)).2.2.2.1) :: tok f ((x :: t).drop (rdT (x :: t)).2.2.2.2.toNat) := by rw [tok, if_neg h]
theorem tok_more : ∀ (f g : Nat) (l : List UInt8), l.length ≤ f → l.length ≤ g → tok f l = tok g l := by
  intro f
  induction f with
  | zero => intro g l h1 h2; obtain rfl : l = [] := List.length_eq_zero_iff.1 (by omega); rw [tok_nil, tok_nil]
  | succ f ih =>
    intro g l h1 h2
    cases l with
    | nil => rw [tok_nil, tok_nil]
    | cons x t =>
      rw [List.length_cons] at h1 h2
      obtain ⟨g, rfl⟩ : ∃ m, g = m + 1 := ⟨g - 1, by omega⟩
      have hd := rd_len (x :: t)
      rw [List.length_cons] at hd
      by_cases h0 : (rdT (x :: t)).2.2.2.2 = 0
      · rw [tok_byte f x t h0, tok_byte g x t h0, ih g t (by omega) (by omega)]
      · rw [tok_tag f x t h0, tok_tag g x t h0, ih g _ (by rw [List.length_drop, List.length_cons]; omega) (by rw [List.length_drop, List.length_cons]; omega)]
def tk (l : List UInt8) : List Tok := tok l.length l
theorem tk_nil : tk [] = [] := rfl
theorem tk_byte (x : UInt8) (t : List UInt8) (h : (rdT (x :: t)).2.2.2.2 = 0) : tk (x :: t) = .inr x :: tk t := tok_byte t.length x t h
theorem tk_tag (x : UInt8) (t : List UInt8) (h : ¬ (rdT (x :: t)).2.2.2.2 = 0) : tk (x :: t) = .inl ((rdT (x :: t)).1, (rdT (x :: t)).2.1, (rdT (x :: t)).2.2.1, (rdT (x :: t)).2.2.2.1) :: tk ((x :: t).drop (rdT (x :: t)).2.2.2.2.toNat) := by
  have hd := rd_len (x :: t)
  rw [List.length_cons] at hd
  show tok (t.length + 1) (x :: t) = _
  rw [tok_tag t.length x t h]
  congr 1
  exact tok_more _ _ _ (by rw [List.length_drop, List.length_cons]; omega) (Nat.le_refl _)
/-- What is gathered over tags and bytes. -/
def run {σ : Type} (fT : σ → ByteArray → Bool → Bool → List S63 → Option (Option σ)) (fO : σ → Int → Option (Option σ)) : σ → List Tok → Option (Option σ)
  | x, [] => some (some x)
  | x, .inl t :: r => (fT x t.1 t.2.1 t.2.2.1 t.2.2.2).bind fun q => (match q with | none => some none | some y => run fT fO y r)
  | x, .inr b :: r => (fO x (b.toNat : Int)).bind fun q => (match q with | none => some none | some y => run fT fO y r)
theorem each_run {σ : Type} (fT : σ → ByteArray → Bool → Bool → List S63 → Option (Option σ)) (fO : σ → Int → Option (Option σ)) : ∀ (g : Nat) (l : List UInt8), l.length ≤ g → l.length ≤ 1073741823 →
    ∃ K, ∀ k, K ≤ k → ∀ f, l.length < f → ∀ x, tags_each.l fT fO k f (B l) x = run fT fO x (tk l) := by
  intro g
  induction g with
  | zero =>
    intro l h1 h2
    obtain rfl : l = [] := List.length_eq_zero_iff.1 (by omega)
    refine ⟨0, fun k _ f hf x => ?_⟩
    obtain ⟨f, rfl⟩ : ∃ m, f = m + 1 := ⟨f - 1, by simp at hf; omega⟩
    rw [tags_each.l, if_pos (B_toList []), tk_nil, run]
  | succ g ih =>
    intro l h1 h2
    cases l with
    | nil =>
      refine ⟨0, fun k _ f hf x => ?_⟩
      obtain ⟨f, rfl⟩ : ∃ m, f = m + 1 := ⟨f - 1, by simp at hf; omega⟩
      rw [tags_each.l, if_pos (B_toList []), tk_nil, run]
    | cons x0 t =>
      obtain ⟨K0, hK0⟩ : ∃ K, ∀ k, K ≤ k → tags_Read.f k (B (x0 :: t)) = some (rdT (x0 :: t)) := read_ev (x0 :: t) (by omega)
      have hd := rd_len (x0 :: t)
      rw [List.length_cons] at h1 h2 hd
      have hsz : ((B (x0 :: t)).size : Int) = (t.length : Int) + 1 := by rw [B_size, List.length_cons]; omega
      have hbt := B_bt (x0 :: t) 0 (by simp)
      rw [List.getElem_cons_zero] at hbt
      by_cases h0 : (rdT (x0 :: t)).2.2.2.2 = 0
      · obtain ⟨K1, hK1⟩ := ih t (by omega) (by omega)
        refine ⟨max K0 K1, fun k hk f hf x => ?_⟩
        obtain ⟨f, rfl⟩ : ∃ m, f = m + 1 := ⟨f - 1, by omega⟩
        rw [List.length_cons] at hf
        have he : (B (x0 :: t)).extract 1 (B (x0 :: t)).size = B t := by rw [B_from _ 1 _ (B_size _)]; rfl
        rw [tags_each.l, if_neg (by rw [B_toList]; simp), hK0 k (by omega), Option.bind_some, if_pos h0, show bt (B (x0 :: t)) 0 = (x0.toNat : Int) from hbt, he, tk_byte x0 t h0, run]
        congr 1
        funext q
        cases q with
        | none => rfl
        | some y => exact hK1 k (by omega) f (by omega) y
      · obtain ⟨d, hdd⟩ : ∃ d : Nat, (rdT (x0 :: t)).2.2.2.2 = (d : Int) := ⟨(rdT (x0 :: t)).2.2.2.2.toNat, by omega⟩
        have hdl : ((x0 :: t).drop d).length ≤ t.length := by rw [List.length_drop, List.length_cons]; omega
        obtain ⟨K1, hK1⟩ := ih ((x0 :: t).drop d) (by omega) (by omega)
        refine ⟨max K0 K1, fun k hk f hf x => ?_⟩
        obtain ⟨f, rfl⟩ : ∃ m, f = m + 1 := ⟨f - 1, by omega⟩
        rw [List.length_cons] at hf
        rw [tags_each.l, if_neg (by rw [B_toList]; simp), hK0 k (by omega), Option.bind_some, if_neg h0, if_pos ⟨hd.1, by omega⟩, tk_tag x0 t h0, hdd, Int.toNat_natCast, B_from _ _ _ (B_size _), run]
        congr 1
        funext q
        cases q with
        | none => rfl
        | some y => exact hK1 k (by omega) f (by omega) y
theorem each_ev {σ : Type} (fT : σ → ByteArray → Bool → Bool → List S63 → Option (Option σ)) (fO : σ → Int → Option (Option σ)) (l : List UInt8) (hl : l.length ≤ 1073741823) (x : σ) (r : Option σ) (h : run fT fO x (tk l) = some r) :
    Ev (fun k => tags_each.l fT fO k k (B l) x) r := by
  obtain ⟨K, hK⟩ := each_run fT fO l.length l (Nat.le_refl _) hl
  exact ⟨max K (l.length + 1), fun k hk => (hK k (by omega) k (by omega) x).trans h⟩
theorem tok_len : ∀ (f : Nat) (l : List UInt8), l.length ≤ f → (tok f l).length ≤ l.length := by
  intro f
  induction f with
  | zero => intro l h; simp [tok]
  | succ f ih =>
    intro l h
    cases l with
    | nil => simp [tok]
    | cons x t =>
      have hd := rd_len (x :: t)
      rw [List.length_cons] at h hd ⊢
      by_cases h0 : (rdT (x :: t)).2.2.2.2 = 0
      · rw [tok_byte f x t h0, List.length_cons]
        have := ih t (by omega)
        omega
      · rw [tok_tag f x t h0, List.length_cons]
        have h2 : ((x :: t).drop (rdT (x :: t)).2.2.2.2.toNat).length ≤ t.length := by rw [List.length_drop, List.length_cons]; omega
        have := ih _ (Nat.le_trans h2 (by omega))
        omega
theorem tk_len (l : List UInt8) : (tk l).length ≤ l.length := tok_len _ l (Nat.le_refl _)
/-! #### what is left of a text -/
def txtK : List Tok → List UInt8
  | [] => []
  | .inl _ :: r => txtK r
  | .inr b :: r => b :: txtK r
theorem run_txt : ∀ (ts : List Tok) (x : List UInt8), x.length + ts.length ≤ 1048576 → run txtT txtO x ts = some (some (x ++ txtK ts))
  | [], x, _ => by rw [run, txtK, List.append_nil]
  | .inl t :: r, x, h => by
    rw [List.length_cons] at h
    rw [run, txtK]
    exact run_txt r x (by omega)
  | .inr b :: r, x, h => by
    rw [List.length_cons] at h
    rw [run, txtK]
    unfold txtO
    rw [if_pos (by omega), Int.toNat_natCast, show b.toNat.toUInt8 = b from by simp]
    have := run_txt r (x ++ [b]) (by rw [List.length_append, List.length_singleton]; omega)
    rw [List.append_assoc] at this
    exact this
theorem text_ev (l : List UInt8) (hl : l.length ≤ 1048576) : Ev (fun k => tags_Text.f k (B l)) (B (txtK (tk l))) := by
  have h := each_ev txtT txtO l (by omega) [] _ (run_txt (tk l) [] (by have := tk_len l; simp; omega))
  unfold tags_Text.f
  exact Ev.bind h (Ev.now _)
/-! #### ids -/
/-! #### the check -/
end Go.Proofs.YtjcfjgcnkbbgmaaGreatDoor.Pure

namespace Go.Proofs.YtjcfjgcnkbbgmaaGreatDoor.Pure
open Go.RowKit Go.Proofs.YtjcfjgcnkbbgmaaGreatDoorW.PrintWords Go.Proofs.YtjcfjgcnkbbgmaaGreatDoorW.PrintMore Go.Proofs.YtjcfjgcnkbbgmaaGreatDoor.Pl Go.Proofs.YtjcfjgcnkbbgmaaGreatDoor.PA

def ends (r : List UInt8) : Prop := ([62] : List UInt8).isPrefixOf r = true ∨ ([32, 47, 62] : List UInt8).isPrefixOf r = true
theorem att_ends (r : List UInt8) (h : ends r) : att r = none := by
  rcases h with h | h
  · obtain ⟨u, rfl⟩ := List.isPrefixOf_iff_prefix.1 h
    rfl
  · obtain ⟨u, rfl⟩ := List.isPrefixOf_iff_prefix.1 h
    rfl
/-- Letters. -/
def lets (l : List UInt8) : Prop := ∀ x ∈ l, sm x = true
theorem nm_lets (d : Bool) (y : UInt8) (r : List UInt8) (hy : ∀ i, okN d i y = false) : ∀ (l : List UInt8) (i : Nat), lets l → nm d i (l ++ y :: r) = l.length
  | [], i, h => by rw [List.nil_append, nm, if_neg (by rw [hy]; decide)]; rfl
  | x :: t, i, h => by
    have hx : okN d i x = true := by unfold okN; rw [if_pos (h x List.mem_cons_self)]
    rw [List.cons_append, nm, if_pos hx, nm_lets d y r hy t (i + 1) (fun z hz => h z (List.mem_cons_of_mem _ hz)), List.length_cons]
theorem ok62 (d : Bool) : ∀ i, okN d i 62 = false := by
  intro i
  unfold okN
  rw [if_neg (by decide)]
  split
  · rw [if_neg (by decide)]
    split <;> rfl
  · rfl
theorem ok32 (d : Bool) : ∀ i, okN d i 32 = false := by
  intro i
  unfold okN
  rw [if_neg (by decide)]
  split
  · rw [if_neg (by decide)]
    split <;> rfl
  · rfl
theorem not47 (n r : List UInt8) (hl : lets n) (hn : n ≠ []) : ¬ ([47] : List UInt8).isPrefixOf (n ++ r) = true := by
  cases n with
  | nil => exact absurd rfl hn
  | cons x t =>
    have := hl x List.mem_cons_self
    intro h
    simp [List.isPrefixOf] at h
    subst h
    exact absurd this (by decide)
theorem rd_end (n r : List UInt8) (hl : lets n) (hn : n ≠ []) : rdT (60 :: 47 :: (n ++ 62 :: r)) = (B n, true, false, [], ((n.length + 3 : Nat) : Int)) := by
  have h0 : n.length ≠ 0 := fun e => hn (List.length_eq_zero_iff.1 e)
  rw [rdT, if_pos rfl, if_pos (by simp [List.isPrefixOf]), List.drop_one, List.tail_cons]
  unfold rdE
  rw [nm_lets false 62 r (ok62 false) n 0 hl, if_neg h0, List.drop_left, if_pos (by simp [List.isPrefixOf]), List.take_left]
theorem rd_beg (n r : List UInt8) (hl : lets n) (hn : n ≠ []) : rdT (60 :: (n ++ 62 :: r)) = (B n, false, false, [], ((n.length + 2 : Nat) : Int)) := by
  have h0 : n.length ≠ 0 := fun e => hn (List.length_eq_zero_iff.1 e)
  rw [rdT, if_pos rfl, if_neg (not47 n _ hl hn)]
  unfold rdB
  rw [nm_lets false 62 r (ok62 false) n 0 hl, if_neg h0, List.drop_left, List.take_left, ats_none _ (62 :: r) rfl, if_pos (by simp [List.isPrefixOf])]
  show (B n, false, false, ([] : List S63), (((n ++ 62 :: r).length + 1 - (62 :: r).length + 1 : Nat) : Int)) = _
  rw [List.length_append, show n.length + (62 :: r).length + 1 - (62 :: r).length + 1 = n.length + 2 by omega]
theorem tk_end (n r : List UInt8) (hl : lets n) (hn : n ≠ []) : tk (60 :: 47 :: (n ++ 62 :: r)) = .inl (B n, true, false, []) :: tk r := by
  have h := rd_end n r hl hn
  rw [tk_tag 60 _ (by rw [h]; show ¬ ((n.length + 3 : Nat) : Int) = 0; omega), h]
  dsimp only
  rw [Int.toNat_natCast, List.drop_succ_cons, List.drop_succ_cons, List.drop_append, Nat.add_sub_cancel_left]
  simp
  rw [List.drop_of_length_le (by omega), List.nil_append]
theorem tk_beg (n r : List UInt8) (hl : lets n) (hn : n ≠ []) : tk (60 :: (n ++ 62 :: r)) = .inl (B n, false, false, []) :: tk r := by
  have h := rd_beg n r hl hn
  rw [tk_tag 60 _ (by rw [h]; show ¬ ((n.length + 2 : Nat) : Int) = 0; omega), h]
  dsimp only
  rw [Int.toNat_natCast, List.drop_succ_cons, List.drop_append, Nat.add_sub_cancel_left]
  simp
  rw [List.drop_of_length_le (by omega), List.nil_append]
theorem awake_ev : Ev (fun k => incipitlaw21_awake.f k) true := Ev.of (k := 40) (fun k => incipitlaw21_awake.mono k) (by decide +kernel)
end Go.Proofs.YtjcfjgcnkbbgmaaGreatDoor.Pure

namespace Go.Proofs.YtjcfjgcnkbbgmaaGreatDoor.Pure
open Go.RowKit Go.Proofs.YtjcfjgcnkbbgmaaGreatDoorW.PrintWords Go.Proofs.YtjcfjgcnkbbgmaaGreatDoorW.PrintMore Go.Proofs.YtjcfjgcnkbbgmaaGreatDoor.Pl Go.Proofs.YtjcfjgcnkbbgmaaGreatDoor.PA

theorem Ev.guard {α : Type} {c : Prop} [Decidable c] {g f : Nat → Option α} {r : α} (h : c) (k : Ev g r) : Ev (fun n => if c then g n else f n) r := Ev.congr (fun _ => if_pos h) k
theorem Ev.other {α : Type} {c : Prop} [Decidable c] {g f : Nat → Option α} {r : α} (h : ¬ c) (k : Ev f r) : Ev (fun n => if c then g n else f n) r := Ev.congr (fun _ => if_neg h) k
theorem Ev.succ {α : Type} {g : Nat → Option α} {r : α} (h : Ev (fun k => g (k + 1)) r) : Ev g r := Ev.step (fun _ => rfl) h
theorem okSep (d : Bool) (y : UInt8) (h1 : sm y = false) (h2 : dg y = false) (h3 : y ≠ 45) : ∀ i, okN d i y = false := by
  intro i
  unfold okN
  rw [if_neg (by rw [h1]; decide)]
  split
  · rw [if_neg (by rw [h2]; decide)]
    split
    · exact decide_eq_false h3
    · rfl
  · rfl
theorem vl_plain : ∀ (v r : List UInt8), (∀ x ∈ v, x ≠ 34 ∧ x ≠ 60 ∧ x ≠ 62) → vl (v ++ 34 :: r) = some v
  | [], r, h => rfl
  | x :: t, r, h => by
    have hx := h x List.mem_cons_self
    rw [List.cons_append, vl, if_neg hx.1, if_neg (by rintro (e | e); exact hx.2.1 e; exact hx.2.2 e), vl_plain t r (fun y hy => h y (List.mem_cons_of_mem _ hy))]
    rfl
theorem att_at (n v r : List UInt8) (hl : lets n) (hn : n ≠ []) (hv : ∀ x ∈ v, x ≠ 34 ∧ x ≠ 60 ∧ x ≠ 62) : att (32 :: (n ++ 61 :: 34 :: (v ++ 34 :: r))) = some (⟨B n, B v⟩, n.length + v.length + 4) := by
  have h0 : n.length ≠ 0 := fun e => hn (List.length_eq_zero_iff.1 e)
  have hd : (n ++ 61 :: 34 :: (v ++ 34 :: r)).drop (n.length + 2) = v ++ 34 :: r := by
    rw [← List.drop_drop, List.drop_left]
    rfl
  rw [att, if_pos rfl, nm_lets true 61 _ (okSep true 61 (by decide) (by decide) (by decide)) n 0 hl, if_neg h0, List.drop_left, if_pos (by simp [List.isPrefixOf]), hd, vl_plain v r hv, List.take_left]
  rfl
theorem att_rest (n v r : List UInt8) : (32 :: (n ++ 61 :: 34 :: (v ++ 34 :: r))).drop (n.length + v.length + 4) = r := by
  rw [show n.length + v.length + 4 = (n.length + (2 + (v.length + 1))) + 1 by omega, List.drop_succ_cons, ← List.drop_drop, List.drop_left, ← List.drop_drop]
  show List.drop (v.length + 1) (v ++ 34 :: r) = r
  rw [← List.drop_drop, List.drop_left]
  rfl
theorem ats_one (f : Nat) (n v r : List UInt8) (hl : lets n) (hn : n ≠ []) (hv : ∀ x ∈ v, x ≠ 34 ∧ x ≠ 60 ∧ x ≠ 62) : ats (f + 1) (32 :: (n ++ 61 :: 34 :: (v ++ 34 :: r))) = (⟨B n, B v⟩ :: (ats f r).1, (ats f r).2) := by
  rw [ats_some f _ _ _ (att_at n v r hl hn hv), att_rest]
/-- A tag that begins, with attributes. -/
theorem tk_gen (n pre rr : List UInt8) (aa : List S63) (y : UInt8) (q : List UInt8) (hq : pre ++ rr = y :: q) (hy : ∀ i, okN false i y = false) (hl : lets n) (hn : n ≠ []) (hat : ats (n ++ (pre ++ rr)).length (pre ++ rr) = (aa, rr)) (v : Bool) (m : Nat)
    (hm : (v = false ∧ m = 1 ∧ ([62] : List UInt8).isPrefixOf rr = true) ∨ (v = true ∧ m = 3 ∧ ([32, 47, 62] : List UInt8).isPrefixOf rr = true)) : tk (60 :: (n ++ (pre ++ rr))) = .inl (B n, false, v, aa) :: tk (rr.drop m) := by
  have h0 : n.length ≠ 0 := fun e => hn (List.length_eq_zero_iff.1 e)
  have hnm : nm false 0 (n ++ (pre ++ rr)) = n.length := by rw [hq]; exact nm_lets false y q hy n 0 hl
  have hr : rdT (60 :: (n ++ (pre ++ rr))) = (B n, false, v, aa, ((n.length + pre.length + 1 + m : Nat) : Int)) := by
    rw [rdT, if_pos rfl, if_neg (not47 n _ hl hn)]
    unfold rdB
    rw [hnm, if_neg h0, List.drop_left, hat, List.take_left]
    dsimp only
    have hlen : (n ++ (pre ++ rr)).length + 1 - rr.length = n.length + pre.length + 1 := by rw [List.length_append, List.length_append]; omega
    rw [hlen]
    rcases hm with ⟨rfl, rfl, hp⟩ | ⟨rfl, rfl, hp⟩
    · rw [if_pos hp]
    · rw [if_neg (fun e => not_both _ e hp), if_pos hp]
  rw [tk_tag 60 _ (by rw [hr]; show ¬ ((n.length + pre.length + 1 + m : Nat) : Int) = 0; omega), hr]
  dsimp only
  rw [Int.toNat_natCast, show n.length + pre.length + 1 + m = (n.length + (pre.length + m)) + 1 by omega, List.drop_succ_cons, ← List.drop_drop, List.drop_left, ← List.drop_drop, List.drop_left]
end Go.Proofs.YtjcfjgcnkbbgmaaGreatDoor.Pure

namespace Go.Proofs.YtjcfjgcnkbbgmaaGreatDoor.Pure
open Go.RowKit Go.Proofs.YtjcfjgcnkbbgmaaGreatDoorW.PrintWords Go.Proofs.YtjcfjgcnkbbgmaaGreatDoorW.PrintMore Go.Proofs.YtjcfjgcnkbbgmaaGreatDoor.Pl Go.Proofs.YtjcfjgcnkbbgmaaGreatDoor.PA
set_option linter.unusedVariables false

theorem txt_pre : ∀ (l r : List UInt8), (∀ x ∈ l, x ≠ 60) → txtK (tk (l ++ r)) = l ++ txtK (tk r)
  | [], r, _ => rfl
  | x :: t, r, h => by
    have h1 : (rdT (x :: (t ++ r))).2.2.2.2 = 0 := by rw [rdT, if_neg (h x List.mem_cons_self)]; rfl
    rw [List.cons_append, tk_byte x (t ++ r) h1, txtK, txt_pre t r (fun y hy => h y (List.mem_cons_of_mem _ hy)), List.cons_append]
theorem esc_ok (x : UInt8) : ∀ y ∈ esc x, y ≠ 34 ∧ y ≠ 60 ∧ y ≠ 62 := by
  have h : ∀ z : Fin 256, ∀ y ∈ esc (UInt8.ofNat z.val), y ≠ 34 ∧ y ≠ 60 ∧ y ≠ 62 := by decide +kernel
  have := h ⟨x.toNat, x.toNat_lt⟩
  simpa using this
theorem adr_ok (x : UInt8) : ∀ y ∈ adr x, y ≠ 34 ∧ y ≠ 60 ∧ y ≠ 62 := by
  have h : ∀ z : Fin 256, ∀ y ∈ adr (UInt8.ofNat z.val), y ≠ 34 ∧ y ≠ 60 ∧ y ≠ 62 := by decide +kernel
  have := h ⟨x.toNat, x.toNat_lt⟩
  simpa using this
theorem htm_ok (l : List UInt8) : ∀ y ∈ htm l, y ≠ 34 ∧ y ≠ 60 ∧ y ≠ 62 := by
  intro y hy
  obtain ⟨x, _, h⟩ := List.mem_flatMap.1 hy
  exact esc_ok x y h
theorem hrf_ok (l : List UInt8) : ∀ y ∈ hrf l, y ≠ 34 ∧ y ≠ 60 ∧ y ≠ 62 := by
  intro y hy
  obtain ⟨x, _, h⟩ := List.mem_flatMap.1 hy
  exact adr_ok x y h
/-- A part in a tag without attributes. -/
theorem txt_tag (n body T r : List UInt8) (hl : lets n) (hn : n ≠ []) (hb : ∀ q, txtK (tk (body ++ q)) = T ++ txtK (tk q)) : txtK (tk (tagd n [] body ++ r)) = T ++ txtK (tk r) := by
  have e : tagd n [] body ++ r = 60 :: (n ++ 62 :: (body ++ (60 :: 47 :: (n ++ 62 :: r)))) := by simp [tagd]
  rw [e, tk_beg n _ hl hn, txtK, hb, tk_end n r hl hn, txtK]
/-- A part in an anchor. -/
theorem txt_link (u v body T r : List UInt8) (hu : ∀ x ∈ u, x ≠ 34 ∧ x ≠ 60 ∧ x ≠ 62) (hv : ∀ x ∈ v, x ≠ 34 ∧ x ≠ 60 ∧ x ≠ 62) (hb : ∀ q, txtK (tk (body ++ q)) = T ++ txtK (tk q)) :
    txtK (tk (tagd [97] ([32, 104, 114, 101, 102, 61, 34] ++ u ++ [34] ++ atr [116, 105, 116, 108, 101] v) body ++ r)) = T ++ txtK (tk r) := by
  have hl : lets [97] := by unfold lets; decide +kernel
  have h1 : lets [104, 114, 101, 102] := by unfold lets; decide +kernel
  have h2 : lets [116, 105, 116, 108, 101] := by unfold lets; decide +kernel
  obtain ⟨rr, hrr⟩ : ∃ rr, 62 :: (body ++ (60 :: 47 :: ([97] ++ 62 :: r))) = rr := ⟨_, rfl⟩
  have hends : ends rr := .inl (by rw [← hrr]; rfl)
  have h0 : ∀ f, ats (f + 1) rr = ([], rr) := fun f => ats_none (f + 1) rr (att_ends rr hends)
  by_cases hv0 : v = []
  · have e : tagd [97] ([32, 104, 114, 101, 102, 61, 34] ++ u ++ [34] ++ atr [116, 105, 116, 108, 101] v) body ++ r = 60 :: ([97] ++ ((32 :: ([104, 114, 101, 102] ++ 61 :: 34 :: (u ++ [34]))) ++ rr)) := by
      rw [← hrr, hv0]
      simp [tagd, atr]
    have hat : ats ([97] ++ ((32 :: ([104, 114, 101, 102] ++ 61 :: 34 :: (u ++ [34]))) ++ rr)).length ((32 :: ([104, 114, 101, 102] ++ 61 :: 34 :: (u ++ [34]))) ++ rr) = ([⟨B [104, 114, 101, 102], B u⟩], rr) := by
      have e2 : (32 :: ([104, 114, 101, 102] ++ 61 :: 34 :: (u ++ [34]))) ++ rr = 32 :: ([104, 114, 101, 102] ++ 61 :: 34 :: (u ++ 34 :: rr)) := by simp
      rw [e2]
      have hlen : 2 ≤ ([97] ++ (32 :: ([104, 114, 101, 102] ++ 61 :: 34 :: (u ++ 34 :: rr)))).length := by simp only [List.length_append, List.length_cons, List.length_nil]; omega
      obtain ⟨f, hf⟩ : ∃ f, ([97] ++ (32 :: ([104, 114, 101, 102] ++ 61 :: 34 :: (u ++ 34 :: rr)))).length = f + 1 + 1 := ⟨([97] ++ (32 :: ([104, 114, 101, 102] ++ 61 :: 34 :: (u ++ 34 :: rr)))).length - 2, by omega⟩
      rw [hf, ats_one (f + 1) _ u rr h1 (by simp) hu, h0]
    rw [e, tk_gen [97] _ rr _ 32 _ rfl (ok32 false) hl (by simp) hat false 1 (.inl ⟨rfl, rfl, by rw [← hrr]; rfl⟩), txtK, ← hrr, List.drop_succ_cons, List.drop_zero, hb, tk_end [97] r hl (by simp), txtK]
  · have e : tagd [97] ([32, 104, 114, 101, 102, 61, 34] ++ u ++ [34] ++ atr [116, 105, 116, 108, 101] v) body ++ r = 60 :: ([97] ++ ((32 :: ([104, 114, 101, 102] ++ 61 :: 34 :: (u ++ 34 :: (32 :: ([116, 105, 116, 108, 101] ++ 61 :: 34 :: (v ++ [34])))))) ++ rr)) := by
      rw [← hrr]
      simp [tagd, atr, hv0]
    have hat : ats ([97] ++ ((32 :: ([104, 114, 101, 102] ++ 61 :: 34 :: (u ++ 34 :: (32 :: ([116, 105, 116, 108, 101] ++ 61 :: 34 :: (v ++ [34])))))) ++ rr)).length ((32 :: ([104, 114, 101, 102] ++ 61 :: 34 :: (u ++ 34 :: (32 :: ([116, 105, 116, 108, 101] ++ 61 :: 34 :: (v ++ [34])))))) ++ rr) = ([⟨B [104, 114, 101, 102], B u⟩, ⟨B [116, 105, 116, 108, 101], B v⟩], rr) := by
      have e2 : (32 :: ([104, 114, 101, 102] ++ 61 :: 34 :: (u ++ 34 :: (32 :: ([116, 105, 116, 108, 101] ++ 61 :: 34 :: (v ++ [34])))))) ++ rr = 32 :: ([104, 114, 101, 102] ++ 61 :: 34 :: (u ++ 34 :: (32 :: ([116, 105, 116, 108, 101] ++ 61 :: 34 :: (v ++ 34 :: rr))))) := by simp
      rw [e2]
      have hlen : 3 ≤ ([97] ++ (32 :: ([104, 114, 101, 102] ++ 61 :: 34 :: (u ++ 34 :: (32 :: ([116, 105, 116, 108, 101] ++ 61 :: 34 :: (v ++ 34 :: rr))))))).length := by simp only [List.length_append, List.length_cons, List.length_nil]; omega
      obtain ⟨f, hf⟩ : ∃ f, ([97] ++ (32 :: ([104, 114, 101, 102] ++ 61 :: 34 :: (u ++ 34 :: (32 :: ([116, 105, 116, 108, 101] ++ 61 :: 34 :: (v ++ 34 :: rr))))))).length = f + 1 + 1 + 1 := ⟨([97] ++ (32 :: ([104, 114, 101, 102] ++ 61 :: 34 :: (u ++ 34 :: (32 :: ([116, 105, 116, 108, 101] ++ 61 :: 34 :: (v ++ 34 :: rr))))))).length - 3, by omega⟩
      rw [hf, ats_one (f + 1 + 1) _ u _ h1 (by simp) hu, ats_one (f + 1) _ v rr h2 (by simp) hv, h0]
    rw [e, tk_gen [97] _ rr _ 32 _ rfl (ok32 false) hl (by simp) hat false 1 (.inl ⟨rfl, rfl, by rw [← hrr]; rfl⟩), txtK, ← hrr, List.drop_succ_cons, List.drop_zero, hb, tk_end [97] r hl (by simp), txtK]
mutual
/-- The escaped texts of parts. -/
def tex1 : Nd → List UInt8
  | ⟨k, s, _, _, _, _, l⟩ => (if k = 14 ∨ k = 17 then htm s.data.toList else []) ++ tex l
def tex : List Nd → List UInt8
  | [] => []
  | x :: r => tex1 x ++ tex r
end
mutual
def pl1 : Nd → Bool
  | ⟨k, _, _, _, _, _, l⟩ => (if k = 14 ∨ k = 17 then l.isEmpty else decide (k = 18 ∨ k = 19 ∨ k = 23 ∨ k = 20)) && plL l
def plL : List Nd → Bool
  | [] => true
  | x :: r => pl1 x && plL r
end
mutual
theorem txt_inl1 : ∀ (x : Nd) (r : List UInt8), pl1 x = true → txtK (tk (inl1 0 x ++ r)) = tex1 x ++ txtK (tk r)
  | ⟨k, s, t, n, mm, fl, l⟩, r, h => by
    rw [pl1, Bool.and_eq_true] at h
    obtain ⟨h1, h2⟩ := h
    have hb := fun q => txt_inl l q h2
    rw [inl1, tex1]
    by_cases k14 : k = 14
    · subst k14
      have hl : l = [] := by simpa using h1
      subst hl
      rw [if_neg (by decide), if_neg (by decide), if_neg (by decide), if_neg (by decide), if_neg (by decide), leafT, if_pos rfl, if_pos (.inl rfl), tex, List.append_nil]
      exact txt_pre _ r fun x hx => (htm_ok _ x hx).2.1
    by_cases k17 : k = 17
    · subst k17
      have hl : l = [] := by simpa using h1
      subst hl
      rw [if_neg (by decide), if_neg (by decide), if_neg (by decide), if_neg (by decide), if_neg (by decide), leafT, if_neg (by decide), if_neg (by decide), if_neg (by decide), if_pos rfl, if_pos (.inr rfl), tex, List.append_nil]
      have e : [60, 99, 111, 100, 101, 62] ++ htm s.data.toList ++ [60, 47, 99, 111, 100, 101, 62] = tagd [99, 111, 100, 101] [] (htm s.data.toList) := by simp [tagd]
      rw [e]
      exact txt_tag _ _ _ r (by unfold lets; decide +kernel) (by simp) fun q => txt_pre _ q fun x hx => (htm_ok _ x hx).2.1
    rw [if_neg (by simp [k14, k17])] at h1
    rw [if_neg (c := k = 14 ∨ k = 17) (by simp [k14, k17]), List.nil_append]
    by_cases k18 : k = 18
    · rw [if_pos k18]
      exact txt_tag _ _ _ r (by unfold lets; decide +kernel) (by simp) hb
    by_cases k19 : k = 19
    · rw [if_neg k18, if_pos k19]
      exact txt_tag _ _ _ r (by unfold lets; decide +kernel) (by simp) hb
    by_cases k23 : k = 23
    · rw [if_neg k18, if_neg k19, if_pos k23]
      exact txt_tag _ _ _ r (by unfold lets; decide +kernel) (by simp) hb
    by_cases k20 : k = 20
    · rw [if_neg k18, if_neg k19, if_neg k23, if_pos k20]
      exact txt_link _ _ _ _ r (hrf_ok _) (htm_ok _) hb
    · simp [k18, k19, k23, k20] at h1
theorem txt_inl : ∀ (l : List Nd) (r : List UInt8), plL l = true → txtK (tk (inl 0 l ++ r)) = tex l ++ txtK (tk r)
  | [], r, _ => by rw [inl, tex, List.nil_append, List.nil_append]
  | x :: l, r, h => by
    rw [plL, Bool.and_eq_true] at h
    rw [inl, tex, List.append_assoc, List.append_assoc, txt_inl1 x _ h.1, txt_inl l r h.2]
end
theorem txt_all (l : List Nd) (h : plL l = true) : txtK (tk (inl 0 l)) = tex l := by
  have := txt_inl l [] h
  rw [List.append_nil, tk_nil, txtK, List.append_nil] at this
  exact this
end Go.Proofs.YtjcfjgcnkbbgmaaGreatDoor.Pure

namespace Go.Proofs.YtjcfjgcnkbbgmaaGreatDoor.PA
open Go.RowKit Go.Proofs.YtjcfjgcnkbbgmaaGreatDoorW.PrintWords Go.Proofs.YtjcfjgcnkbbgmaaGreatDoorW.PrintLast Go.Proofs.YtjcfjgcnkbbgmaaGreatDoorW.PrintMore
attribute [local go_sem] max2_int min2_int max_two min_two max_three min_three max_four min_four   -- for this text's walks alone
set_option linter.unusedVariables false
set_option linter.unusedSimpArgs false

/-! ### incipitlaw21_plain: function 6 -/
mutual
def incipitlaw21_plain.l0 : Nat → List (S26) → Int → Option (Bool)
  | 0, _, _ => none
  | k + 1, x0, x3 => if x3 < (x0.length : Int) then (if 0 ≤ x3 then (if ((rd_T26 x0 x3).f0) = 14 then (if (((rd_T26 x0 x3).f6).length : Int) > 0 then (some false) else ((incipitlaw21_plain.f k ((rd_T26 x0 x3).f6)).bind fun t182 => (if t182 = true then (incipitlaw21_plain.l0 k x0 (wrap64 (x3 + 1))) else (some false)))) else (if (((rd_T26 x0 x3).f0) = 17) then (if ((rd_T26 x0 x3).f0) = 17 then (if (((rd_T26 x0 x3).f6).length : Int) > 0 then (some false) else ((incipitlaw21_plain.f k ((rd_T26 x0 x3).f6)).bind fun t185 => (if t185 = true then (incipitlaw21_plain.l0 k x0 (wrap64 (x3 + 1))) else (some false)))) else ((incipitlaw21_plain.f k ((rd_T26 x0 x3).f6)).bind fun t187 => (if t187 = true then (incipitlaw21_plain.l0 k x0 (wrap64 (x3 + 1))) else (some false)))) else (if ((rd_T26 x0 x3).f0) = 18 then (if ((rd_T26 x0 x3).f0) = 17 then (if (((rd_T26 x0 x3).f6).length : Int) > 0 then (some false) else ((incipitlaw21_plain.f k ((rd_T26 x0 x3).f6)).bind fun t190 => (if t190 = true then (incipitlaw21_plain.l0 k x0 (wrap64 (x3 + 1))) else (some false)))) else ((incipitlaw21_plain.f k ((rd_T26 x0 x3).f6)).bind fun t192 => (if t192 = true then (incipitlaw21_plain.l0 k x0 (wrap64 (x3 + 1))) else (some false)))) else (if ((rd_T26 x0 x3).f0) = 19 then (if ((rd_T26 x0 x3).f0) = 17 then (if (((rd_T26 x0 x3).f6).length : Int) > 0 then (some false) else ((incipitlaw21_plain.f k ((rd_T26 x0 x3).f6)).bind fun t195 => (if t195 = true then (incipitlaw21_plain.l0 k x0 (wrap64 (x3 + 1))) else (some false)))) else ((incipitlaw21_plain.f k ((rd_T26 x0 x3).f6)).bind fun t197 => (if t197 = true then (incipitlaw21_plain.l0 k x0 (wrap64 (x3 + 1))) else (some false)))) else (if ((rd_T26 x0 x3).f0) = 23 then (if ((rd_T26 x0 x3).f0) = 17 then (if (((rd_T26 x0 x3).f6).length : Int) > 0 then (some false) else ((incipitlaw21_plain.f k ((rd_T26 x0 x3).f6)).bind fun t200 => (if t200 = true then (incipitlaw21_plain.l0 k x0 (wrap64 (x3 + 1))) else (some false)))) else ((incipitlaw21_plain.f k ((rd_T26 x0 x3).f6)).bind fun t202 => (if t202 = true then (incipitlaw21_plain.l0 k x0 (wrap64 (x3 + 1))) else (some false)))) else (if ((rd_T26 x0 x3).f0) = 20 then (if ((rd_T26 x0 x3).f0) = 17 then (if (((rd_T26 x0 x3).f6).length : Int) > 0 then (some false) else ((incipitlaw21_plain.f k ((rd_T26 x0 x3).f6)).bind fun t205 => (if t205 = true then (incipitlaw21_plain.l0 k x0 (wrap64 (x3 + 1))) else (some false)))) else ((incipitlaw21_plain.f k ((rd_T26 x0 x3).f6)).bind fun t207 => (if t207 = true then (incipitlaw21_plain.l0 k x0 (wrap64 (x3 + 1))) else (some false)))) else (some false))))))) else (none)) else (some true)
def incipitlaw21_plain.f : Nat → List (S26) → Option (Bool)
  | 0, _ => none
  | k + 1, l0 => incipitlaw21_plain.l0 k l0 0
end
set_option maxHeartbeats 8000000 in
set_option maxRecDepth 100000 in
theorem incipitlaw21_plain.calls (k : Nat) : ∀ (A0 : Option Addr) (c0 : Nat) (l0 : List (S26)) (r : Bool) (w : World) (hr0 : Kd.C k26 w A0 l0.length l0) (hc0 : l0.length ≤ c0) (h : incipitlaw21_plain.f k l0 = some r),
    Calls Tryz.prog 6 #[.slice A0 l0.length c0] w fun e w' => e = .returned (.bool r) ∧ Drawn0 w w' := by
  induction k using Nat.strongRecOn with
  | _ k ih =>
  intro A0 c0 l0 r w hr0 hc0 h
  cases k with
  | zero => exact absurd h (by simp [incipitlaw21_plain.f])
  | succ k =>
  simp only [incipitlaw21_plain.f] at h
  have HR0 := Aside0.mk hr0
  have HC0 := Aside0.mk hc0
  clear hr0 hc0
  have H : (incipitlaw21_plain.l0 k l0 0) = some r := h
  clear h
  have H' := Aside0.mk H
  clear H
  go_enter Tryz.func6, Tryz.ntmps6
  go_wp2
  go_loopg [3] k (fun kq v3 w' => ∃ (x3_1 : Int), v3 = .int .i64 x3_1 ∧ Aside0 (incipitlaw21_plain.l0 kq l0 x3_1 = some r) ∧ Aside0 (kq ≤ k) ∧ Drawn0 w w')
  case atStart => exact ⟨(0), (by first | rfl | (simp; done) | (simp [*]; done)), H', ⟨Nat.le_refl _⟩, by repeat (first | exact Drawn0.refl _ | apply Drawn0.step)⟩
  case round =>
    clear H'
    obtain ⟨x3_1, rfl, HA, HK1, ⟨m1, rfl⟩⟩ := hrel
    cases gk with
    | zero => exact absurd HA.out (by simp [incipitlaw21_plain.l0])
    | succ k1 =>
      have H := HA.out
      clear HA
      simp only [incipitlaw21_plain.l0] at H
      by_cases c2 : x3_1 < (l0.length : Int)
      · rw [if_pos c2] at H
        have c2b0 : decide (x3_1 < (l0.length : Int)) = true := decide_eq_true c2
        clear c2
        by_cases c3 : 0 ≤ x3_1
        · rw [if_pos c3] at H
          have c3b0 : decide (0 ≤ x3_1) = true := decide_eq_true c3
          clear c3
          by_cases c4 : ((rd_T26 l0 x3_1).f0) = 14
          · rw [if_pos c4] at H
            have c4b0 : (((rd_T26 l0 x3_1).f0) == 14) = true := beq_iff_eq.mpr c4
            have c4b1 : (((rd_T26 l0 x3_1).f0) != 14) = false := bne_eq_false_iff_eq.mpr c4
            clear c4
            by_cases c5 : (((rd_T26 l0 x3_1).f6).length : Int) > 0
            · rw [if_pos c5] at H
              have c5b0 : decide (0 < (((rd_T26 l0 x3_1).f6).length : Int)) = true := decide_eq_true c5
              have c5b1 : decide (0 < ((rd_T26 l0 x3_1).f6).length) = true := decide_eq_true (by omega)
              clear c5
              obtain rfl := Option.some.inj H
              have p179 : 0 ≤ (x3_1 : Int) := of_decide_eq_true (by first | (with_reducible assumption) | assumption)
              have q179 : x3_1 < (l0.length : Int) := of_decide_eq_true (by first | (with_reducible assumption) | assumption)
              obtain ⟨ad179, A179_6, c179_6, e179, hx179_0, hx179_1, hx179_2, hx179_3, hx179_4, hx179_5, hx179_6, hl179_6, hi179_6⟩ := at_T26 HR0.out x3_1 p179 q179
              cases e179
              have HR179_6 := Aside0.mk hi179_6
              have HC179_6 := Aside0.mk hl179_6
              clear hi179_6 hl179_6
              replace p179 := eq_true p179
              replace q179 := eq_true q179
              have p180 : 0 ≤ (x3_1 : Int) := of_decide_eq_true (by first | (with_reducible assumption) | assumption)
              have q180 : x3_1 < (l0.length : Int) := of_decide_eq_true (by first | (with_reducible assumption) | assumption)
              obtain ⟨ad180, A180_6, c180_6, e180, hx180_0, hx180_1, hx180_2, hx180_3, hx180_4, hx180_5, hx180_6, hl180_6, hi180_6⟩ := at_T26 HR0.out x3_1 p180 q180
              obtain rfl : ad179 = ad180 := (by injection e180)
              have HR180_6 := Aside0.mk hi180_6
              have HC180_6 := Aside0.mk hl180_6
              clear hi180_6 hl180_6
              replace p180 := eq_true p180
              replace q180 := eq_true q180
              have ea_ := Option.some.inj (hx179_6.symm.trans hx180_6)
              injection ea_ with ea_ en_ ec_
              subst ea_
              subst ec_
              clear en_
              go_wp2
              go_ret
              exact ⟨by first | rfl | (simp; done) | (simp [*]; done), by repeat (first | exact Drawn0.refl _ | apply Drawn0.step)⟩
            · rw [if_neg c5] at H
              have c5b0 : decide (0 < (((rd_T26 l0 x3_1).f6).length : Int)) = false := decide_eq_false c5
              have c5b1 : decide (0 < ((rd_T26 l0 x3_1).f6).length) = false := decide_eq_false (by omega)
              clear c5
              replace H := Option.bind_eq_some_iff.mp H
              obtain ⟨t182, A60, H⟩ := H
              replace H : (if t182 = true then (incipitlaw21_plain.l0 k1 l0 (wrap64 (x3_1 + 1))) else (some false)) = some r := H
              have A6 := Aside0.mk A60
              clear A60
              by_cases c7 : t182 = true
              · subst c7
                have H1 : (incipitlaw21_plain.l0 k1 l0 (wrap64 (x3_1 + 1))) = some r := by rw [if_pos rfl] at H; exact H
                clear H
                have H := H1
                clear H1
                have H' := Aside0.mk H
                clear H
                have p179 : 0 ≤ (x3_1 : Int) := of_decide_eq_true (by first | (with_reducible assumption) | assumption)
                have q179 : x3_1 < (l0.length : Int) := of_decide_eq_true (by first | (with_reducible assumption) | assumption)
                obtain ⟨ad179, A179_6, c179_6, e179, hx179_0, hx179_1, hx179_2, hx179_3, hx179_4, hx179_5, hx179_6, hl179_6, hi179_6⟩ := at_T26 HR0.out x3_1 p179 q179
                cases e179
                have HR179_6 := Aside0.mk hi179_6
                have HC179_6 := Aside0.mk hl179_6
                clear hi179_6 hl179_6
                replace p179 := eq_true p179
                replace q179 := eq_true q179
                have p180 : 0 ≤ (x3_1 : Int) := of_decide_eq_true (by first | (with_reducible assumption) | assumption)
                have q180 : x3_1 < (l0.length : Int) := of_decide_eq_true (by first | (with_reducible assumption) | assumption)
                obtain ⟨ad180, A180_6, c180_6, e180, hx180_0, hx180_1, hx180_2, hx180_3, hx180_4, hx180_5, hx180_6, hl180_6, hi180_6⟩ := at_T26 HR0.out x3_1 p180 q180
                obtain rfl : ad179 = ad180 := (by injection e180)
                have HR180_6 := Aside0.mk hi180_6
                have HC180_6 := Aside0.mk hl180_6
                clear hi180_6 hl180_6
                replace p180 := eq_true p180
                replace q180 := eq_true q180
                have ea_ := Option.some.inj (hx179_6.symm.trans hx180_6)
                injection ea_ with ea_ en_ ec_
                subst ea_
                subst ec_
                clear en_
                have p181 : 0 ≤ (x3_1 : Int) := of_decide_eq_true (by first | (with_reducible assumption) | assumption)
                have q181 : x3_1 < (l0.length : Int) := of_decide_eq_true (by first | (with_reducible assumption) | assumption)
                obtain ⟨ad181, A181_6, c181_6, e181, hx181_0, hx181_1, hx181_2, hx181_3, hx181_4, hx181_5, hx181_6, hl181_6, hi181_6⟩ := at_T26 HR0.out x3_1 p181 q181
                obtain rfl : ad179 = ad181 := (by injection e181)
                have HR181_6 := Aside0.mk hi181_6
                have HC181_6 := Aside0.mk hl181_6
                clear hi181_6 hl181_6
                replace p181 := eq_true p181
                replace q181 := eq_true q181
                have ea_ := Option.some.inj (hx179_6.symm.trans hx181_6)
                injection ea_ with ea_ en_ ec_
                subst ea_
                subst ec_
                clear en_
                go_wp2_with (first | (go_at_call 6; (with_reducible refine (ih k1 (by have := HK1.out; omega) _ _ ((rd_T26 l0 x3_1).f6) true _ ?side1 ?side2 A6.out).mono ?_); (case side1 => repeat (first | exact HR181_6.out | (with_reducible refine Kd.C_alloc ?_ _) | (with_reducible refine Kd.C_drewN ?_ _) | (with_reducible refine Kd.C_drew ?_))); (case side2 => exact HC181_6.out); rintro e w' ⟨rfl, ⟨nd, rfl⟩⟩))
                go_roundg k1
                case measure => have := HK1.out; omega
                case rel => exact ⟨(wrap64 (x3_1 + 1)), (by first | rfl | (simp; done) | (simp [*]; done)), H', ⟨by have := HK1.out; omega⟩, by repeat (first | exact Drawn0.refl _ | apply Drawn0.step)⟩
              · replace c7 := Bool.eq_false_iff.mpr c7
                subst c7
                have H1 : (some false) = some r := by rw [if_neg (show ¬ (false = true) by decide)] at H; exact H
                clear H
                have H := H1
                clear H1
                obtain rfl := Option.some.inj H
                have p179 : 0 ≤ (x3_1 : Int) := of_decide_eq_true (by first | (with_reducible assumption) | assumption)
                have q179 : x3_1 < (l0.length : Int) := of_decide_eq_true (by first | (with_reducible assumption) | assumption)
                obtain ⟨ad179, A179_6, c179_6, e179, hx179_0, hx179_1, hx179_2, hx179_3, hx179_4, hx179_5, hx179_6, hl179_6, hi179_6⟩ := at_T26 HR0.out x3_1 p179 q179
                cases e179
                have HR179_6 := Aside0.mk hi179_6
                have HC179_6 := Aside0.mk hl179_6
                clear hi179_6 hl179_6
                replace p179 := eq_true p179
                replace q179 := eq_true q179
                have p180 : 0 ≤ (x3_1 : Int) := of_decide_eq_true (by first | (with_reducible assumption) | assumption)
                have q180 : x3_1 < (l0.length : Int) := of_decide_eq_true (by first | (with_reducible assumption) | assumption)
                obtain ⟨ad180, A180_6, c180_6, e180, hx180_0, hx180_1, hx180_2, hx180_3, hx180_4, hx180_5, hx180_6, hl180_6, hi180_6⟩ := at_T26 HR0.out x3_1 p180 q180
                obtain rfl : ad179 = ad180 := (by injection e180)
                have HR180_6 := Aside0.mk hi180_6
                have HC180_6 := Aside0.mk hl180_6
                clear hi180_6 hl180_6
                replace p180 := eq_true p180
                replace q180 := eq_true q180
                have ea_ := Option.some.inj (hx179_6.symm.trans hx180_6)
                injection ea_ with ea_ en_ ec_
                subst ea_
                subst ec_
                clear en_
                have p181 : 0 ≤ (x3_1 : Int) := of_decide_eq_true (by first | (with_reducible assumption) | assumption)
                have q181 : x3_1 < (l0.length : Int) := of_decide_eq_true (by first | (with_reducible assumption) | assumption)
                obtain ⟨ad181, A181_6, c181_6, e181, hx181_0, hx181_1, hx181_2, hx181_3, hx181_4, hx181_5, hx181_6, hl181_6, hi181_6⟩ := at_T26 HR0.out x3_1 p181 q181
                obtain rfl : ad179 = ad181 := (by injection e181)
                have HR181_6 := Aside0.mk hi181_6
                have HC181_6 := Aside0.mk hl181_6
                clear hi181_6 hl181_6
                replace p181 := eq_true p181
                replace q181 := eq_true q181
                have ea_ := Option.some.inj (hx179_6.symm.trans hx181_6)
                injection ea_ with ea_ en_ ec_
                subst ea_
                subst ec_
                clear en_
                go_wp2_with (first | (go_at_call 6; (with_reducible refine (ih k1 (by have := HK1.out; omega) _ _ ((rd_T26 l0 x3_1).f6) false _ ?side1 ?side2 A6.out).mono ?_); (case side1 => repeat (first | exact HR181_6.out | (with_reducible refine Kd.C_alloc ?_ _) | (with_reducible refine Kd.C_drewN ?_ _) | (with_reducible refine Kd.C_drew ?_))); (case side2 => exact HC181_6.out); rintro e w' ⟨rfl, ⟨nd, rfl⟩⟩))
                go_ret
                exact ⟨by first | rfl | (simp; done) | (simp [*]; done), by repeat (first | exact Drawn0.refl _ | apply Drawn0.step)⟩
          · rw [if_neg c4] at H
            have c4b0 : (((rd_T26 l0 x3_1).f0) == 14) = false := beq_eq_false_iff_ne.mpr c4
            have c4b1 : (((rd_T26 l0 x3_1).f0) != 14) = true := bne_iff_ne.mpr c4
            by_cases c8 : (((rd_T26 l0 x3_1).f0) = 17)
            · rw [if_pos c8] at H
              have c8b0 : (((rd_T26 l0 x3_1).f0) == 17) = true := beq_iff_eq.mpr c8
              have c8b1 : (((rd_T26 l0 x3_1).f0) != 17) = false := bne_eq_false_iff_eq.mpr c8
              clear c8
              by_cases c9 : ((rd_T26 l0 x3_1).f0) = 17
              · rw [if_pos c9] at H
                have c9b0 : (((rd_T26 l0 x3_1).f0) == 17) = true := beq_iff_eq.mpr c9
                have c9b1 : (((rd_T26 l0 x3_1).f0) != 17) = false := bne_eq_false_iff_eq.mpr c9
                clear c9
                by_cases c10 : (((rd_T26 l0 x3_1).f6).length : Int) > 0
                · rw [if_pos c10] at H
                  have c10b0 : decide (0 < (((rd_T26 l0 x3_1).f6).length : Int)) = true := decide_eq_true c10
                  have c10b1 : decide (0 < ((rd_T26 l0 x3_1).f6).length) = true := decide_eq_true (by omega)
                  clear c10
                  obtain rfl := Option.some.inj H
                  have p179 : 0 ≤ (x3_1 : Int) := of_decide_eq_true (by first | (with_reducible assumption) | assumption)
                  have q179 : x3_1 < (l0.length : Int) := of_decide_eq_true (by first | (with_reducible assumption) | assumption)
                  obtain ⟨ad179, A179_6, c179_6, e179, hx179_0, hx179_1, hx179_2, hx179_3, hx179_4, hx179_5, hx179_6, hl179_6, hi179_6⟩ := at_T26 HR0.out x3_1 p179 q179
                  cases e179
                  have HR179_6 := Aside0.mk hi179_6
                  have HC179_6 := Aside0.mk hl179_6
                  clear hi179_6 hl179_6
                  replace p179 := eq_true p179
                  replace q179 := eq_true q179
                  have p183 : 0 ≤ (x3_1 : Int) := of_decide_eq_true (by first | (with_reducible assumption) | assumption)
                  have q183 : x3_1 < (l0.length : Int) := of_decide_eq_true (by first | (with_reducible assumption) | assumption)
                  obtain ⟨ad183, A183_6, c183_6, e183, hx183_0, hx183_1, hx183_2, hx183_3, hx183_4, hx183_5, hx183_6, hl183_6, hi183_6⟩ := at_T26 HR0.out x3_1 p183 q183
                  obtain rfl : ad179 = ad183 := (by injection e183)
                  have HR183_6 := Aside0.mk hi183_6
                  have HC183_6 := Aside0.mk hl183_6
                  clear hi183_6 hl183_6
                  replace p183 := eq_true p183
                  replace q183 := eq_true q183
                  have ea_ := Option.some.inj (hx179_6.symm.trans hx183_6)
                  injection ea_ with ea_ en_ ec_
                  subst ea_
                  subst ec_
                  clear en_
                  go_wp2
                  go_ret
                  exact ⟨by first | rfl | (simp; done) | (simp [*]; done), by repeat (first | exact Drawn0.refl _ | apply Drawn0.step)⟩
                · rw [if_neg c10] at H
                  have c10b0 : decide (0 < (((rd_T26 l0 x3_1).f6).length : Int)) = false := decide_eq_false c10
                  have c10b1 : decide (0 < ((rd_T26 l0 x3_1).f6).length) = false := decide_eq_false (by omega)
                  clear c10
                  replace H := Option.bind_eq_some_iff.mp H
                  obtain ⟨t185, A110, H⟩ := H
                  replace H : (if t185 = true then (incipitlaw21_plain.l0 k1 l0 (wrap64 (x3_1 + 1))) else (some false)) = some r := H
                  have A11 := Aside0.mk A110
                  clear A110
                  by_cases c12 : t185 = true
                  · subst c12
                    have H1 : (incipitlaw21_plain.l0 k1 l0 (wrap64 (x3_1 + 1))) = some r := by rw [if_pos rfl] at H; exact H
                    clear H
                    have H := H1
                    clear H1
                    have H' := Aside0.mk H
                    clear H
                    have p179 : 0 ≤ (x3_1 : Int) := of_decide_eq_true (by first | (with_reducible assumption) | assumption)
                    have q179 : x3_1 < (l0.length : Int) := of_decide_eq_true (by first | (with_reducible assumption) | assumption)
                    obtain ⟨ad179, A179_6, c179_6, e179, hx179_0, hx179_1, hx179_2, hx179_3, hx179_4, hx179_5, hx179_6, hl179_6, hi179_6⟩ := at_T26 HR0.out x3_1 p179 q179
                    cases e179
                    have HR179_6 := Aside0.mk hi179_6
                    have HC179_6 := Aside0.mk hl179_6
                    clear hi179_6 hl179_6
                    replace p179 := eq_true p179
                    replace q179 := eq_true q179
                    have p183 : 0 ≤ (x3_1 : Int) := of_decide_eq_true (by first | (with_reducible assumption) | assumption)
                    have q183 : x3_1 < (l0.length : Int) := of_decide_eq_true (by first | (with_reducible assumption) | assumption)
                    obtain ⟨ad183, A183_6, c183_6, e183, hx183_0, hx183_1, hx183_2, hx183_3, hx183_4, hx183_5, hx183_6, hl183_6, hi183_6⟩ := at_T26 HR0.out x3_1 p183 q183
                    obtain rfl : ad179 = ad183 := (by injection e183)
                    have HR183_6 := Aside0.mk hi183_6
                    have HC183_6 := Aside0.mk hl183_6
                    clear hi183_6 hl183_6
                    replace p183 := eq_true p183
                    replace q183 := eq_true q183
                    have ea_ := Option.some.inj (hx179_6.symm.trans hx183_6)
                    injection ea_ with ea_ en_ ec_
                    subst ea_
                    subst ec_
                    clear en_
                    have p184 : 0 ≤ (x3_1 : Int) := of_decide_eq_true (by first | (with_reducible assumption) | assumption)
                    have q184 : x3_1 < (l0.length : Int) := of_decide_eq_true (by first | (with_reducible assumption) | assumption)
                    obtain ⟨ad184, A184_6, c184_6, e184, hx184_0, hx184_1, hx184_2, hx184_3, hx184_4, hx184_5, hx184_6, hl184_6, hi184_6⟩ := at_T26 HR0.out x3_1 p184 q184
                    obtain rfl : ad179 = ad184 := (by injection e184)
                    have HR184_6 := Aside0.mk hi184_6
                    have HC184_6 := Aside0.mk hl184_6
                    clear hi184_6 hl184_6
                    replace p184 := eq_true p184
                    replace q184 := eq_true q184
                    have ea_ := Option.some.inj (hx179_6.symm.trans hx184_6)
                    injection ea_ with ea_ en_ ec_
                    subst ea_
                    subst ec_
                    clear en_
                    go_wp2_with (first | (go_at_call 6; (with_reducible refine (ih k1 (by have := HK1.out; omega) _ _ ((rd_T26 l0 x3_1).f6) true _ ?side1 ?side2 A11.out).mono ?_); (case side1 => repeat (first | exact HR184_6.out | (with_reducible refine Kd.C_alloc ?_ _) | (with_reducible refine Kd.C_drewN ?_ _) | (with_reducible refine Kd.C_drew ?_))); (case side2 => exact HC184_6.out); rintro e w' ⟨rfl, ⟨nd, rfl⟩⟩))
                    go_roundg k1
                    case measure => have := HK1.out; omega
                    case rel => exact ⟨(wrap64 (x3_1 + 1)), (by first | rfl | (simp; done) | (simp [*]; done)), H', ⟨by have := HK1.out; omega⟩, by repeat (first | exact Drawn0.refl _ | apply Drawn0.step)⟩
                  · replace c12 := Bool.eq_false_iff.mpr c12
                    subst c12
                    have H1 : (some false) = some r := by rw [if_neg (show ¬ (false = true) by decide)] at H; exact H
                    clear H
                    have H := H1
                    clear H1
                    obtain rfl := Option.some.inj H
                    have p179 : 0 ≤ (x3_1 : Int) := of_decide_eq_true (by first | (with_reducible assumption) | assumption)
                    have q179 : x3_1 < (l0.length : Int) := of_decide_eq_true (by first | (with_reducible assumption) | assumption)
                    obtain ⟨ad179, A179_6, c179_6, e179, hx179_0, hx179_1, hx179_2, hx179_3, hx179_4, hx179_5, hx179_6, hl179_6, hi179_6⟩ := at_T26 HR0.out x3_1 p179 q179
                    cases e179
                    have HR179_6 := Aside0.mk hi179_6
                    have HC179_6 := Aside0.mk hl179_6
                    clear hi179_6 hl179_6
                    replace p179 := eq_true p179
                    replace q179 := eq_true q179
                    have p183 : 0 ≤ (x3_1 : Int) := of_decide_eq_true (by first | (with_reducible assumption) | assumption)
                    have q183 : x3_1 < (l0.length : Int) := of_decide_eq_true (by first | (with_reducible assumption) | assumption)
                    obtain ⟨ad183, A183_6, c183_6, e183, hx183_0, hx183_1, hx183_2, hx183_3, hx183_4, hx183_5, hx183_6, hl183_6, hi183_6⟩ := at_T26 HR0.out x3_1 p183 q183
                    obtain rfl : ad179 = ad183 := (by injection e183)
                    have HR183_6 := Aside0.mk hi183_6
                    have HC183_6 := Aside0.mk hl183_6
                    clear hi183_6 hl183_6
                    replace p183 := eq_true p183
                    replace q183 := eq_true q183
                    have ea_ := Option.some.inj (hx179_6.symm.trans hx183_6)
                    injection ea_ with ea_ en_ ec_
                    subst ea_
                    subst ec_
                    clear en_
                    have p184 : 0 ≤ (x3_1 : Int) := of_decide_eq_true (by first | (with_reducible assumption) | assumption)
                    have q184 : x3_1 < (l0.length : Int) := of_decide_eq_true (by first | (with_reducible assumption) | assumption)
                    obtain ⟨ad184, A184_6, c184_6, e184, hx184_0, hx184_1, hx184_2, hx184_3, hx184_4, hx184_5, hx184_6, hl184_6, hi184_6⟩ := at_T26 HR0.out x3_1 p184 q184
                    obtain rfl : ad179 = ad184 := (by injection e184)
                    have HR184_6 := Aside0.mk hi184_6
                    have HC184_6 := Aside0.mk hl184_6
                    clear hi184_6 hl184_6
                    replace p184 := eq_true p184
                    replace q184 := eq_true q184
                    have ea_ := Option.some.inj (hx179_6.symm.trans hx184_6)
                    injection ea_ with ea_ en_ ec_
                    subst ea_
                    subst ec_
                    clear en_
                    go_wp2_with (first | (go_at_call 6; (with_reducible refine (ih k1 (by have := HK1.out; omega) _ _ ((rd_T26 l0 x3_1).f6) false _ ?side1 ?side2 A11.out).mono ?_); (case side1 => repeat (first | exact HR184_6.out | (with_reducible refine Kd.C_alloc ?_ _) | (with_reducible refine Kd.C_drewN ?_ _) | (with_reducible refine Kd.C_drew ?_))); (case side2 => exact HC184_6.out); rintro e w' ⟨rfl, ⟨nd, rfl⟩⟩))
                    go_ret
                    exact ⟨by first | rfl | (simp; done) | (simp [*]; done), by repeat (first | exact Drawn0.refl _ | apply Drawn0.step)⟩
              · rw [if_neg c9] at H
                have c9b0 : (((rd_T26 l0 x3_1).f0) == 17) = false := beq_eq_false_iff_ne.mpr c9
                exact absurd (c9b0.symm.trans c8b0) (by decide)
            · rw [if_neg c8] at H
              have c8b0 : (((rd_T26 l0 x3_1).f0) == 17) = false := beq_eq_false_iff_ne.mpr c8
              have c8b1 : (((rd_T26 l0 x3_1).f0) != 17) = true := bne_iff_ne.mpr c8
              by_cases c15 : ((rd_T26 l0 x3_1).f0) = 18
              · rw [if_pos c15] at H
                have c15b0 : (((rd_T26 l0 x3_1).f0) == 18) = true := beq_iff_eq.mpr c15
                have c15b1 : (((rd_T26 l0 x3_1).f0) != 18) = false := bne_eq_false_iff_eq.mpr c15
                clear c15
                by_cases c16 : ((rd_T26 l0 x3_1).f0) = 17
                · rw [if_pos c16] at H
                  have c16b0 : (((rd_T26 l0 x3_1).f0) == 17) = true := beq_iff_eq.mpr c16
                  exact absurd (c16b0.symm.trans c8b0) (by decide)
                · rw [if_neg c16] at H
                  have c16b0 : (((rd_T26 l0 x3_1).f0) == 17) = false := beq_eq_false_iff_ne.mpr c16
                  have c16b1 : (((rd_T26 l0 x3_1).f0) != 17) = true := bne_iff_ne.mpr c16
                  replace H := Option.bind_eq_some_iff.mp H
                  obtain ⟨t192, A200, H⟩ := H
                  replace H : (if t192 = true then (incipitlaw21_plain.l0 k1 l0 (wrap64 (x3_1 + 1))) else (some false)) = some r := H
                  have A20 := Aside0.mk A200
                  clear A200
                  by_cases c21 : t192 = true
                  · subst c21
                    have H1 : (incipitlaw21_plain.l0 k1 l0 (wrap64 (x3_1 + 1))) = some r := by rw [if_pos rfl] at H; exact H
                    clear H
                    have H := H1
                    clear H1
                    have H' := Aside0.mk H
                    clear H
                    have p179 : 0 ≤ (x3_1 : Int) := of_decide_eq_true (by first | (with_reducible assumption) | assumption)
                    have q179 : x3_1 < (l0.length : Int) := of_decide_eq_true (by first | (with_reducible assumption) | assumption)
                    obtain ⟨ad179, A179_6, c179_6, e179, hx179_0, hx179_1, hx179_2, hx179_3, hx179_4, hx179_5, hx179_6, hl179_6, hi179_6⟩ := at_T26 HR0.out x3_1 p179 q179
                    cases e179
                    have HR179_6 := Aside0.mk hi179_6
                    have HC179_6 := Aside0.mk hl179_6
                    clear hi179_6 hl179_6
                    replace p179 := eq_true p179
                    replace q179 := eq_true q179
                    have p191 : 0 ≤ (x3_1 : Int) := of_decide_eq_true (by first | (with_reducible assumption) | assumption)
                    have q191 : x3_1 < (l0.length : Int) := of_decide_eq_true (by first | (with_reducible assumption) | assumption)
                    obtain ⟨ad191, A191_6, c191_6, e191, hx191_0, hx191_1, hx191_2, hx191_3, hx191_4, hx191_5, hx191_6, hl191_6, hi191_6⟩ := at_T26 HR0.out x3_1 p191 q191
                    obtain rfl : ad179 = ad191 := (by injection e191)
                    have HR191_6 := Aside0.mk hi191_6
                    have HC191_6 := Aside0.mk hl191_6
                    clear hi191_6 hl191_6
                    replace p191 := eq_true p191
                    replace q191 := eq_true q191
                    have ea_ := Option.some.inj (hx179_6.symm.trans hx191_6)
                    injection ea_ with ea_ en_ ec_
                    subst ea_
                    subst ec_
                    clear en_
                    go_wp2_with (first | (go_at_call 6; (with_reducible refine (ih k1 (by have := HK1.out; omega) _ _ ((rd_T26 l0 x3_1).f6) true _ ?side1 ?side2 A20.out).mono ?_); (case side1 => repeat (first | exact HR191_6.out | (with_reducible refine Kd.C_alloc ?_ _) | (with_reducible refine Kd.C_drewN ?_ _) | (with_reducible refine Kd.C_drew ?_))); (case side2 => exact HC191_6.out); rintro e w' ⟨rfl, ⟨nd, rfl⟩⟩))
                    go_roundg k1
                    case measure => have := HK1.out; omega
                    case rel => exact ⟨(wrap64 (x3_1 + 1)), (by first | rfl | (simp; done) | (simp [*]; done)), H', ⟨by have := HK1.out; omega⟩, by repeat (first | exact Drawn0.refl _ | apply Drawn0.step)⟩
                  · replace c21 := Bool.eq_false_iff.mpr c21
                    subst c21
                    have H1 : (some false) = some r := by rw [if_neg (show ¬ (false = true) by decide)] at H; exact H
                    clear H
                    have H := H1
                    clear H1
                    obtain rfl := Option.some.inj H
                    have p179 : 0 ≤ (x3_1 : Int) := of_decide_eq_true (by first | (with_reducible assumption) | assumption)
                    have q179 : x3_1 < (l0.length : Int) := of_decide_eq_true (by first | (with_reducible assumption) | assumption)
                    obtain ⟨ad179, A179_6, c179_6, e179, hx179_0, hx179_1, hx179_2, hx179_3, hx179_4, hx179_5, hx179_6, hl179_6, hi179_6⟩ := at_T26 HR0.out x3_1 p179 q179
                    cases e179
                    have HR179_6 := Aside0.mk hi179_6
                    have HC179_6 := Aside0.mk hl179_6
                    clear hi179_6 hl179_6
                    replace p179 := eq_true p179
                    replace q179 := eq_true q179
                    have p191 : 0 ≤ (x3_1 : Int) := of_decide_eq_true (by first | (with_reducible assumption) | assumption)
                    have q191 : x3_1 < (l0.length : Int) := of_decide_eq_true (by first | (with_reducible assumption) | assumption)
                    obtain ⟨ad191, A191_6, c191_6, e191, hx191_0, hx191_1, hx191_2, hx191_3, hx191_4, hx191_5, hx191_6, hl191_6, hi191_6⟩ := at_T26 HR0.out x3_1 p191 q191
                    obtain rfl : ad179 = ad191 := (by injection e191)
                    have HR191_6 := Aside0.mk hi191_6
                    have HC191_6 := Aside0.mk hl191_6
                    clear hi191_6 hl191_6
                    replace p191 := eq_true p191
                    replace q191 := eq_true q191
                    have ea_ := Option.some.inj (hx179_6.symm.trans hx191_6)
                    injection ea_ with ea_ en_ ec_
                    subst ea_
                    subst ec_
                    clear en_
                    go_wp2_with (first | (go_at_call 6; (with_reducible refine (ih k1 (by have := HK1.out; omega) _ _ ((rd_T26 l0 x3_1).f6) false _ ?side1 ?side2 A20.out).mono ?_); (case side1 => repeat (first | exact HR191_6.out | (with_reducible refine Kd.C_alloc ?_ _) | (with_reducible refine Kd.C_drewN ?_ _) | (with_reducible refine Kd.C_drew ?_))); (case side2 => exact HC191_6.out); rintro e w' ⟨rfl, ⟨nd, rfl⟩⟩))
                    go_ret
                    exact ⟨by first | rfl | (simp; done) | (simp [*]; done), by repeat (first | exact Drawn0.refl _ | apply Drawn0.step)⟩
              · rw [if_neg c15] at H
                have c15b0 : (((rd_T26 l0 x3_1).f0) == 18) = false := beq_eq_false_iff_ne.mpr c15
                have c15b1 : (((rd_T26 l0 x3_1).f0) != 18) = true := bne_iff_ne.mpr c15
                by_cases c22 : ((rd_T26 l0 x3_1).f0) = 19
                · rw [if_pos c22] at H
                  have c22b0 : (((rd_T26 l0 x3_1).f0) == 19) = true := beq_iff_eq.mpr c22
                  have c22b1 : (((rd_T26 l0 x3_1).f0) != 19) = false := bne_eq_false_iff_eq.mpr c22
                  clear c22
                  by_cases c23 : ((rd_T26 l0 x3_1).f0) = 17
                  · rw [if_pos c23] at H
                    have c23b0 : (((rd_T26 l0 x3_1).f0) == 17) = true := beq_iff_eq.mpr c23
                    exact absurd (c23b0.symm.trans c8b0) (by decide)
                  · rw [if_neg c23] at H
                    have c23b0 : (((rd_T26 l0 x3_1).f0) == 17) = false := beq_eq_false_iff_ne.mpr c23
                    have c23b1 : (((rd_T26 l0 x3_1).f0) != 17) = true := bne_iff_ne.mpr c23
                    replace H := Option.bind_eq_some_iff.mp H
                    obtain ⟨t197, A270, H⟩ := H
                    replace H : (if t197 = true then (incipitlaw21_plain.l0 k1 l0 (wrap64 (x3_1 + 1))) else (some false)) = some r := H
                    have A27 := Aside0.mk A270
                    clear A270
                    by_cases c28 : t197 = true
                    · subst c28
                      have H1 : (incipitlaw21_plain.l0 k1 l0 (wrap64 (x3_1 + 1))) = some r := by rw [if_pos rfl] at H; exact H
                      clear H
                      have H := H1
                      clear H1
                      have H' := Aside0.mk H
                      clear H
                      have p179 : 0 ≤ (x3_1 : Int) := of_decide_eq_true (by first | (with_reducible assumption) | assumption)
                      have q179 : x3_1 < (l0.length : Int) := of_decide_eq_true (by first | (with_reducible assumption) | assumption)
                      obtain ⟨ad179, A179_6, c179_6, e179, hx179_0, hx179_1, hx179_2, hx179_3, hx179_4, hx179_5, hx179_6, hl179_6, hi179_6⟩ := at_T26 HR0.out x3_1 p179 q179
                      cases e179
                      have HR179_6 := Aside0.mk hi179_6
                      have HC179_6 := Aside0.mk hl179_6
                      clear hi179_6 hl179_6
                      replace p179 := eq_true p179
                      replace q179 := eq_true q179
                      have p196 : 0 ≤ (x3_1 : Int) := of_decide_eq_true (by first | (with_reducible assumption) | assumption)
                      have q196 : x3_1 < (l0.length : Int) := of_decide_eq_true (by first | (with_reducible assumption) | assumption)
                      obtain ⟨ad196, A196_6, c196_6, e196, hx196_0, hx196_1, hx196_2, hx196_3, hx196_4, hx196_5, hx196_6, hl196_6, hi196_6⟩ := at_T26 HR0.out x3_1 p196 q196
                      obtain rfl : ad179 = ad196 := (by injection e196)
                      have HR196_6 := Aside0.mk hi196_6
                      have HC196_6 := Aside0.mk hl196_6
                      clear hi196_6 hl196_6
                      replace p196 := eq_true p196
                      replace q196 := eq_true q196
                      have ea_ := Option.some.inj (hx179_6.symm.trans hx196_6)
                      injection ea_ with ea_ en_ ec_
                      subst ea_
                      subst ec_
                      clear en_
                      go_wp2_with (first | (go_at_call 6; (with_reducible refine (ih k1 (by have := HK1.out; omega) _ _ ((rd_T26 l0 x3_1).f6) true _ ?side1 ?side2 A27.out).mono ?_); (case side1 => repeat (first | exact HR196_6.out | (with_reducible refine Kd.C_alloc ?_ _) | (with_reducible refine Kd.C_drewN ?_ _) | (with_reducible refine Kd.C_drew ?_))); (case side2 => exact HC196_6.out); rintro e w' ⟨rfl, ⟨nd, rfl⟩⟩))
                      go_roundg k1
                      case measure => have := HK1.out; omega
                      case rel => exact ⟨(wrap64 (x3_1 + 1)), (by first | rfl | (simp; done) | (simp [*]; done)), H', ⟨by have := HK1.out; omega⟩, by repeat (first | exact Drawn0.refl _ | apply Drawn0.step)⟩
                    · replace c28 := Bool.eq_false_iff.mpr c28
                      subst c28
                      have H1 : (some false) = some r := by rw [if_neg (show ¬ (false = true) by decide)] at H; exact H
                      clear H
                      have H := H1
                      clear H1
                      obtain rfl := Option.some.inj H
                      have p179 : 0 ≤ (x3_1 : Int) := of_decide_eq_true (by first | (with_reducible assumption) | assumption)
                      have q179 : x3_1 < (l0.length : Int) := of_decide_eq_true (by first | (with_reducible assumption) | assumption)
                      obtain ⟨ad179, A179_6, c179_6, e179, hx179_0, hx179_1, hx179_2, hx179_3, hx179_4, hx179_5, hx179_6, hl179_6, hi179_6⟩ := at_T26 HR0.out x3_1 p179 q179
                      cases e179
                      have HR179_6 := Aside0.mk hi179_6
                      have HC179_6 := Aside0.mk hl179_6
                      clear hi179_6 hl179_6
                      replace p179 := eq_true p179
                      replace q179 := eq_true q179
                      have p196 : 0 ≤ (x3_1 : Int) := of_decide_eq_true (by first | (with_reducible assumption) | assumption)
                      have q196 : x3_1 < (l0.length : Int) := of_decide_eq_true (by first | (with_reducible assumption) | assumption)
                      obtain ⟨ad196, A196_6, c196_6, e196, hx196_0, hx196_1, hx196_2, hx196_3, hx196_4, hx196_5, hx196_6, hl196_6, hi196_6⟩ := at_T26 HR0.out x3_1 p196 q196
                      obtain rfl : ad179 = ad196 := (by injection e196)
                      have HR196_6 := Aside0.mk hi196_6
                      have HC196_6 := Aside0.mk hl196_6
                      clear hi196_6 hl196_6
                      replace p196 := eq_true p196
                      replace q196 := eq_true q196
                      have ea_ := Option.some.inj (hx179_6.symm.trans hx196_6)
                      injection ea_ with ea_ en_ ec_
                      subst ea_
                      subst ec_
                      clear en_
                      go_wp2_with (first | (go_at_call 6; (with_reducible refine (ih k1 (by have := HK1.out; omega) _ _ ((rd_T26 l0 x3_1).f6) false _ ?side1 ?side2 A27.out).mono ?_); (case side1 => repeat (first | exact HR196_6.out | (with_reducible refine Kd.C_alloc ?_ _) | (with_reducible refine Kd.C_drewN ?_ _) | (with_reducible refine Kd.C_drew ?_))); (case side2 => exact HC196_6.out); rintro e w' ⟨rfl, ⟨nd, rfl⟩⟩))
                      go_ret
                      exact ⟨by first | rfl | (simp; done) | (simp [*]; done), by repeat (first | exact Drawn0.refl _ | apply Drawn0.step)⟩
                · rw [if_neg c22] at H
                  have c22b0 : (((rd_T26 l0 x3_1).f0) == 19) = false := beq_eq_false_iff_ne.mpr c22
                  have c22b1 : (((rd_T26 l0 x3_1).f0) != 19) = true := bne_iff_ne.mpr c22
                  by_cases c29 : ((rd_T26 l0 x3_1).f0) = 23
                  · rw [if_pos c29] at H
                    have c29b0 : (((rd_T26 l0 x3_1).f0) == 23) = true := beq_iff_eq.mpr c29
                    have c29b1 : (((rd_T26 l0 x3_1).f0) != 23) = false := bne_eq_false_iff_eq.mpr c29
                    clear c29
                    by_cases c30 : ((rd_T26 l0 x3_1).f0) = 17
                    · rw [if_pos c30] at H
                      have c30b0 : (((rd_T26 l0 x3_1).f0) == 17) = true := beq_iff_eq.mpr c30
                      exact absurd (c30b0.symm.trans c8b0) (by decide)
                    · rw [if_neg c30] at H
                      have c30b0 : (((rd_T26 l0 x3_1).f0) == 17) = false := beq_eq_false_iff_ne.mpr c30
                      have c30b1 : (((rd_T26 l0 x3_1).f0) != 17) = true := bne_iff_ne.mpr c30
                      replace H := Option.bind_eq_some_iff.mp H
                      obtain ⟨t202, A340, H⟩ := H
                      replace H : (if t202 = true then (incipitlaw21_plain.l0 k1 l0 (wrap64 (x3_1 + 1))) else (some false)) = some r := H
                      have A34 := Aside0.mk A340
                      clear A340
                      by_cases c35 : t202 = true
                      · subst c35
                        have H1 : (incipitlaw21_plain.l0 k1 l0 (wrap64 (x3_1 + 1))) = some r := by rw [if_pos rfl] at H; exact H
                        clear H
                        have H := H1
                        clear H1
                        have H' := Aside0.mk H
                        clear H
                        have p179 : 0 ≤ (x3_1 : Int) := of_decide_eq_true (by first | (with_reducible assumption) | assumption)
                        have q179 : x3_1 < (l0.length : Int) := of_decide_eq_true (by first | (with_reducible assumption) | assumption)
                        obtain ⟨ad179, A179_6, c179_6, e179, hx179_0, hx179_1, hx179_2, hx179_3, hx179_4, hx179_5, hx179_6, hl179_6, hi179_6⟩ := at_T26 HR0.out x3_1 p179 q179
                        cases e179
                        have HR179_6 := Aside0.mk hi179_6
                        have HC179_6 := Aside0.mk hl179_6
                        clear hi179_6 hl179_6
                        replace p179 := eq_true p179
                        replace q179 := eq_true q179
                        have p201 : 0 ≤ (x3_1 : Int) := of_decide_eq_true (by first | (with_reducible assumption) | assumption)
                        have q201 : x3_1 < (l0.length : Int) := of_decide_eq_true (by first | (with_reducible assumption) | assumption)
                        obtain ⟨ad201, A201_6, c201_6, e201, hx201_0, hx201_1, hx201_2, hx201_3, hx201_4, hx201_5, hx201_6, hl201_6, hi201_6⟩ := at_T26 HR0.out x3_1 p201 q201
                        obtain rfl : ad179 = ad201 := (by injection e201)
                        have HR201_6 := Aside0.mk hi201_6
                        have HC201_6 := Aside0.mk hl201_6
                        clear hi201_6 hl201_6
                        replace p201 := eq_true p201
                        replace q201 := eq_true q201
                        have ea_ := Option.some.inj (hx179_6.symm.trans hx201_6)
                        injection ea_ with ea_ en_ ec_
                        subst ea_
                        subst ec_
                        clear en_
                        go_wp2_with (first | (go_at_call 6; (with_reducible refine (ih k1 (by have := HK1.out; omega) _ _ ((rd_T26 l0 x3_1).f6) true _ ?side1 ?side2 A34.out).mono ?_); (case side1 => repeat (first | exact HR201_6.out | (with_reducible refine Kd.C_alloc ?_ _) | (with_reducible refine Kd.C_drewN ?_ _) | (with_reducible refine Kd.C_drew ?_))); (case side2 => exact HC201_6.out); rintro e w' ⟨rfl, ⟨nd, rfl⟩⟩))
                        go_roundg k1
                        case measure => have := HK1.out; omega
                        case rel => exact ⟨(wrap64 (x3_1 + 1)), (by first | rfl | (simp; done) | (simp [*]; done)), H', ⟨by have := HK1.out; omega⟩, by repeat (first | exact Drawn0.refl _ | apply Drawn0.step)⟩
                      · replace c35 := Bool.eq_false_iff.mpr c35
                        subst c35
                        have H1 : (some false) = some r := by rw [if_neg (show ¬ (false = true) by decide)] at H; exact H
                        clear H
                        have H := H1
                        clear H1
                        obtain rfl := Option.some.inj H
                        have p179 : 0 ≤ (x3_1 : Int) := of_decide_eq_true (by first | (with_reducible assumption) | assumption)
                        have q179 : x3_1 < (l0.length : Int) := of_decide_eq_true (by first | (with_reducible assumption) | assumption)
                        obtain ⟨ad179, A179_6, c179_6, e179, hx179_0, hx179_1, hx179_2, hx179_3, hx179_4, hx179_5, hx179_6, hl179_6, hi179_6⟩ := at_T26 HR0.out x3_1 p179 q179
                        cases e179
                        have HR179_6 := Aside0.mk hi179_6
                        have HC179_6 := Aside0.mk hl179_6
                        clear hi179_6 hl179_6
                        replace p179 := eq_true p179
                        replace q179 := eq_true q179
                        have p201 : 0 ≤ (x3_1 : Int) := of_decide_eq_true (by first | (with_reducible assumption) | assumption)
                        have q201 : x3_1 < (l0.length : Int) := of_decide_eq_true (by first | (with_reducible assumption) | assumption)
                        obtain ⟨ad201, A201_6, c201_6, e201, hx201_0, hx201_1, hx201_2, hx201_3, hx201_4, hx201_5, hx201_6, hl201_6, hi201_6⟩ := at_T26 HR0.out x3_1 p201 q201
                        obtain rfl : ad179 = ad201 := (by injection e201)
                        have HR201_6 := Aside0.mk hi201_6
                        have HC201_6 := Aside0.mk hl201_6
                        clear hi201_6 hl201_6
                        replace p201 := eq_true p201
                        replace q201 := eq_true q201
                        have ea_ := Option.some.inj (hx179_6.symm.trans hx201_6)
                        injection ea_ with ea_ en_ ec_
                        subst ea_
                        subst ec_
                        clear en_
                        go_wp2_with (first | (go_at_call 6; (with_reducible refine (ih k1 (by have := HK1.out; omega) _ _ ((rd_T26 l0 x3_1).f6) false _ ?side1 ?side2 A34.out).mono ?_); (case side1 => repeat (first | exact HR201_6.out | (with_reducible refine Kd.C_alloc ?_ _) | (with_reducible refine Kd.C_drewN ?_ _) | (with_reducible refine Kd.C_drew ?_))); (case side2 => exact HC201_6.out); rintro e w' ⟨rfl, ⟨nd, rfl⟩⟩))
                        go_ret
                        exact ⟨by first | rfl | (simp; done) | (simp [*]; done), by repeat (first | exact Drawn0.refl _ | apply Drawn0.step)⟩
                  · rw [if_neg c29] at H
                    have c29b0 : (((rd_T26 l0 x3_1).f0) == 23) = false := beq_eq_false_iff_ne.mpr c29
                    have c29b1 : (((rd_T26 l0 x3_1).f0) != 23) = true := bne_iff_ne.mpr c29
                    by_cases c36 : ((rd_T26 l0 x3_1).f0) = 20
                    · rw [if_pos c36] at H
                      have c36b0 : (((rd_T26 l0 x3_1).f0) == 20) = true := beq_iff_eq.mpr c36
                      have c36b1 : (((rd_T26 l0 x3_1).f0) != 20) = false := bne_eq_false_iff_eq.mpr c36
                      clear c36
                      by_cases c37 : ((rd_T26 l0 x3_1).f0) = 17
                      · rw [if_pos c37] at H
                        have c37b0 : (((rd_T26 l0 x3_1).f0) == 17) = true := beq_iff_eq.mpr c37
                        exact absurd (c37b0.symm.trans c8b0) (by decide)
                      · rw [if_neg c37] at H
                        have c37b0 : (((rd_T26 l0 x3_1).f0) == 17) = false := beq_eq_false_iff_ne.mpr c37
                        have c37b1 : (((rd_T26 l0 x3_1).f0) != 17) = true := bne_iff_ne.mpr c37
                        replace H := Option.bind_eq_some_iff.mp H
                        obtain ⟨t207, A410, H⟩ := H
                        replace H : (if t207 = true then (incipitlaw21_plain.l0 k1 l0 (wrap64 (x3_1 + 1))) else (some false)) = some r := H
                        have A41 := Aside0.mk A410
                        clear A410
                        by_cases c42 : t207 = true
                        · subst c42
                          have H1 : (incipitlaw21_plain.l0 k1 l0 (wrap64 (x3_1 + 1))) = some r := by rw [if_pos rfl] at H; exact H
                          clear H
                          have H := H1
                          clear H1
                          have H' := Aside0.mk H
                          clear H
                          have p179 : 0 ≤ (x3_1 : Int) := of_decide_eq_true (by first | (with_reducible assumption) | assumption)
                          have q179 : x3_1 < (l0.length : Int) := of_decide_eq_true (by first | (with_reducible assumption) | assumption)
                          obtain ⟨ad179, A179_6, c179_6, e179, hx179_0, hx179_1, hx179_2, hx179_3, hx179_4, hx179_5, hx179_6, hl179_6, hi179_6⟩ := at_T26 HR0.out x3_1 p179 q179
                          cases e179
                          have HR179_6 := Aside0.mk hi179_6
                          have HC179_6 := Aside0.mk hl179_6
                          clear hi179_6 hl179_6
                          replace p179 := eq_true p179
                          replace q179 := eq_true q179
                          have p206 : 0 ≤ (x3_1 : Int) := of_decide_eq_true (by first | (with_reducible assumption) | assumption)
                          have q206 : x3_1 < (l0.length : Int) := of_decide_eq_true (by first | (with_reducible assumption) | assumption)
                          obtain ⟨ad206, A206_6, c206_6, e206, hx206_0, hx206_1, hx206_2, hx206_3, hx206_4, hx206_5, hx206_6, hl206_6, hi206_6⟩ := at_T26 HR0.out x3_1 p206 q206
                          obtain rfl : ad179 = ad206 := (by injection e206)
                          have HR206_6 := Aside0.mk hi206_6
                          have HC206_6 := Aside0.mk hl206_6
                          clear hi206_6 hl206_6
                          replace p206 := eq_true p206
                          replace q206 := eq_true q206
                          have ea_ := Option.some.inj (hx179_6.symm.trans hx206_6)
                          injection ea_ with ea_ en_ ec_
                          subst ea_
                          subst ec_
                          clear en_
                          go_wp2_with (first | (go_at_call 6; (with_reducible refine (ih k1 (by have := HK1.out; omega) _ _ ((rd_T26 l0 x3_1).f6) true _ ?side1 ?side2 A41.out).mono ?_); (case side1 => repeat (first | exact HR206_6.out | (with_reducible refine Kd.C_alloc ?_ _) | (with_reducible refine Kd.C_drewN ?_ _) | (with_reducible refine Kd.C_drew ?_))); (case side2 => exact HC206_6.out); rintro e w' ⟨rfl, ⟨nd, rfl⟩⟩))
                          go_roundg k1
                          case measure => have := HK1.out; omega
                          case rel => exact ⟨(wrap64 (x3_1 + 1)), (by first | rfl | (simp; done) | (simp [*]; done)), H', ⟨by have := HK1.out; omega⟩, by repeat (first | exact Drawn0.refl _ | apply Drawn0.step)⟩
                        · replace c42 := Bool.eq_false_iff.mpr c42
                          subst c42
                          have H1 : (some false) = some r := by rw [if_neg (show ¬ (false = true) by decide)] at H; exact H
                          clear H
                          have H := H1
                          clear H1
                          obtain rfl := Option.some.inj H
                          have p179 : 0 ≤ (x3_1 : Int) := of_decide_eq_true (by first | (with_reducible assumption) | assumption)
                          have q179 : x3_1 < (l0.length : Int) := of_decide_eq_true (by first | (with_reducible assumption) | assumption)
                          obtain ⟨ad179, A179_6, c179_6, e179, hx179_0, hx179_1, hx179_2, hx179_3, hx179_4, hx179_5, hx179_6, hl179_6, hi179_6⟩ := at_T26 HR0.out x3_1 p179 q179
                          cases e179
                          have HR179_6 := Aside0.mk hi179_6
                          have HC179_6 := Aside0.mk hl179_6
                          clear hi179_6 hl179_6
                          replace p179 := eq_true p179
                          replace q179 := eq_true q179
                          have p206 : 0 ≤ (x3_1 : Int) := of_decide_eq_true (by first | (with_reducible assumption) | assumption)
                          have q206 : x3_1 < (l0.length : Int) := of_decide_eq_true (by first | (with_reducible assumption) | assumption)
                          obtain ⟨ad206, A206_6, c206_6, e206, hx206_0, hx206_1, hx206_2, hx206_3, hx206_4, hx206_5, hx206_6, hl206_6, hi206_6⟩ := at_T26 HR0.out x3_1 p206 q206
                          obtain rfl : ad179 = ad206 := (by injection e206)
                          have HR206_6 := Aside0.mk hi206_6
                          have HC206_6 := Aside0.mk hl206_6
                          clear hi206_6 hl206_6
                          replace p206 := eq_true p206
                          replace q206 := eq_true q206
                          have ea_ := Option.some.inj (hx179_6.symm.trans hx206_6)
                          injection ea_ with ea_ en_ ec_
                          subst ea_
                          subst ec_
                          clear en_
                          go_wp2_with (first | (go_at_call 6; (with_reducible refine (ih k1 (by have := HK1.out; omega) _ _ ((rd_T26 l0 x3_1).f6) false _ ?side1 ?side2 A41.out).mono ?_); (case side1 => repeat (first | exact HR206_6.out | (with_reducible refine Kd.C_alloc ?_ _) | (with_reducible refine Kd.C_drewN ?_ _) | (with_reducible refine Kd.C_drew ?_))); (case side2 => exact HC206_6.out); rintro e w' ⟨rfl, ⟨nd, rfl⟩⟩))
                          go_ret
                          exact ⟨by first | rfl | (simp; done) | (simp [*]; done), by repeat (first | exact Drawn0.refl _ | apply Drawn0.step)⟩
                    · rw [if_neg c36] at H
                      have c36b0 : (((rd_T26 l0 x3_1).f0) == 20) = false := beq_eq_false_iff_ne.mpr c36
                      have c36b1 : (((rd_T26 l0 x3_1).f0) != 20) = true := bne_iff_ne.mpr c36
                      obtain rfl := Option.some.inj H
                      have p179 : 0 ≤ (x3_1 : Int) := of_decide_eq_true (by first | (with_reducible assumption) | assumption)
                      have q179 : x3_1 < (l0.length : Int) := of_decide_eq_true (by first | (with_reducible assumption) | assumption)
                      obtain ⟨ad179, A179_6, c179_6, e179, hx179_0, hx179_1, hx179_2, hx179_3, hx179_4, hx179_5, hx179_6, hl179_6, hi179_6⟩ := at_T26 HR0.out x3_1 p179 q179
                      cases e179
                      have HR179_6 := Aside0.mk hi179_6
                      have HC179_6 := Aside0.mk hl179_6
                      clear hi179_6 hl179_6
                      replace p179 := eq_true p179
                      replace q179 := eq_true q179
                      go_wp2
                      go_ret
                      exact ⟨by first | rfl | (simp; done) | (simp [*]; done), by repeat (first | exact Drawn0.refl _ | apply Drawn0.step)⟩
        · rw [if_neg c3] at H
          exact absurd H (by simp)
      · rw [if_neg c2] at H
        have c2b0 : decide (x3_1 < (l0.length : Int)) = false := decide_eq_false c2
        clear c2
        obtain rfl := Option.some.inj H
        go_wp2
        go_ret
        exact ⟨by first | rfl | (simp; done) | (simp [*]; done), by repeat (first | exact Drawn0.refl _ | apply Drawn0.step)⟩

end Go.Proofs.YtjcfjgcnkbbgmaaGreatDoor.PA

namespace Go.Proofs.YtjcfjgcnkbbgmaaGreatDoor.PA
open Go.RowKit Go.Proofs.YtjcfjgcnkbbgmaaGreatDoorW.PrintWords Go.Proofs.YtjcfjgcnkbbgmaaGreatDoorW.PrintLast Go.Proofs.YtjcfjgcnkbbgmaaGreatDoorW.PrintMore
attribute [local go_sem] max2_int min2_int max_two min_two max_three min_three max_four min_four   -- for this text's walks alone
set_option linter.unusedVariables false
set_option linter.unusedSimpArgs false


/-! ### incipitlaw21_texts: function 9 -/
mutual
def incipitlaw21_texts.l0 : Nat → List (S26) → ByteArray → Int → Option (ByteArray)
  | 0, _, _, _ => none
  | k + 1, x0, x3, x4 => if x4 < (x0.length : Int) then (if 0 ≤ x4 then (if ((rd_T26 x0 x4).f0) = 14 then (incipitlaw21_texts.j1 k x0 x3 x4 true) else (incipitlaw21_texts.j1 k x0 x3 x4 (((rd_T26 x0 x4).f0) == 17))) else (none)) else (some x3)
def incipitlaw21_texts.j1 : Nat → List (S26) → ByteArray → Int → Bool → Option (ByteArray)
  | 0, _, _, _, _ => none
  | k + 1, x0, x3, x4, x25 => if x25 = true then (incipitlaw21_texts.l1 k x0 x3 x4 0) else (if 0 ≤ x4 then (if x4 < (x0.length : Int) then ((incipitlaw21_texts.f k ((rd_T26 x0 x4).f6)).bind fun t216 => (if x3.size + t216.size ≤ 9223372036854775807 then (incipitlaw21_texts.l0 k x0 (x3 ++ t216) (wrap64 (x4 + 1))) else (none))) else (none)) else (none))
def incipitlaw21_texts.l1 : Nat → List (S26) → ByteArray → Int → Int → Option (ByteArray)
  | 0, _, _, _, _ => none
  | k + 1, x0, x3, x4, x5 => if 0 ≤ x4 then (if x4 < (x0.length : Int) then (if x5 < (((rd_T26 x0 x4).f1).size : Int) then (if 0 ≤ x5 then (if (bt ((rd_T26 x0 x4).f1) x5) = 60 then (if x3.size + 4 ≤ 9223372036854775807 then (incipitlaw21_texts.l1 k x0 (x3 ++ (⟨#[38, 108, 116, 59]⟩ : ByteArray)) x4 (wrap64 (x5 + 1))) else (none)) else (if (bt ((rd_T26 x0 x4).f1) x5) = 62 then (if x3.size + 4 ≤ 9223372036854775807 then (incipitlaw21_texts.l1 k x0 (x3 ++ (⟨#[38, 103, 116, 59]⟩ : ByteArray)) x4 (wrap64 (x5 + 1))) else (none)) else (if (bt ((rd_T26 x0 x4).f1) x5) = 38 then (if x3.size + 5 ≤ 9223372036854775807 then (incipitlaw21_texts.l1 k x0 (x3 ++ (⟨#[38, 97, 109, 112, 59]⟩ : ByteArray)) x4 (wrap64 (x5 + 1))) else (none)) else (if (bt ((rd_T26 x0 x4).f1) x5) = 34 then (if x3.size + 6 ≤ 9223372036854775807 then (incipitlaw21_texts.l1 k x0 (x3 ++ (⟨#[38, 113, 117, 111, 116, 59]⟩ : ByteArray)) x4 (wrap64 (x5 + 1))) else (none)) else (if x5 ≤ (wrap64 (x5 + 1)) then (if (wrap64 (x5 + 1)) ≤ (((rd_T26 x0 x4).f1).size : Int) then (if x3.size + (((rd_T26 x0 x4).f1).extract (x5 : Int).toNat ((wrap64 (x5 + 1)) : Int).toNat).size ≤ 9223372036854775807 then (incipitlaw21_texts.l1 k x0 (x3 ++ (((rd_T26 x0 x4).f1).extract (x5 : Int).toNat ((wrap64 (x5 + 1)) : Int).toNat)) x4 (wrap64 (x5 + 1))) else (none)) else (none)) else (none)))))) else (none)) else ((incipitlaw21_texts.f k ((rd_T26 x0 x4).f6)).bind fun t212 => (if x3.size + t212.size ≤ 9223372036854775807 then (incipitlaw21_texts.l0 k x0 (x3 ++ t212) (wrap64 (x4 + 1))) else (none)))) else (none)) else (none)
def incipitlaw21_texts.f : Nat → List (S26) → Option (ByteArray)
  | 0, _ => none
  | k + 1, l0 => incipitlaw21_texts.l0 k l0 (⟨#[]⟩ : ByteArray) 0
end
set_option maxHeartbeats 8000000 in
set_option maxRecDepth 100000 in
theorem incipitlaw21_texts.calls (k : Nat) : ∀ (A0 : Option Addr) (c0 : Nat) (l0 : List (S26)) (r : ByteArray) (w : World) (hr0 : Kd.C k26 w A0 l0.length l0) (hc0 : l0.length ≤ c0) (h : incipitlaw21_texts.f k l0 = some r),
    Calls Tryz.prog 9 #[.slice A0 l0.length c0] w fun e w' => e = .returned (.string r) ∧ Drawn0 w w' := by
  induction k using Nat.strongRecOn with
  | _ k ih =>
  intro A0 c0 l0 r w hr0 hc0 h
  cases k with
  | zero => exact absurd h (by simp [incipitlaw21_texts.f])
  | succ k =>
  simp only [incipitlaw21_texts.f] at h
  have HR0 := Aside0.mk hr0
  have HC0 := Aside0.mk hc0
  clear hr0 hc0
  have H : (incipitlaw21_texts.l0 k l0 (⟨#[]⟩ : ByteArray) 0) = some r := h
  clear h
  have H' := Aside0.mk H
  clear H
  go_enter Tryz.func9, Tryz.ntmps9
  go_wp2
  go_loopg [3, 4] k (fun kq v3 v4 w' => ∃ (x3_1 : ByteArray) (x4_1 : Int), v3 = .string x3_1 ∧ v4 = .int .i64 x4_1 ∧ Aside0 (incipitlaw21_texts.l0 kq l0 x3_1 x4_1 = some r) ∧ Aside0 (kq ≤ k) ∧ Drawn0 w w')
  case atStart => exact ⟨((⟨#[]⟩ : ByteArray)), (0), (by first | rfl | (simp; done) | (simp [*]; done)), (by first | rfl | (simp; done) | (simp [*]; done)), H', ⟨Nat.le_refl _⟩, by repeat (first | exact Drawn0.refl _ | apply Drawn0.step)⟩
  case round =>
    clear H'
    obtain ⟨x3_1, x4_1, rfl, rfl, HA, HK1, ⟨m1, rfl⟩⟩ := hrel
    cases gk with
    | zero => exact absurd HA.out (by simp [incipitlaw21_texts.l0])
    | succ k1 =>
      have H := HA.out
      clear HA
      simp only [incipitlaw21_texts.l0] at H
      by_cases c2 : x4_1 < (l0.length : Int)
      · rw [if_pos c2] at H
        have c2b0 : decide (x4_1 < (l0.length : Int)) = true := decide_eq_true c2
        clear c2
        have HC3 := Aside0.mk H
        clear H
        go_upto_region 5 with (fail)
        go_cut [25] (fun v25 wc => ∃ (kq : Nat) (x25_2 : Bool), v25 = .bool x25_2 ∧ Aside0 (incipitlaw21_texts.j1 kq l0 x3_1 x4_1 x25_2 = some r) ∧ Aside0 (kq ≤ k1) ∧ Drawn0 w wc)
        case first =>
          have H := HC3.out
          clear HC3
          by_cases c4 : 0 ≤ x4_1
          · rw [if_pos c4] at H
            have c4b0 : decide (0 ≤ x4_1) = true := decide_eq_true c4
            clear c4
            (first | rw [c4b0] | (simp only [i64_w, i32_w]; rw [c4b0]) | skip)
            by_cases c5 : ((rd_T26 l0 x4_1).f0) = 14
            · rw [if_pos c5] at H
              have c5b0 : (((rd_T26 l0 x4_1).f0) == 14) = true := beq_iff_eq.mpr c5
              have c5b1 : (((rd_T26 l0 x4_1).f0) != 14) = false := bne_eq_false_iff_eq.mpr c5
              clear c5
              have H' := Aside0.mk H
              clear H
              have p208 : 0 ≤ (x4_1 : Int) := of_decide_eq_true (by first | (with_reducible assumption) | assumption)
              have q208 : x4_1 < (l0.length : Int) := of_decide_eq_true (by first | (with_reducible assumption) | assumption)
              obtain ⟨ad208, A208_6, c208_6, e208, hx208_0, hx208_1, hx208_2, hx208_3, hx208_4, hx208_5, hx208_6, hl208_6, hi208_6⟩ := at_T26 HR0.out x4_1 p208 q208
              cases e208
              have HR208_6 := Aside0.mk hi208_6
              have HC208_6 := Aside0.mk hl208_6
              clear hi208_6 hl208_6
              replace p208 := eq_true p208
              replace q208 := eq_true q208
              go_wp2
              go_meet
              case rel => exact ⟨_, (true), (by first | rfl | (simp; done) | (simp [*]; done)), H', ⟨by have := HK1.out; first | omega | exact Nat.le_refl _⟩, by repeat (first | exact Drawn0.refl _ | apply Drawn0.step)⟩
            · rw [if_neg c5] at H
              have c5b0 : (((rd_T26 l0 x4_1).f0) == 14) = false := beq_eq_false_iff_ne.mpr c5
              have c5b1 : (((rd_T26 l0 x4_1).f0) != 14) = true := bne_iff_ne.mpr c5
              have H' := Aside0.mk H
              clear H
              have p208 : 0 ≤ (x4_1 : Int) := of_decide_eq_true (by first | (with_reducible assumption) | assumption)
              have q208 : x4_1 < (l0.length : Int) := of_decide_eq_true (by first | (with_reducible assumption) | assumption)
              obtain ⟨ad208, A208_6, c208_6, e208, hx208_0, hx208_1, hx208_2, hx208_3, hx208_4, hx208_5, hx208_6, hl208_6, hi208_6⟩ := at_T26 HR0.out x4_1 p208 q208
              cases e208
              have HR208_6 := Aside0.mk hi208_6
              have HC208_6 := Aside0.mk hl208_6
              clear hi208_6 hl208_6
              replace p208 := eq_true p208
              replace q208 := eq_true q208
              have p209 : 0 ≤ (x4_1 : Int) := of_decide_eq_true (by first | (with_reducible assumption) | assumption)
              have q209 : x4_1 < (l0.length : Int) := of_decide_eq_true (by first | (with_reducible assumption) | assumption)
              obtain ⟨ad209, A209_6, c209_6, e209, hx209_0, hx209_1, hx209_2, hx209_3, hx209_4, hx209_5, hx209_6, hl209_6, hi209_6⟩ := at_T26 HR0.out x4_1 p209 q209
              obtain rfl : ad208 = ad209 := (by injection e209)
              have HR209_6 := Aside0.mk hi209_6
              have HC209_6 := Aside0.mk hl209_6
              clear hi209_6 hl209_6
              replace p209 := eq_true p209
              replace q209 := eq_true q209
              have ea_ := Option.some.inj (hx208_6.symm.trans hx209_6)
              injection ea_ with ea_ en_ ec_
              subst ea_
              subst ec_
              clear en_
              go_wp2
              go_meet
              case rel => exact ⟨_, ((((rd_T26 l0 x4_1).f0) == 17)), (by first | rfl | (simp; done) | (simp [*]; done)), H', ⟨by have := HK1.out; first | omega | exact Nat.le_refl _⟩, by repeat (first | exact Drawn0.refl _ | apply Drawn0.step)⟩
          · rw [if_neg c4] at H
            exact absurd H (by simp)
        case rest =>
          clear HC3
          try clear c2
          try clear c2b0
          try clear p2
          try clear q2
          try clear hx2
          try clear c4
          try clear c4b0
          try clear c5
          try clear c5b0
          try clear c5b1
          try clear hx208_0
          try clear hx208_1
          try clear hx208_2
          try clear hx208_3
          try clear hx208_4
          try clear hx208_5
          try clear hx208_6
          try clear hx209_0
          try clear hx209_1
          try clear hx209_2
          try clear hx209_3
          try clear hx209_4
          try clear hx209_5
          try clear hx209_6
          try clear p208
          try clear p209
          try clear q208
          try clear q209
          obtain ⟨kq, x25_2, rfl, HA, HJ2, ⟨mc2, rfl⟩⟩ := hcut
          cases kq with
          | zero => exact absurd HA.out (by simp [incipitlaw21_texts.j1])
          | succ kj2 =>
            have H := HA.out
            clear HA
            simp only [incipitlaw21_texts.j1] at H
            by_cases c6 : x25_2 = true
            · subst c6
              have H1 : (incipitlaw21_texts.l1 kj2 l0 x3_1 x4_1 0) = some r := by rw [if_pos rfl] at H; exact H
              clear H
              have H := H1
              clear H1
              have H' := Aside0.mk H
              clear H
              go_wp2
              go_loopg [3, 5] kj2 (fun kq v3 v5 w' => ∃ (x3_3 : ByteArray) (x5_3 : Int), v3 = .string x3_3 ∧ v5 = .int .i64 x5_3 ∧ Aside0 (incipitlaw21_texts.l1 kq l0 x3_3 x4_1 x5_3 = some r) ∧ Aside0 (kq ≤ kj2) ∧ Drawn0 w w')
              case atStart => exact ⟨(x3_1), (0), (by first | rfl | (simp; done) | (simp [*]; done)), (by first | rfl | (simp; done) | (simp [*]; done)), H', ⟨Nat.le_refl _⟩, by repeat (first | exact Drawn0.refl _ | apply Drawn0.step)⟩
              case round =>
                clear H'
                try clear c2
                try clear c2b0
                try clear p2
                try clear q2
                try clear hx2
                try clear c4
                try clear c4b0
                try clear c5
                try clear c5b0
                try clear c5b1
                try clear c6
                try clear hx208_0
                try clear hx208_1
                try clear hx208_2
                try clear hx208_3
                try clear hx208_4
                try clear hx208_5
                try clear hx208_6
                try clear hx209_0
                try clear hx209_1
                try clear hx209_2
                try clear hx209_3
                try clear hx209_4
                try clear hx209_5
                try clear hx209_6
                try clear p2
                try clear p208
                try clear p209
                try clear q2
                try clear q208
                try clear q209
                obtain ⟨x3_3, x5_3, rfl, rfl, HA, HK3, ⟨m3, rfl⟩⟩ := hrel
                cases gk with
                | zero => exact absurd HA.out (by simp [incipitlaw21_texts.l1])
                | succ k3 =>
                  have H := HA.out
                  clear HA
                  simp only [incipitlaw21_texts.l1] at H
                  by_cases c7 : 0 ≤ x4_1
                  · rw [if_pos c7] at H
                    have c7b0 : decide (0 ≤ x4_1) = true := decide_eq_true c7
                    clear c7
                    by_cases c8 : x4_1 < (l0.length : Int)
                    · rw [if_pos c8] at H
                      have c8b0 : decide (x4_1 < (l0.length : Int)) = true := decide_eq_true c8
                      clear c8
                      by_cases c9 : x5_3 < (((rd_T26 l0 x4_1).f1).size : Int)
                      · rw [if_pos c9] at H
                        have c9b0 : decide (x5_3 < (((rd_T26 l0 x4_1).f1).size : Int)) = true := decide_eq_true c9
                        clear c9
                        by_cases c10 : 0 ≤ x5_3
                        · rw [if_pos c10] at H
                          have c10b0 : decide (0 ≤ x5_3) = true := decide_eq_true c10
                          clear c10
                          by_cases c12 : (bt ((rd_T26 l0 x4_1).f1) x5_3) = 60
                          · rw [if_pos c12] at H
                            have c12b0 : ((bt ((rd_T26 l0 x4_1).f1) x5_3) == 60) = true := beq_iff_eq.mpr c12
                            have c12b1 : ((bt ((rd_T26 l0 x4_1).f1) x5_3) != 60) = false := bne_eq_false_iff_eq.mpr c12
                            clear c12
                            by_cases c13 : x3_3.size + 4 ≤ 9223372036854775807
                            · rw [if_pos c13] at H
                              have c13b0 := eq_true c13
                              have c13b1 : decide (x3_3.size + 4 ≤ 9223372036854775807) = true := decide_eq_true c13
                              try have c13b2 : (9223372036854775807 < x3_3.size + 4) = False := eq_false (Nat.not_lt.2 c13)
                              have H' := Aside0.mk H
                              clear H
                              have p210 : 0 ≤ (x4_1 : Int) := of_decide_eq_true (by first | (with_reducible assumption) | assumption)
                              have q210 : x4_1 < (l0.length : Int) := of_decide_eq_true (by first | (with_reducible assumption) | assumption)
                              obtain ⟨ad210, A210_6, c210_6, e210, hx210_0, hx210_1, hx210_2, hx210_3, hx210_4, hx210_5, hx210_6, hl210_6, hi210_6⟩ := at_T26 HR0.out x4_1 p210 q210
                              cases e210
                              have HR210_6 := Aside0.mk hi210_6
                              have HC210_6 := Aside0.mk hl210_6
                              clear hi210_6 hl210_6
                              replace p210 := eq_true p210
                              replace q210 := eq_true q210
                              have p213 : 0 ≤ (x4_1 : Int) := of_decide_eq_true (by first | (with_reducible assumption) | assumption)
                              have q213 : x4_1 < (l0.length : Int) := of_decide_eq_true (by first | (with_reducible assumption) | assumption)
                              obtain ⟨ad213, A213_6, c213_6, e213, hx213_0, hx213_1, hx213_2, hx213_3, hx213_4, hx213_5, hx213_6, hl213_6, hi213_6⟩ := at_T26 HR0.out x4_1 p213 q213
                              obtain rfl : ad210 = ad213 := (by injection e213)
                              have HR213_6 := Aside0.mk hi213_6
                              have HC213_6 := Aside0.mk hl213_6
                              clear hi213_6 hl213_6
                              replace p213 := eq_true p213
                              replace q213 := eq_true q213
                              have ea_ := Option.some.inj (hx210_6.symm.trans hx213_6)
                              injection ea_ with ea_ en_ ec_
                              subst ea_
                              subst ec_
                              clear en_
                              have p11 : 0 ≤ (x5_3 : Int) := of_decide_eq_true (by first | (with_reducible assumption) | assumption)
                              have q11 : x5_3 < (((rd_T26 l0 x4_1).f1).size : Int) := of_decide_eq_true (by first | (with_reducible assumption) | assumption)
                              have hx11 := bt_at ((rd_T26 l0 x4_1).f1) x5_3
                              replace p11 := eq_true p11
                              replace q11 := eq_true q11
                              go_wp2
                              go_roundg k3
                              case measure => have := HK1.out; have := HJ2.out; have := HK3.out; omega
                              case rel => exact ⟨(x3_3 ++ (⟨#[38, 108, 116, 59]⟩ : ByteArray)), (wrap64 (x5_3 + 1)), (by first | rfl | (simp; done) | (simp [*]; done)), (by first | rfl | (simp; done) | (simp [*]; done)), H', ⟨by have := HK1.out; have := HJ2.out; have := HK3.out; omega⟩, by repeat (first | exact Drawn0.refl _ | apply Drawn0.step)⟩
                            · rw [if_neg c13] at H
                              exact absurd H (by simp)
                          · rw [if_neg c12] at H
                            have c12b0 : ((bt ((rd_T26 l0 x4_1).f1) x5_3) == 60) = false := beq_eq_false_iff_ne.mpr c12
                            have c12b1 : ((bt ((rd_T26 l0 x4_1).f1) x5_3) != 60) = true := bne_iff_ne.mpr c12
                            by_cases c14 : (bt ((rd_T26 l0 x4_1).f1) x5_3) = 62
                            · rw [if_pos c14] at H
                              have c14b0 : ((bt ((rd_T26 l0 x4_1).f1) x5_3) == 62) = true := beq_iff_eq.mpr c14
                              have c14b1 : ((bt ((rd_T26 l0 x4_1).f1) x5_3) != 62) = false := bne_eq_false_iff_eq.mpr c14
                              clear c14
                              by_cases c15 : x3_3.size + 4 ≤ 9223372036854775807
                              · rw [if_pos c15] at H
                                have c15b0 := eq_true c15
                                have c15b1 : decide (x3_3.size + 4 ≤ 9223372036854775807) = true := decide_eq_true c15
                                try have c15b2 : (9223372036854775807 < x3_3.size + 4) = False := eq_false (Nat.not_lt.2 c15)
                                have H' := Aside0.mk H
                                clear H
                                have p210 : 0 ≤ (x4_1 : Int) := of_decide_eq_true (by first | (with_reducible assumption) | assumption)
                                have q210 : x4_1 < (l0.length : Int) := of_decide_eq_true (by first | (with_reducible assumption) | assumption)
                                obtain ⟨ad210, A210_6, c210_6, e210, hx210_0, hx210_1, hx210_2, hx210_3, hx210_4, hx210_5, hx210_6, hl210_6, hi210_6⟩ := at_T26 HR0.out x4_1 p210 q210
                                cases e210
                                have HR210_6 := Aside0.mk hi210_6
                                have HC210_6 := Aside0.mk hl210_6
                                clear hi210_6 hl210_6
                                replace p210 := eq_true p210
                                replace q210 := eq_true q210
                                have p213 : 0 ≤ (x4_1 : Int) := of_decide_eq_true (by first | (with_reducible assumption) | assumption)
                                have q213 : x4_1 < (l0.length : Int) := of_decide_eq_true (by first | (with_reducible assumption) | assumption)
                                obtain ⟨ad213, A213_6, c213_6, e213, hx213_0, hx213_1, hx213_2, hx213_3, hx213_4, hx213_5, hx213_6, hl213_6, hi213_6⟩ := at_T26 HR0.out x4_1 p213 q213
                                obtain rfl : ad210 = ad213 := (by injection e213)
                                have HR213_6 := Aside0.mk hi213_6
                                have HC213_6 := Aside0.mk hl213_6
                                clear hi213_6 hl213_6
                                replace p213 := eq_true p213
                                replace q213 := eq_true q213
                                have ea_ := Option.some.inj (hx210_6.symm.trans hx213_6)
                                injection ea_ with ea_ en_ ec_
                                subst ea_
                                subst ec_
                                clear en_
                                have p11 : 0 ≤ (x5_3 : Int) := of_decide_eq_true (by first | (with_reducible assumption) | assumption)
                                have q11 : x5_3 < (((rd_T26 l0 x4_1).f1).size : Int) := of_decide_eq_true (by first | (with_reducible assumption) | assumption)
                                have hx11 := bt_at ((rd_T26 l0 x4_1).f1) x5_3
                                replace p11 := eq_true p11
                                replace q11 := eq_true q11
                                go_wp2
                                go_roundg k3
                                case measure => have := HK1.out; have := HJ2.out; have := HK3.out; omega
                                case rel => exact ⟨(x3_3 ++ (⟨#[38, 103, 116, 59]⟩ : ByteArray)), (wrap64 (x5_3 + 1)), (by first | rfl | (simp; done) | (simp [*]; done)), (by first | rfl | (simp; done) | (simp [*]; done)), H', ⟨by have := HK1.out; have := HJ2.out; have := HK3.out; omega⟩, by repeat (first | exact Drawn0.refl _ | apply Drawn0.step)⟩
                              · rw [if_neg c15] at H
                                exact absurd H (by simp)
                            · rw [if_neg c14] at H
                              have c14b0 : ((bt ((rd_T26 l0 x4_1).f1) x5_3) == 62) = false := beq_eq_false_iff_ne.mpr c14
                              have c14b1 : ((bt ((rd_T26 l0 x4_1).f1) x5_3) != 62) = true := bne_iff_ne.mpr c14
                              by_cases c16 : (bt ((rd_T26 l0 x4_1).f1) x5_3) = 38
                              · rw [if_pos c16] at H
                                have c16b0 : ((bt ((rd_T26 l0 x4_1).f1) x5_3) == 38) = true := beq_iff_eq.mpr c16
                                have c16b1 : ((bt ((rd_T26 l0 x4_1).f1) x5_3) != 38) = false := bne_eq_false_iff_eq.mpr c16
                                clear c16
                                by_cases c17 : x3_3.size + 5 ≤ 9223372036854775807
                                · rw [if_pos c17] at H
                                  have c17b0 := eq_true c17
                                  have c17b1 : decide (x3_3.size + 5 ≤ 9223372036854775807) = true := decide_eq_true c17
                                  try have c17b2 : (9223372036854775807 < x3_3.size + 5) = False := eq_false (Nat.not_lt.2 c17)
                                  have H' := Aside0.mk H
                                  clear H
                                  have p210 : 0 ≤ (x4_1 : Int) := of_decide_eq_true (by first | (with_reducible assumption) | assumption)
                                  have q210 : x4_1 < (l0.length : Int) := of_decide_eq_true (by first | (with_reducible assumption) | assumption)
                                  obtain ⟨ad210, A210_6, c210_6, e210, hx210_0, hx210_1, hx210_2, hx210_3, hx210_4, hx210_5, hx210_6, hl210_6, hi210_6⟩ := at_T26 HR0.out x4_1 p210 q210
                                  cases e210
                                  have HR210_6 := Aside0.mk hi210_6
                                  have HC210_6 := Aside0.mk hl210_6
                                  clear hi210_6 hl210_6
                                  replace p210 := eq_true p210
                                  replace q210 := eq_true q210
                                  have p213 : 0 ≤ (x4_1 : Int) := of_decide_eq_true (by first | (with_reducible assumption) | assumption)
                                  have q213 : x4_1 < (l0.length : Int) := of_decide_eq_true (by first | (with_reducible assumption) | assumption)
                                  obtain ⟨ad213, A213_6, c213_6, e213, hx213_0, hx213_1, hx213_2, hx213_3, hx213_4, hx213_5, hx213_6, hl213_6, hi213_6⟩ := at_T26 HR0.out x4_1 p213 q213
                                  obtain rfl : ad210 = ad213 := (by injection e213)
                                  have HR213_6 := Aside0.mk hi213_6
                                  have HC213_6 := Aside0.mk hl213_6
                                  clear hi213_6 hl213_6
                                  replace p213 := eq_true p213
                                  replace q213 := eq_true q213
                                  have ea_ := Option.some.inj (hx210_6.symm.trans hx213_6)
                                  injection ea_ with ea_ en_ ec_
                                  subst ea_
                                  subst ec_
                                  clear en_
                                  have p11 : 0 ≤ (x5_3 : Int) := of_decide_eq_true (by first | (with_reducible assumption) | assumption)
                                  have q11 : x5_3 < (((rd_T26 l0 x4_1).f1).size : Int) := of_decide_eq_true (by first | (with_reducible assumption) | assumption)
                                  have hx11 := bt_at ((rd_T26 l0 x4_1).f1) x5_3
                                  replace p11 := eq_true p11
                                  replace q11 := eq_true q11
                                  go_wp2
                                  go_roundg k3
                                  case measure => have := HK1.out; have := HJ2.out; have := HK3.out; omega
                                  case rel => exact ⟨(x3_3 ++ (⟨#[38, 97, 109, 112, 59]⟩ : ByteArray)), (wrap64 (x5_3 + 1)), (by first | rfl | (simp; done) | (simp [*]; done)), (by first | rfl | (simp; done) | (simp [*]; done)), H', ⟨by have := HK1.out; have := HJ2.out; have := HK3.out; omega⟩, by repeat (first | exact Drawn0.refl _ | apply Drawn0.step)⟩
                                · rw [if_neg c17] at H
                                  exact absurd H (by simp)
                              · rw [if_neg c16] at H
                                have c16b0 : ((bt ((rd_T26 l0 x4_1).f1) x5_3) == 38) = false := beq_eq_false_iff_ne.mpr c16
                                have c16b1 : ((bt ((rd_T26 l0 x4_1).f1) x5_3) != 38) = true := bne_iff_ne.mpr c16
                                by_cases c18 : (bt ((rd_T26 l0 x4_1).f1) x5_3) = 34
                                · rw [if_pos c18] at H
                                  have c18b0 : ((bt ((rd_T26 l0 x4_1).f1) x5_3) == 34) = true := beq_iff_eq.mpr c18
                                  have c18b1 : ((bt ((rd_T26 l0 x4_1).f1) x5_3) != 34) = false := bne_eq_false_iff_eq.mpr c18
                                  clear c18
                                  by_cases c19 : x3_3.size + 6 ≤ 9223372036854775807
                                  · rw [if_pos c19] at H
                                    have c19b0 := eq_true c19
                                    have c19b1 : decide (x3_3.size + 6 ≤ 9223372036854775807) = true := decide_eq_true c19
                                    try have c19b2 : (9223372036854775807 < x3_3.size + 6) = False := eq_false (Nat.not_lt.2 c19)
                                    have H' := Aside0.mk H
                                    clear H
                                    have p210 : 0 ≤ (x4_1 : Int) := of_decide_eq_true (by first | (with_reducible assumption) | assumption)
                                    have q210 : x4_1 < (l0.length : Int) := of_decide_eq_true (by first | (with_reducible assumption) | assumption)
                                    obtain ⟨ad210, A210_6, c210_6, e210, hx210_0, hx210_1, hx210_2, hx210_3, hx210_4, hx210_5, hx210_6, hl210_6, hi210_6⟩ := at_T26 HR0.out x4_1 p210 q210
                                    cases e210
                                    have HR210_6 := Aside0.mk hi210_6
                                    have HC210_6 := Aside0.mk hl210_6
                                    clear hi210_6 hl210_6
                                    replace p210 := eq_true p210
                                    replace q210 := eq_true q210
                                    have p213 : 0 ≤ (x4_1 : Int) := of_decide_eq_true (by first | (with_reducible assumption) | assumption)
                                    have q213 : x4_1 < (l0.length : Int) := of_decide_eq_true (by first | (with_reducible assumption) | assumption)
                                    obtain ⟨ad213, A213_6, c213_6, e213, hx213_0, hx213_1, hx213_2, hx213_3, hx213_4, hx213_5, hx213_6, hl213_6, hi213_6⟩ := at_T26 HR0.out x4_1 p213 q213
                                    obtain rfl : ad210 = ad213 := (by injection e213)
                                    have HR213_6 := Aside0.mk hi213_6
                                    have HC213_6 := Aside0.mk hl213_6
                                    clear hi213_6 hl213_6
                                    replace p213 := eq_true p213
                                    replace q213 := eq_true q213
                                    have ea_ := Option.some.inj (hx210_6.symm.trans hx213_6)
                                    injection ea_ with ea_ en_ ec_
                                    subst ea_
                                    subst ec_
                                    clear en_
                                    have p11 : 0 ≤ (x5_3 : Int) := of_decide_eq_true (by first | (with_reducible assumption) | assumption)
                                    have q11 : x5_3 < (((rd_T26 l0 x4_1).f1).size : Int) := of_decide_eq_true (by first | (with_reducible assumption) | assumption)
                                    have hx11 := bt_at ((rd_T26 l0 x4_1).f1) x5_3
                                    replace p11 := eq_true p11
                                    replace q11 := eq_true q11
                                    go_wp2
                                    go_roundg k3
                                    case measure => have := HK1.out; have := HJ2.out; have := HK3.out; omega
                                    case rel => exact ⟨(x3_3 ++ (⟨#[38, 113, 117, 111, 116, 59]⟩ : ByteArray)), (wrap64 (x5_3 + 1)), (by first | rfl | (simp; done) | (simp [*]; done)), (by first | rfl | (simp; done) | (simp [*]; done)), H', ⟨by have := HK1.out; have := HJ2.out; have := HK3.out; omega⟩, by repeat (first | exact Drawn0.refl _ | apply Drawn0.step)⟩
                                  · rw [if_neg c19] at H
                                    exact absurd H (by simp)
                                · rw [if_neg c18] at H
                                  have c18b0 : ((bt ((rd_T26 l0 x4_1).f1) x5_3) == 34) = false := beq_eq_false_iff_ne.mpr c18
                                  have c18b1 : ((bt ((rd_T26 l0 x4_1).f1) x5_3) != 34) = true := bne_iff_ne.mpr c18
                                  have c20b0 := eq_true (of_decide_eq_true (by first | (with_reducible assumption) | assumption) : 0 ≤ x5_3)
                                  by_cases c21 : x5_3 ≤ (wrap64 (x5_3 + 1))
                                  · rw [if_pos c21] at H
                                    have c21b0 := eq_true c21
                                    have c21b1 : decide (x5_3 ≤ (wrap64 (x5_3 + 1))) = true := decide_eq_true c21
                                    by_cases c22 : (wrap64 (x5_3 + 1)) ≤ (((rd_T26 l0 x4_1).f1).size : Int)
                                    · rw [if_pos c22] at H
                                      have c22b0 := eq_true c22
                                      have c22b1 : decide ((wrap64 (x5_3 + 1)) ≤ (((rd_T26 l0 x4_1).f1).size : Int)) = true := decide_eq_true c22
                                      by_cases c23 : x3_3.size + (((rd_T26 l0 x4_1).f1).extract (x5_3 : Int).toNat ((wrap64 (x5_3 + 1)) : Int).toNat).size ≤ 9223372036854775807
                                      · rw [if_pos c23] at H
                                        have c23b0 := eq_true c23
                                        have c23b1 : decide (x3_3.size + (((rd_T26 l0 x4_1).f1).extract (x5_3 : Int).toNat ((wrap64 (x5_3 + 1)) : Int).toNat).size ≤ 9223372036854775807) = true := decide_eq_true c23
                                        have c23b4 := c23
                                        (try simp only [ByteArray.size_append, ByteArray.size_extract, Nat.min_self] at c23b4)
                                        (try have c23b5 := Nat.not_lt.2 c23b4)
                                        (try have c23b7 : ¬ 9223372036854775807 < x3_3.size + ((((rd_T26 l0 x4_1).f1).extract (x5_3 : Int).toNat ((wrap64 (x5_3 + 1)) : Int).toNat).size) := by have hh := c23; simp only [ByteArray.size_append] at hh; exact Nat.not_lt.2 hh)
                                        (try have c23b9 : ¬ 9223372036854775807 < x3_3.size + ((min ((wrap64 (x5_3 + 1)) : Int).toNat ((rd_T26 l0 x4_1).f1).size - (x5_3 : Int).toNat)) := by have hh := c23; simp only [ByteArray.size_append, ByteArray.size_extract, Nat.min_self] at hh; first | exact Nat.not_lt.2 hh | (have hh2 := hh; simp only [ByteArray.size] at hh2 ⊢; omega))
                                        try have c23b2 : (9223372036854775807 < x3_3.size + (((rd_T26 l0 x4_1).f1).extract (x5_3 : Int).toNat ((wrap64 (x5_3 + 1)) : Int).toNat).size) = False := eq_false (Nat.not_lt.2 c23)
                                        have H' := Aside0.mk H
                                        clear H
                                        have p210 : 0 ≤ (x4_1 : Int) := of_decide_eq_true (by first | (with_reducible assumption) | assumption)
                                        have q210 : x4_1 < (l0.length : Int) := of_decide_eq_true (by first | (with_reducible assumption) | assumption)
                                        obtain ⟨ad210, A210_6, c210_6, e210, hx210_0, hx210_1, hx210_2, hx210_3, hx210_4, hx210_5, hx210_6, hl210_6, hi210_6⟩ := at_T26 HR0.out x4_1 p210 q210
                                        cases e210
                                        have HR210_6 := Aside0.mk hi210_6
                                        have HC210_6 := Aside0.mk hl210_6
                                        clear hi210_6 hl210_6
                                        replace p210 := eq_true p210
                                        replace q210 := eq_true q210
                                        have p213 : 0 ≤ (x4_1 : Int) := of_decide_eq_true (by first | (with_reducible assumption) | assumption)
                                        have q213 : x4_1 < (l0.length : Int) := of_decide_eq_true (by first | (with_reducible assumption) | assumption)
                                        obtain ⟨ad213, A213_6, c213_6, e213, hx213_0, hx213_1, hx213_2, hx213_3, hx213_4, hx213_5, hx213_6, hl213_6, hi213_6⟩ := at_T26 HR0.out x4_1 p213 q213
                                        obtain rfl : ad210 = ad213 := (by injection e213)
                                        have HR213_6 := Aside0.mk hi213_6
                                        have HC213_6 := Aside0.mk hl213_6
                                        clear hi213_6 hl213_6
                                        replace p213 := eq_true p213
                                        replace q213 := eq_true q213
                                        have ea_ := Option.some.inj (hx210_6.symm.trans hx213_6)
                                        injection ea_ with ea_ en_ ec_
                                        subst ea_
                                        subst ec_
                                        clear en_
                                        have p11 : 0 ≤ (x5_3 : Int) := of_decide_eq_true (by first | (with_reducible assumption) | assumption)
                                        have q11 : x5_3 < (((rd_T26 l0 x4_1).f1).size : Int) := of_decide_eq_true (by first | (with_reducible assumption) | assumption)
                                        have hx11 := bt_at ((rd_T26 l0 x4_1).f1) x5_3
                                        replace p11 := eq_true p11
                                        replace q11 := eq_true q11
                                        have p214 : 0 ≤ (x4_1 : Int) := of_decide_eq_true (by first | (with_reducible assumption) | assumption)
                                        have q214 : x4_1 < (l0.length : Int) := of_decide_eq_true (by first | (with_reducible assumption) | assumption)
                                        obtain ⟨ad214, A214_6, c214_6, e214, hx214_0, hx214_1, hx214_2, hx214_3, hx214_4, hx214_5, hx214_6, hl214_6, hi214_6⟩ := at_T26 HR0.out x4_1 p214 q214
                                        obtain rfl : ad210 = ad214 := (by injection e214)
                                        have HR214_6 := Aside0.mk hi214_6
                                        have HC214_6 := Aside0.mk hl214_6
                                        clear hi214_6 hl214_6
                                        replace p214 := eq_true p214
                                        replace q214 := eq_true q214
                                        have ea_ := Option.some.inj (hx210_6.symm.trans hx214_6)
                                        injection ea_ with ea_ en_ ec_
                                        subst ea_
                                        subst ec_
                                        clear en_
                                        go_wp2
                                        go_roundg k3
                                        case measure => have := HK1.out; have := HJ2.out; have := HK3.out; omega
                                        case rel => exact ⟨(x3_3 ++ (((rd_T26 l0 x4_1).f1).extract (x5_3 : Int).toNat ((wrap64 (x5_3 + 1)) : Int).toNat)), (wrap64 (x5_3 + 1)), (by first | rfl | (simp; done) | (simp [*]; done)), (by first | rfl | (simp; done) | (simp [*]; done)), H', ⟨by have := HK1.out; have := HJ2.out; have := HK3.out; omega⟩, by repeat (first | exact Drawn0.refl _ | apply Drawn0.step)⟩
                                      · rw [if_neg c23] at H
                                        exact absurd H (by simp)
                                    · rw [if_neg c22] at H
                                      exact absurd H (by simp)
                                  · rw [if_neg c21] at H
                                    exact absurd H (by simp)
                        · rw [if_neg c10] at H
                          exact absurd H (by simp)
                      · rw [if_neg c9] at H
                        have c9b0 : decide (x5_3 < (((rd_T26 l0 x4_1).f1).size : Int)) = false := decide_eq_false c9
                        clear c9
                        replace H := Option.bind_eq_some_iff.mp H
                        obtain ⟨t212, A240, H⟩ := H
                        replace H : (if x3_3.size + t212.size ≤ 9223372036854775807 then (incipitlaw21_texts.l0 k3 l0 (x3_3 ++ t212) (wrap64 (x4_1 + 1))) else (none)) = some r := H
                        have A24 := Aside0.mk A240
                        clear A240
                        by_cases c25 : x3_3.size + t212.size ≤ 9223372036854775807
                        · rw [if_pos c25] at H
                          have c25b0 := eq_true c25
                          have c25b1 : decide (x3_3.size + t212.size ≤ 9223372036854775807) = true := decide_eq_true c25
                          try have c25b2 : (9223372036854775807 < x3_3.size + t212.size) = False := eq_false (Nat.not_lt.2 c25)
                          have H' := Aside0.mk H
                          clear H
                          have p210 : 0 ≤ (x4_1 : Int) := of_decide_eq_true (by first | (with_reducible assumption) | assumption)
                          have q210 : x4_1 < (l0.length : Int) := of_decide_eq_true (by first | (with_reducible assumption) | assumption)
                          obtain ⟨ad210, A210_6, c210_6, e210, hx210_0, hx210_1, hx210_2, hx210_3, hx210_4, hx210_5, hx210_6, hl210_6, hi210_6⟩ := at_T26 HR0.out x4_1 p210 q210
                          cases e210
                          have HR210_6 := Aside0.mk hi210_6
                          have HC210_6 := Aside0.mk hl210_6
                          clear hi210_6 hl210_6
                          replace p210 := eq_true p210
                          replace q210 := eq_true q210
                          have p211 : 0 ≤ (x4_1 : Int) := of_decide_eq_true (by first | (with_reducible assumption) | assumption)
                          have q211 : x4_1 < (l0.length : Int) := of_decide_eq_true (by first | (with_reducible assumption) | assumption)
                          obtain ⟨ad211, A211_6, c211_6, e211, hx211_0, hx211_1, hx211_2, hx211_3, hx211_4, hx211_5, hx211_6, hl211_6, hi211_6⟩ := at_T26 HR0.out x4_1 p211 q211
                          obtain rfl : ad210 = ad211 := (by injection e211)
                          have HR211_6 := Aside0.mk hi211_6
                          have HC211_6 := Aside0.mk hl211_6
                          clear hi211_6 hl211_6
                          replace p211 := eq_true p211
                          replace q211 := eq_true q211
                          have ea_ := Option.some.inj (hx210_6.symm.trans hx211_6)
                          injection ea_ with ea_ en_ ec_
                          subst ea_
                          subst ec_
                          clear en_
                          go_wp2_with (first | ((with_reducible refine gate_callee (f := 9) rfl ?_); refine goesL_ (some 76) rfl rfl Tryz.func9 (by kernel_rfl) rfl #[.slice A210_6 ((rd_T26 l0 x4_1).f6).length c210_6] rfl (by (try simp only [List.map_toArray, List.map_cons, List.map_nil]); first | done | rfl | (simp only [List.length_drop, List.length_take]; rfl)) ?_; (with_reducible refine (ih k3 (by have := HK1.out; have := HJ2.out; have := HK3.out; omega) _ _ ((rd_T26 l0 x4_1).f6) t212 _ ?side1 ?side2 A24.out).mono ?_); (case side1 => repeat (first | exact HR211_6.out | (with_reducible refine Kd.C_alloc ?_ _) | (with_reducible refine Kd.C_drewN ?_ _) | (with_reducible refine Kd.C_drew ?_))); (case side2 => exact HC211_6.out); rintro e w' ⟨rfl, ⟨nd, rfl⟩⟩; refine ⟨_, rfl, ?_⟩))
                          go_roundg k3
                          case measure => have := HK1.out; have := HJ2.out; have := HK3.out; omega
                          case rel => exact ⟨(x3_3 ++ t212), (wrap64 (x4_1 + 1)), (by first | rfl | (simp; done) | (simp [*]; done)), (by first | rfl | (simp; done) | (simp [*]; done)), H', ⟨by have := HK1.out; have := HJ2.out; have := HK3.out; omega⟩, by repeat (first | exact Drawn0.refl _ | apply Drawn0.step)⟩
                        · rw [if_neg c25] at H
                          exact absurd H (by simp)
                    · rw [if_neg c8] at H
                      exact absurd H (by simp)
                  · rw [if_neg c7] at H
                    exact absurd H (by simp)
            · replace c6 := Bool.eq_false_iff.mpr c6
              subst c6
              have H1 : (if 0 ≤ x4_1 then (if x4_1 < (l0.length : Int) then ((incipitlaw21_texts.f kj2 ((rd_T26 l0 x4_1).f6)).bind fun t216 => (if x3_1.size + t216.size ≤ 9223372036854775807 then (incipitlaw21_texts.l0 kj2 l0 (x3_1 ++ t216) (wrap64 (x4_1 + 1))) else (none))) else (none)) else (none)) = some r := by rw [if_neg (show ¬ (false = true) by decide)] at H; exact H
              clear H
              have H := H1
              clear H1
              by_cases c26 : 0 ≤ x4_1
              · rw [if_pos c26] at H
                have c26b0 : decide (0 ≤ x4_1) = true := decide_eq_true c26
                clear c26
                by_cases c27 : x4_1 < (l0.length : Int)
                · rw [if_pos c27] at H
                  have c27b0 : decide (x4_1 < (l0.length : Int)) = true := decide_eq_true c27
                  clear c27
                  replace H := Option.bind_eq_some_iff.mp H
                  obtain ⟨t216, A280, H⟩ := H
                  replace H : (if x3_1.size + t216.size ≤ 9223372036854775807 then (incipitlaw21_texts.l0 kj2 l0 (x3_1 ++ t216) (wrap64 (x4_1 + 1))) else (none)) = some r := H
                  have A28 := Aside0.mk A280
                  clear A280
                  by_cases c29 : x3_1.size + t216.size ≤ 9223372036854775807
                  · rw [if_pos c29] at H
                    have c29b0 := eq_true c29
                    have c29b1 : decide (x3_1.size + t216.size ≤ 9223372036854775807) = true := decide_eq_true c29
                    try have c29b2 : (9223372036854775807 < x3_1.size + t216.size) = False := eq_false (Nat.not_lt.2 c29)
                    have H' := Aside0.mk H
                    clear H
                    have p215 : 0 ≤ (x4_1 : Int) := of_decide_eq_true (by first | (with_reducible assumption) | assumption)
                    have q215 : x4_1 < (l0.length : Int) := of_decide_eq_true (by first | (with_reducible assumption) | assumption)
                    obtain ⟨ad215, A215_6, c215_6, e215, hx215_0, hx215_1, hx215_2, hx215_3, hx215_4, hx215_5, hx215_6, hl215_6, hi215_6⟩ := at_T26 HR0.out x4_1 p215 q215
                    cases e215
                    have HR215_6 := Aside0.mk hi215_6
                    have HC215_6 := Aside0.mk hl215_6
                    clear hi215_6 hl215_6
                    replace p215 := eq_true p215
                    replace q215 := eq_true q215
                    go_wp2_with (first | ((with_reducible refine gate_callee (f := 9) rfl ?_); refine goesL_ (some 76) rfl rfl Tryz.func9 (by kernel_rfl) rfl #[.slice A215_6 ((rd_T26 l0 x4_1).f6).length c215_6] rfl (by (try simp only [List.map_toArray, List.map_cons, List.map_nil]); first | done | rfl | (simp only [List.length_drop, List.length_take]; rfl)) ?_; (with_reducible refine (ih kj2 (by have := HK1.out; have := HJ2.out; omega) _ _ ((rd_T26 l0 x4_1).f6) t216 _ ?side1 ?side2 A28.out).mono ?_); (case side1 => repeat (first | exact HR215_6.out | (with_reducible refine Kd.C_alloc ?_ _) | (with_reducible refine Kd.C_drewN ?_ _) | (with_reducible refine Kd.C_drew ?_))); (case side2 => exact HC215_6.out); rintro e w' ⟨rfl, ⟨nd, rfl⟩⟩; refine ⟨_, rfl, ?_⟩))
                    go_roundg kj2
                    case measure => have := HK1.out; have := HJ2.out; omega
                    case rel => exact ⟨(x3_1 ++ t216), (wrap64 (x4_1 + 1)), (by first | rfl | (simp; done) | (simp [*]; done)), (by first | rfl | (simp; done) | (simp [*]; done)), H', ⟨by have := HK1.out; have := HJ2.out; omega⟩, by repeat (first | exact Drawn0.refl _ | apply Drawn0.step)⟩
                  · rw [if_neg c29] at H
                    exact absurd H (by simp)
                · rw [if_neg c27] at H
                  exact absurd H (by simp)
              · rw [if_neg c26] at H
                exact absurd H (by simp)
      · rw [if_neg c2] at H
        have c2b0 : decide (x4_1 < (l0.length : Int)) = false := decide_eq_false c2
        clear c2
        obtain rfl := Option.some.inj H
        go_wp2
        go_ret
        exact ⟨by first | rfl | (simp; done) | (simp [*]; done), by repeat (first | exact Drawn0.refl _ | apply Drawn0.step)⟩

/-! ### incipitlaw21_TagsTexts: function 3 -/
noncomputable def incipitlaw21_TagsTexts.j0 : Nat → List (S26) → Bool → Bool → Option (Bool)
  | 0, _, _, _ => none
  | k + 1, x0, x3, x13 => if x13 = true then (some x3) else (if x3 = true then ((render_Inlines.f x0 0).bind fun t220 => ((tags_Text.f k t220).bind fun t221 => ((incipitlaw21_texts.f k x0).bind fun t222 => (some (t221.toList == t222.toList))))) else (none))
noncomputable def incipitlaw21_TagsTexts.f (k : Nat) (l0 : List (S26)) : Option (Bool) := (incipitlaw21_awake.f k).bind fun t217 => ((incipitref06_Few.f k 0 (⟨#[]⟩ : ByteArray) (⟨#[]⟩ : ByteArray) 0 0 false l0 1000).bind fun t218 => (if t218 = true then ((incipitlaw21_plain.f k l0).bind fun t219 => (incipitlaw21_TagsTexts.j0 k l0 t217 (!t219))) else (incipitlaw21_TagsTexts.j0 k l0 t217 true)))
set_option maxHeartbeats 8000000 in
set_option maxRecDepth 100000 in
theorem incipitlaw21_TagsTexts.calls (k : Nat) (A0 : Option Addr) (c0 : Nat) (l0 : List (S26)) (r : Bool) (w : World) (hLd : LaidW w) (hr0 : Kd.C k26 w A0 l0.length l0) (hc0 : l0.length ≤ c0) (h : incipitlaw21_TagsTexts.f k l0 = some r) :
    Calls Tryz.prog 3 #[.slice A0 l0.length c0] w fun e w' => e = .returned (.bool r) ∧ Below w.heap.size w w' := by
  have hu26 := Tryz.underlying26
  have HR0 := Aside0.mk hr0
  have HC0 := Aside0.mk hc0
  clear hr0 hc0
  have HB := Aside0.mk (Below.refl w.heap.size w)
  have H : ((incipitlaw21_awake.f k).bind fun t217 => ((incipitref06_Few.f k 0 (⟨#[]⟩ : ByteArray) (⟨#[]⟩ : ByteArray) 0 0 false l0 1000).bind fun t218 => (if t218 = true then ((incipitlaw21_plain.f k l0).bind fun t219 => (incipitlaw21_TagsTexts.j0 k l0 t217 (!t219))) else (incipitlaw21_TagsTexts.j0 k l0 t217 true)))) = some r := h
  clear h
  replace H := Option.bind_eq_some_iff.mp H
  obtain ⟨t217, A20, H⟩ := H
  replace H : ((incipitref06_Few.f k 0 (⟨#[]⟩ : ByteArray) (⟨#[]⟩ : ByteArray) 0 0 false l0 1000).bind fun t218 => (if t218 = true then ((incipitlaw21_plain.f k l0).bind fun t219 => (incipitlaw21_TagsTexts.j0 k l0 t217 (!t219))) else (incipitlaw21_TagsTexts.j0 k l0 t217 true))) = some r := H
  have A2 := Aside0.mk A20
  clear A20
  have HC3 := Aside0.mk H
  clear H
  go_enter Tryz.func3, Tryz.ntmps3
  go_upto_region 2 with (first | ((with_reducible refine gate_callee (f := 4) rfl ?_); refine goesL_ (some 4) rfl rfl Tryz.func4 (by kernel_rfl) rfl #[] rfl (by (try simp only [List.map_toArray, List.map_cons, List.map_nil]); first | done | rfl | (simp only [List.length_drop, List.length_take]; rfl)) ?_; (with_reducible refine (incipitlaw21_awake.calls k  t217 _ ?side1 A2.out).mono ?_); (case side1 => exact Laid.go hLd.mx (by repeat (first | (with_reducible first | exact HB.out | apply below_alloc | apply pw_below_drewN | apply below_drew1) | exact HB.out))); rintro e w4 ⟨rfl, hb⟩; refine ⟨_, rfl, ?_⟩; have n0_ := Aside0.mk (below_step (by repeat (first | (with_reducible first | exact HB.out | apply below_alloc | apply pw_below_drewN | apply below_drew1) | exact HB.out)) hb); clear HB; have HB := n0_; clear n0_; (try clear hb); (try clear hb2); (try clear hk); (try clear hi)))
  (try simp only [Act.put, List.setIfInBounds_toArray, List.set_cons_zero, List.set_cons_succ])
  go_cut [13] (fun v13 wc => ∃ (kq : Nat) (x13_2 : Bool), v13 = .bool x13_2 ∧ Aside0 (incipitlaw21_TagsTexts.j0 kq l0 t217 x13_2 = some r) ∧ Aside0 (kq ≤ k) ∧ Aside0 (Below w.heap.size w wc))
  case first =>
    have H := HC3.out
    clear HC3
    replace H := Option.bind_eq_some_iff.mp H
    obtain ⟨t218, A50, H⟩ := H
    replace H : (if t218 = true then ((incipitlaw21_plain.f k l0).bind fun t219 => (incipitlaw21_TagsTexts.j0 k l0 t217 (!t219))) else (incipitlaw21_TagsTexts.j0 k l0 t217 true)) = some r := H
    have A5 := Aside0.mk A50
    clear A50
    by_cases c6 : t218 = true
    · subst c6
      have H1 : ((incipitlaw21_plain.f k l0).bind fun t219 => (incipitlaw21_TagsTexts.j0 k l0 t217 (!t219))) = some r := by rw [if_pos rfl] at H; exact H
      clear H
      have H := H1
      clear H1
      replace H := Option.bind_eq_some_iff.mp H
      obtain ⟨t219, A70, H⟩ := H
      replace H : (incipitlaw21_TagsTexts.j0 k l0 t217 (!t219)) = some r := H
      have A7 := Aside0.mk A70
      clear A70
      have H' := Aside0.mk H
      clear H
      go_wp2_with (first | ((with_reducible refine gate_callee (f := 5) rfl ?_); refine goesL_ (some 7) rfl rfl Tryz.func5 (by kernel_rfl) rfl #[.agg #[.int .i64 0, .string (⟨#[]⟩ : ByteArray), .string (⟨#[]⟩ : ByteArray), .int .i64 0, .int .i64 0, .bool false, .slice A0 l0.length c0], .int .i64 1000] rfl (by (try simp only [List.map_toArray, List.map_cons, List.map_nil]); first | done | rfl | (simp only [List.length_drop, List.length_take]; rfl)) ?_; (with_reducible refine (incipitref06_Few.calls k 0 (⟨#[]⟩ : ByteArray) (⟨#[]⟩ : ByteArray) 0 0 false _ _ l0 1000 true _ ?side1 ?side2 A5.out).mono ?_); (case side1 => repeat (first | exact (Kd.C_below HR0.out HB.out) | (with_reducible refine Kd.C_alloc ?_ _) | (with_reducible refine Kd.C_drewN ?_ _) | (with_reducible refine Kd.C_drew ?_))); (case side2 => exact HC0.out); rintro e w8 ⟨rfl, hb⟩; refine ⟨_, rfl, ?_⟩; have n0_ := Aside0.mk (below_step (by repeat (first | (with_reducible first | exact HB.out | apply below_alloc | apply pw_below_drewN | apply below_drew1) | exact HB.out)) hb); clear HB; have HB := n0_; clear n0_; (try clear hb); (try clear hb2); (try clear hk); (try clear hi)) | (go_at_call 6; (with_reducible refine (incipitlaw21_plain.calls k _ _ l0 t219 _ ?side1 ?side2 A7.out).mono ?_); (case side1 => repeat (first | exact (Kd.C_below HR0.out HB.out) | (with_reducible refine Kd.C_alloc ?_ _) | (with_reducible refine Kd.C_drewN ?_ _) | (with_reducible refine Kd.C_drew ?_))); (case side2 => exact HC0.out); rintro e w' ⟨rfl, ⟨nd, rfl⟩⟩))
      go_meet
      case rel => exact ⟨_, (!t219), (by first | rfl | (simp; done) | (simp [*]; done)), H', ⟨by first | omega | exact Nat.le_refl _⟩, ⟨by repeat (first | (with_reducible first | exact HB.out | apply below_alloc | apply pw_below_drewN | apply below_drew1) | exact HB.out)⟩⟩
    · replace c6 := Bool.eq_false_iff.mpr c6
      subst c6
      have H1 : (incipitlaw21_TagsTexts.j0 k l0 t217 true) = some r := by rw [if_neg (show ¬ (false = true) by decide)] at H; exact H
      clear H
      have H := H1
      clear H1
      have H' := Aside0.mk H
      clear H
      go_wp2_with (first | ((with_reducible refine gate_callee (f := 5) rfl ?_); refine goesL_ (some 7) rfl rfl Tryz.func5 (by kernel_rfl) rfl #[.agg #[.int .i64 0, .string (⟨#[]⟩ : ByteArray), .string (⟨#[]⟩ : ByteArray), .int .i64 0, .int .i64 0, .bool false, .slice A0 l0.length c0], .int .i64 1000] rfl (by (try simp only [List.map_toArray, List.map_cons, List.map_nil]); first | done | rfl | (simp only [List.length_drop, List.length_take]; rfl)) ?_; (with_reducible refine (incipitref06_Few.calls k 0 (⟨#[]⟩ : ByteArray) (⟨#[]⟩ : ByteArray) 0 0 false _ _ l0 1000 false _ ?side1 ?side2 A5.out).mono ?_); (case side1 => repeat (first | exact (Kd.C_below HR0.out HB.out) | (with_reducible refine Kd.C_alloc ?_ _) | (with_reducible refine Kd.C_drewN ?_ _) | (with_reducible refine Kd.C_drew ?_))); (case side2 => exact HC0.out); rintro e w9 ⟨rfl, hb⟩; refine ⟨_, rfl, ?_⟩; have n0_ := Aside0.mk (below_step (by repeat (first | (with_reducible first | exact HB.out | apply below_alloc | apply pw_below_drewN | apply below_drew1) | exact HB.out)) hb); clear HB; have HB := n0_; clear n0_; (try clear hb); (try clear hb2); (try clear hk); (try clear hi)))
      go_meet
      case rel => exact ⟨_, (true), (by first | rfl | (simp; done) | (simp [*]; done)), H', ⟨by first | omega | exact Nat.le_refl _⟩, ⟨by repeat (first | (with_reducible first | exact HB.out | apply below_alloc | apply pw_below_drewN | apply below_drew1) | exact HB.out)⟩⟩
  case rest =>
    clear HC3
    try clear p2
    try clear c3
    try clear c4
    try clear c5
    try clear c6
    obtain ⟨kq, x13_2, rfl, HA, HJ2, HB⟩ := hcut
    cases kq with
    | zero => exact absurd HA.out (by simp [incipitlaw21_TagsTexts.j0])
    | succ kj2 =>
      have H := HA.out
      clear HA
      simp only [incipitlaw21_TagsTexts.j0] at H
      by_cases c10 : x13_2 = true
      · subst c10
        have H1 : (some t217) = some r := by rw [if_pos rfl] at H; exact H
        clear H
        have H := H1
        clear H1
        obtain rfl := Option.some.inj H
        go_wp2
        go_ret
        exact ⟨by first | rfl | (simp [errW_none, errW_some] <;> rfl) | (simp [*, errW_none, errW_some] <;> rfl), by repeat (first | (with_reducible first | exact HB.out | apply below_alloc | apply pw_below_drewN | apply below_drew1) | exact HB.out)⟩
      · replace c10 := Bool.eq_false_iff.mpr c10
        subst c10
        have H1 : (if t217 = true then ((render_Inlines.f l0 0).bind fun t220 => ((tags_Text.f kj2 t220).bind fun t221 => ((incipitlaw21_texts.f kj2 l0).bind fun t222 => (some (t221.toList == t222.toList))))) else (none)) = some r := by rw [if_neg (show ¬ (false = true) by decide)] at H; exact H
        clear H
        have H := H1
        clear H1
        by_cases c11 : t217 = true
        · subst c11
          have H1 : ((render_Inlines.f l0 0).bind fun t220 => ((tags_Text.f kj2 t220).bind fun t221 => ((incipitlaw21_texts.f kj2 l0).bind fun t222 => (some (t221.toList == t222.toList))))) = some r := by rw [if_pos rfl] at H; exact H
          clear H
          have H := H1
          clear H1
          replace H := Option.bind_eq_some_iff.mp H
          obtain ⟨t220, A120, H⟩ := H
          replace H : ((tags_Text.f kj2 t220).bind fun t221 => ((incipitlaw21_texts.f kj2 l0).bind fun t222 => (some (t221.toList == t222.toList)))) = some r := H
          have A12 := Aside0.mk A120
          clear A120
          replace H := Option.bind_eq_some_iff.mp H
          obtain ⟨t221, A130, H⟩ := H
          replace H : ((incipitlaw21_texts.f kj2 l0).bind fun t222 => (some (t221.toList == t222.toList))) = some r := H
          have A13 := Aside0.mk A130
          clear A130
          replace H := Option.bind_eq_some_iff.mp H
          obtain ⟨t222, A140, H⟩ := H
          replace H : (some (t221.toList == t222.toList)) = some r := H
          have A14 := Aside0.mk A140
          clear A140
          obtain rfl := Option.some.inj H
          go_wp2_with (first | (go_at_call 8; (with_reducible refine (render_Inlines.calls _ _ l0 0 t220 _ ?side1 ?side2 ?side3 A12.out).mono ?_); (case side1 => exact LaidW.go hLd (by repeat (first | (with_reducible first | exact HB.out | apply below_alloc | apply pw_below_drewN | apply below_drew1) | exact HB.out))); (case side2 => repeat (first | exact (Kd.C_below HR0.out HB.out) | (with_reducible refine Kd.C_alloc ?_ _) | (with_reducible refine Kd.C_drewN ?_ _) | (with_reducible refine Kd.C_drew ?_))); (case side3 => exact HC0.out); rintro e w15 ⟨rfl, hb⟩; have n0_ := Aside0.mk (below_step (by repeat (first | (with_reducible first | exact HB.out | apply below_alloc | apply pw_below_drewN | apply below_drew1) | exact HB.out)) hb); clear HB; have HB := n0_; clear n0_; (try clear hb); (try clear hb2); (try clear hk); (try clear hi)) | (go_at_call 7; (with_reducible refine (tags_Text.calls kj2 t220 t221 _ ?side1 A13.out).mono ?_); (case side1 => exact Laid.go hLd.mx (by repeat (first | (with_reducible first | exact HB.out | apply below_alloc | apply pw_below_drewN | apply below_drew1) | exact HB.out))); rintro e w16 ⟨rfl, hb⟩; have n0_ := Aside0.mk (below_step (by repeat (first | (with_reducible first | exact HB.out | apply below_alloc | apply pw_below_drewN | apply below_drew1) | exact HB.out)) hb); clear HB; have HB := n0_; clear n0_; (try clear hb); (try clear hb2); (try clear hk); (try clear hi)) | (go_at_call 9; (with_reducible refine (incipitlaw21_texts.calls kj2 _ _ l0 t222 _ ?side1 ?side2 A14.out).mono ?_); (case side1 => repeat (first | exact (Kd.C_below HR0.out HB.out) | (with_reducible refine Kd.C_alloc ?_ _) | (with_reducible refine Kd.C_drewN ?_ _) | (with_reducible refine Kd.C_drew ?_))); (case side2 => exact HC0.out); rintro e w' ⟨rfl, ⟨nd, rfl⟩⟩))
          go_ret
          exact ⟨by first | rfl | (simp [errW_none, errW_some] <;> rfl) | (simp [*, errW_none, errW_some] <;> rfl), by repeat (first | (with_reducible first | exact HB.out | apply below_alloc | apply pw_below_drewN | apply below_drew1) | exact HB.out)⟩
        · replace c11 := Bool.eq_false_iff.mpr c11
          subst c11
          have H1 : (none) = some r := by rw [if_neg (show ¬ (false = true) by decide)] at H; exact H
          cases H1
end Go.Proofs.YtjcfjgcnkbbgmaaGreatDoor.PA

namespace Go.Proofs.YtjcfjgcnkbbgmaaGreatDoor.Pure
open Go.RowKit Go.Proofs.YtjcfjgcnkbbgmaaGreatDoorW.PrintWords Go.Proofs.YtjcfjgcnkbbgmaaGreatDoorW.PrintMore Go.Proofs.YtjcfjgcnkbbgmaaGreatDoor.Pl Go.Proofs.YtjcfjgcnkbbgmaaGreatDoor.PA
set_option linter.unusedVariables false

mutual
theorem pln_1 : ∀ x : Nd, wt1 x ≤ 1099511627776 → Ev (fun k => incipitlaw21_plain.f k x.f6) (plL x.f6)
  | ⟨k, s, t, n, mm, fl, l⟩, hw => by
    rw [wt1] at hw
    have hl := len_wt l
    refine Ev.step (fun k => ?_) (pln_L l l 0 rfl (by omega) (by omega))
    rw [incipitlaw21_plain.f]
    rfl
theorem pln_L : ∀ (l L : List Nd) (i : Nat), L.drop i = l → L.length ≤ 1099511627776 → wt l ≤ 1099511627776 → Ev (fun k => incipitlaw21_plain.l0 k L (i : Int)) (plL l)
  | [], L, i, hl, _, _ => by
    have := List.drop_eq_nil_iff.1 hl
    refine Ev.step (f := fun _ => some true) (fun k => ?_) (Ev.now _)
    rw [incipitlaw21_plain.l0, if_neg (by omega)]
  | y :: r, L, i, hl, hL, hw => by
    rw [wt] at hw
    have hil : i < L.length := by
      refine Nat.lt_of_not_le fun h => ?_
      rw [List.drop_eq_nil_iff.2 h] at hl
      cases hl
    rw [List.drop_eq_getElem_cons hil, List.cons.injEq] at hl
    have h1 := pln_1 y (by omega)
    have hn := pln_L r L (i + 1) hl.2 hL (by omega)
    have hnx : Ev (fun k => (incipitlaw21_plain.f k y.f6).bind fun t => if t = true then incipitlaw21_plain.l0 k L (((i + 1 : Nat)) : Int) else some false) (plL y.f6 && plL r) := by
      refine Ev.bind h1 ?_
      cases plL y.f6
      · refine Ev.congr (fun k => if_neg (by simp)) (Ev.now _)
      · refine Ev.congr (fun k => if_pos rfl) ?_
        rw [Bool.true_and]
        exact hn
    have hs : ∀ k, incipitlaw21_plain.l0 (k + 1) L (i : Int) = if y.f0 = 14 ∨ y.f0 = 17 then (if y.f6.length > 0 then some false else (incipitlaw21_plain.f k y.f6).bind fun t => if t = true then incipitlaw21_plain.l0 k L (((i + 1 : Nat)) : Int) else some false) else if y.f0 = 18 ∨ y.f0 = 19 ∨ y.f0 = 23 ∨ y.f0 = 20 then ((incipitlaw21_plain.f k y.f6).bind fun t => if t = true then incipitlaw21_plain.l0 k L (((i + 1 : Nat)) : Int) else some false) else some false := by
      intro k
      rw [incipitlaw21_plain.l0, if_pos (by omega), if_pos (by omega), w64 (by omega) (by omega), rd_at hil, hl.1, show (i : Int) + 1 = ((i + 1 : Nat) : Int) by omega]
      by_cases c1 : y.f0 = 14
      · simp [c1]
      by_cases c2 : y.f0 = 17
      · simp [c2]
      by_cases c3 : y.f0 = 18
      · simp [c3]
      by_cases c4 : y.f0 = 19
      · simp [c4]
      by_cases c5 : y.f0 = 23
      · simp [c5]
      by_cases c6 : y.f0 = 20
      · simp [c6]
      simp [c1, c2, c3, c4, c5, c6]
    have e1 : pl1 y = ((if y.f0 = 14 ∨ y.f0 = 17 then y.f6.isEmpty else decide (y.f0 = 18 ∨ y.f0 = 19 ∨ y.f0 = 23 ∨ y.f0 = 20)) && plL y.f6) := by cases y; rw [pl1]
    rw [plL, e1]
    by_cases ca : y.f0 = 14 ∨ y.f0 = 17
    · rw [if_pos ca]
      by_cases cl : y.f6.length > 0
      · have : y.f6.isEmpty = false := by cases h : y.f6 with | nil => rw [h] at cl; simp at cl | cons => rfl
        rw [this]
        refine Ev.step (f := fun _ => some false) (fun k => ?_) (Ev.now _)
        rw [hs, if_pos ca, if_pos cl]
      · have : y.f6.isEmpty = true := by rw [List.isEmpty_iff, ← List.length_eq_zero_iff]; omega
        rw [this, Bool.true_and]
        refine Ev.step (fun k => ?_) hnx
        rw [hs, if_pos ca, if_neg cl]
    · rw [if_neg ca]
      by_cases cb : y.f0 = 18 ∨ y.f0 = 19 ∨ y.f0 = 23 ∨ y.f0 = 20
      · rw [decide_eq_true cb, Bool.true_and]
        refine Ev.step (fun k => ?_) hnx
        rw [hs, if_neg ca, if_pos cb]
      · rw [decide_eq_false cb]
        refine Ev.step (f := fun _ => some false) (fun k => ?_) (Ev.now _)
        rw [hs, if_neg ca, if_neg cb]
end
mutual
theorem tex1_len : ∀ x : Nd, (tex1 x).length ≤ 6 * wt1 x
  | ⟨k, s, t, n, mm, fl, l⟩ => by
    have h := tex_len l
    have hh : (htm s.data.toList).length ≤ 6 * s.size := by
      have : ∀ m : List UInt8, (htm m).length ≤ 6 * m.length := by
        intro m
        induction m with
        | nil => exact Nat.le_refl _
        | cons y r ih => rw [htm_cons, List.length_append, List.length_cons]; have := (esc_len y).2; omega
      have := this s.data.toList
      rw [Array.length_toList] at this
      exact this
    rw [tex1, wt1, List.length_append]
    split
    · omega
    · rw [List.length_nil]; omega
theorem tex_len : ∀ l : List Nd, (tex l).length ≤ 6 * wt l
  | [] => by rw [tex, wt]; exact Nat.le_refl _
  | x :: r => by
    have h1 := tex1_len x
    have h2 := tex_len r
    rw [tex, wt, List.length_append]
    omega
end
mutual
theorem txs_1 : ∀ x : Nd, wt1 x ≤ 17179869184 → Ev (fun k => incipitlaw21_texts.f k x.f6) (B (tex x.f6))
  | ⟨k, s, t, n, mm, fl, l⟩, hw => by
    rw [wt1] at hw
    have hl := len_wt l
    have h := txs_L l l 0 [] rfl (by omega) (by rw [List.length_nil]; omega)
    rw [List.nil_append] at h
    refine Ev.step (fun k => ?_) h
    rw [incipitlaw21_texts.f]
    rfl
theorem txs_L : ∀ (l L : List Nd) (i : Nat) (A : List UInt8), L.drop i = l → L.length ≤ 17179869184 → A.length + 6 * wt l ≤ 103079215104 → Ev (fun k => incipitlaw21_texts.l0 k L (B A) (i : Int)) (B (A ++ tex l))
  | [], L, i, A, hl, _, _ => by
    have := List.drop_eq_nil_iff.1 hl
    rw [tex, List.append_nil]
    refine Ev.step (f := fun _ => some (B A)) (fun k => ?_) (Ev.now _)
    rw [incipitlaw21_texts.l0, if_neg (by omega)]
  | y :: r, L, i, A, hl, hL, hw => by
    rw [wt] at hw
    have hil : i < L.length := by
      refine Nat.lt_of_not_le fun h => ?_
      rw [List.drop_eq_nil_iff.2 h] at hl
      cases hl
    rw [List.drop_eq_getElem_cons hil, List.cons.injEq] at hl
    have hwe := wt1_eta y
    have ht := tex_len y.f6
    have h1 := txs_1 y (by omega)
    have hn := fun A' hA' => txs_L r L (i + 1) A' hl.2 hL hA'
    -- behind the characters
    have hin : ∀ A' : List UInt8, A'.length + 6 * wt y.f6 + 6 * wt r ≤ 103079215104 → Ev (fun k => (incipitlaw21_texts.f k y.f6).bind fun t => if (B A').size + t.size ≤ 9223372036854775807 then incipitlaw21_texts.l0 k L (B A' ++ t) ((i + 1 : Nat) : Int) else none) (B (A' ++ (tex y.f6 ++ tex r))) := by
      intro A' hA'
      refine Ev.bind h1 ?_
      refine Ev.congr (fun k => if_pos (by rw [B_size, B_size]; omega)) ?_
      rw [B_append, ← List.append_assoc]
      exact hn _ (by rw [List.length_append]; omega)
    have e1 : tex1 y = (if y.f0 = 14 ∨ y.f0 = 17 then htm y.f1.data.toList else []) ++ tex y.f6 := by cases y; rw [tex1]
    have hy : y.f1 = B y.f1.data.toList := (B_eta _).symm
    have hys : y.f1.size = y.f1.data.toList.length := by rw [Array.length_toList]; rfl
    obtain ⟨s, hs⟩ : ∃ s, y.f1.data.toList = s := ⟨_, rfl⟩
    rw [hs] at hy hys e1
    have hchars : ∀ (d j : Nat) (A' : List UInt8), j + d = s.length → A'.length + 6 * d + 6 * wt y.f6 + 6 * wt r ≤ 103079215104 → Ev (fun k => incipitlaw21_texts.l1 k L (B A') (i : Int) (j : Int)) (B (A' ++ (htm (s.drop j) ++ (tex y.f6 ++ tex r)))) := by
      intro d
      induction d with
      | zero =>
        intro j A' hj hA'
        rw [List.drop_of_length_le (by omega), htm_nil, List.nil_append]
        refine Ev.step (fun k => ?_) (hin A' (by omega))
        rw [incipitlaw21_texts.l1, if_pos (by omega), if_pos (by omega), rd_at hil, hl.1, if_neg (by rw [hys]; omega), w64 (x := (i : Int) + 1) (by omega) (by omega)]
        rfl
      | succ d ih =>
        intro j A' hj hA'
        have hjl : j < s.length := by omega
        have hb : bt y.f1 (j : Int) = ((s[j].toNat : Nat) : Int) := by rw [hy, B_bt s j hjl]
        have hx : y.f1.extract (j : Int).toNat ((j + 1 : Nat) : Int).toNat = B [s[j]] := by
          rw [Int.toNat_natCast, Int.toNat_natCast, hy, B_extract, Nat.add_sub_cancel_left, List.drop_eq_getElem_cons hjl]
          rfl
        have hstep : ∀ k, incipitlaw21_texts.l1 (k + 1) L (B A') (i : Int) (j : Int) = incipitlaw21_texts.l1 k L (B (A' ++ esc s[j])) (i : Int) ((j + 1 : Nat) : Int) := by
          intro k
          have hz := B_size A'
          rw [incipitlaw21_texts.l1, if_pos (by omega), if_pos (by omega), rd_at hil, hl.1, if_pos (by rw [hys]; omega), if_pos (by omega), w64 (x := (j : Int) + 1) (by omega) (by omega), show (j : Int) + 1 = ((j + 1 : Nat) : Int) by omega, hb, hx]
          have u60 : ((s[j].toNat : Nat) : Int) = 60 ↔ s[j] = 60 := u8_eq s[j] 60 (by decide)
          have u62 : ((s[j].toNat : Nat) : Int) = 62 ↔ s[j] = 62 := u8_eq s[j] 62 (by decide)
          have u38 : ((s[j].toNat : Nat) : Int) = 38 ↔ s[j] = 38 := u8_eq s[j] 38 (by decide)
          have u34 : ((s[j].toNat : Nat) : Int) = 34 ↔ s[j] = 34 := u8_eq s[j] 34 (by decide)
          unfold esc
          by_cases c1 : s[j] = 60
          · rw [if_pos (u60.2 c1), if_pos (by omega), if_neg (by rw [c1]; decide), if_pos c1, ← B_append]
            rfl
          rw [if_neg fun h => c1 (u60.1 h)]
          by_cases c2 : s[j] = 62
          · rw [if_pos (u62.2 c2), if_pos (by omega), if_neg (by rw [c2]; decide), if_neg c1, if_pos c2, ← B_append]
            rfl
          rw [if_neg fun h => c2 (u62.1 h)]
          by_cases c3 : s[j] = 38
          · rw [if_pos (u38.2 c3), if_pos (by omega), if_pos c3, ← B_append]
            rfl
          rw [if_neg fun h => c3 (u38.1 h)]
          by_cases c4 : s[j] = 34
          · rw [if_pos (u34.2 c4), if_pos (by omega), if_neg c3, if_neg c1, if_neg c2, if_pos c4, ← B_append]
            rfl
          rw [if_neg fun h => c4 (u34.1 h), if_pos (by omega), if_pos (by rw [hys]; omega), if_pos (by rw [B_size [s[j]], hz]; simp only [List.length_singleton]; omega), if_neg c3, if_neg c1, if_neg c2, if_neg c4, ← B_append]
        rw [List.drop_eq_getElem_cons hjl, htm_cons, List.append_assoc, ← List.append_assoc A']
        refine Ev.step hstep (ih (j + 1) (A' ++ esc s[j]) (by omega) ?_)
        have := (esc_len s[j]).2
        rw [List.length_append]
        omega
    have h0 : ∀ b : Bool, (if y.f0 = 14 then true else (y.f0 == 17)) = b → Ev (fun k => incipitlaw21_texts.j1 k L (B A) (i : Int) b) (B (A ++ tex (y :: r))) := by
      intro b hb
      rw [tex, e1]
      cases b with
      | true =>
        have : y.f0 = 14 ∨ y.f0 = 17 := by
          by_cases c : y.f0 = 14
          · exact .inl c
          · rw [if_neg c] at hb; exact .inr (beq_iff_eq.1 hb)
        rw [if_pos this, List.append_assoc]
        have h2 := hchars s.length 0 A (by omega) (by omega)
        rw [List.drop_zero] at h2
        refine Ev.step (fun k => ?_) h2
        rw [incipitlaw21_texts.j1, if_pos rfl]
        rfl
      | false =>
        have : ¬ (y.f0 = 14 ∨ y.f0 = 17) := by
          rintro (c | c)
          · rw [if_pos c] at hb; cases hb
          · rw [c] at hb; cases hb
        rw [if_neg this, List.nil_append]
        refine Ev.step (fun k => ?_) (hin A (by omega))
        rw [incipitlaw21_texts.j1, if_neg (by simp), if_pos (by omega), if_pos (by omega), rd_at hil, hl.1, w64 (x := (i : Int) + 1) (by omega) (by omega)]
        rfl
    by_cases c : y.f0 = 14
    · refine Ev.step (fun k => ?_) (h0 true (by rw [if_pos c]))
      rw [incipitlaw21_texts.l0, if_pos (by omega), if_pos (by omega), rd_at hil, hl.1, if_pos c]
    · refine Ev.step (fun k => ?_) (h0 (y.f0 == 17) (by rw [if_neg c]))
      rw [incipitlaw21_texts.l0, if_pos (by omega), if_pos (by omega), rd_at hil, hl.1, if_neg c]
end
theorem TagsTexts : ∀ l : List PA.S26, dtl l → ∃ k, PA.incipitlaw21_TagsTexts.f k l = some true := by
  intro l hd
  have hdx : dt1 ⟨0, ⟨#[]⟩, ⟨#[]⟩, 0, 0, false, l⟩ := by
    rw [dt1]
    exact ⟨⟨⟨by decide, by decide⟩, ⟨by decide, by decide⟩, by decide, by decide⟩, hd⟩
  have hj : Ev (fun k => incipitref06_Few.f k 0 (⟨#[]⟩ : ByteArray) (⟨#[]⟩ : ByteArray) 0 0 false l 1000) (decide (fl1 ⟨0, ⟨#[]⟩, ⟨#[]⟩, 0, 0, false, l⟩ 1000 ≥ 0)) :=
    Ev.of (fun k => incipitref06_Few.mono _ _ _ _ _ _ _ _ k) (Few_f 1000 (by omega) (by omega) ⟨0, ⟨#[]⟩, ⟨#[]⟩, 0, 0, false, l⟩ hdx 0)
  have hT : ∀ b : Bool, Ev (fun k => incipitlaw21_TagsTexts.j0 k l true true) true := fun _ => Ev.step (f := fun _ => some true) (fun k => by rw [incipitlaw21_TagsTexts.j0, if_pos rfl]) (Ev.now _)
  have main : Ev (fun k => incipitlaw21_TagsTexts.f k l) true := by
    unfold incipitlaw21_TagsTexts.f
    refine Ev.bind awake_ev (Ev.bind hj ?_)
    by_cases hh : fl1 ⟨0, ⟨#[]⟩, ⟨#[]⟩, 0, 0, false, l⟩ 1000 ≥ 0
    · rw [decide_eq_true hh]
      refine Ev.congr (fun k => if_pos rfl) ?_
      have hw := fl1_wt (by omega) (by omega) hdx hh
      have he := wt1_eta ⟨0, ⟨#[]⟩, ⟨#[]⟩, 0, 0, false, l⟩
      dsimp only at he
      have hwl : wt l ≤ 1000 := by omega
      refine Ev.bind (pln_L l l 0 rfl (by have := len_wt l; omega) (by omega) |> fun h => Ev.step (fun k => by rw [incipitlaw21_plain.f]; rfl) h) ?_
      cases hp : plL l with
      | false => exact hT true
      | true =>
        have hok := okl_of_wt l hd (by omega)
        have hlen := inl_len 0 l hok
        have h1 : render_Inlines.f l 0 = some (B (inl 0 l)) := by
          unfold render_Inlines.f
          rw [if_pos ⟨hok, by omega⟩]
        have h2 := text_ev (inl 0 l) (by omega)
        rw [txt_all l hp] at h2
        have h3 := txs_L l l 0 [] rfl (by have := len_wt l; omega) (by rw [List.length_nil]; omega)
        rw [List.nil_append] at h3
        refine Ev.step (f := fun k => (tags_Text.f k (B (inl 0 l))).bind fun t221 => (incipitlaw21_texts.f k l).bind fun t222 => some (t221.toList == t222.toList)) (fun k => ?_) ?_
        · rw [Bool.not_true, incipitlaw21_TagsTexts.j0, if_neg (by simp), if_pos rfl, h1, Option.bind_some]
        · refine Ev.bind h2 (Ev.bind (Ev.step (fun k => by rw [incipitlaw21_texts.f]; rfl) h3) ?_)
          rw [beq_self_eq_true]
          exact Ev.now _
    · rw [decide_eq_false hh]
      refine Ev.congr (fun k => if_neg (by simp)) (hT true)
  exact main.rounds
end Go.Proofs.YtjcfjgcnkbbgmaaGreatDoor.Pure

namespace Go.Proofs.YtjcfjgcnkbbgmaaGreatDoor.tagsTexts
open Go.ChangeShapes Go.WideShapes Go.ChangeAt Go.RowKit Go.Proofs.YtjcfjgcnkbbgmaaGreatDoorW.PrintWords Go.Proofs.YtjcfjgcnkbbgmaaGreatDoor.RowU8
open Go.ChangeMaps (open_string shut_string)
set_option linter.unusedVariables false
set_option maxRecDepth 100000 in
theorem contract (H : Type) (enc : TypeId × Value → H) (W : World) (base : Nat) (args : Array Value) (ds gs : List (DataW H)) (before : List MemPlace)
    (hval0 : ∀ (j : Nat) t v, Tryz.f3.params[j]? = some t → args[j]? = some v → Value.okWide Tryz.prog W .any base t v)
    (hW : DataW.Whole enc Tryz.prog Tryz.f3.params.toList Rows.tagsTextsSpec.vars false W args.toList ds gs before) (hsz0 : (DataW.weightsEach Tryz.prog (Tryz.f3.params.toList ++ (OpenSpec.ofChange Rows.tagsTextsSpec).bare.plain.varTypes Tryz.prog) (ds ++ gs)).all (· ≤ reachBytes) = true) (hSh : W.ShapedOpen Tryz.prog) (hL : laidMetH Tryz.prog Rows.tagsTextsRow.laid W) :
    Calls Tryz.prog 3 args W fun e W' => ∃ v, e = .returned v ∧ Rows.tagsTextsSpec.post enc Tryz.prog Tryz.f3 false true false false W args v W' := by
  have hsz : (DataW.weightsEach Tryz.prog (Tryz.f3.params.toList ++ Rows.tagsTextsSpec.plain.varTypes Tryz.prog) (ds ++ gs)).all (· ≤ reachBytes) = true := hsz0
  have hval : ∀ (j : Nat) t v, Tryz.f3.params[j]? = some t → args[j]? = some v → Value.okWide Tryz.prog W .any base t v := hval0
  have hW' := hW
  obtain ⟨p, q, hA0, hV, rfl, hfz, hnd⟩ := hW
  have hA : DataW.TrodAll enc Tryz.prog W 0 (fun _ => true) true Tryz.f3.params.toList args.toList ds p := hA0
  rw [Tryz.params3] at hA hval hsz
  obtain ⟨v0, vs0, d0, ds0, p0, q0, hargs, rfl, rfl, h0, r0⟩ := trodAll_cons hA
  obtain ⟨rfl, rfl, rfl⟩ := trodAll_nil r0
  obtain rfl : args = #[v0] := by cases args; simp_all
  obtain ⟨rfl, rfl⟩ := trodVars_none hV
  obtain ⟨a0, len0, cap0, rfl⟩ := okWide_slice Tryz.underlying22 (hval 0 22 v0 rfl rfl)
  have k0 := h0
  have lt0 : ∀ x ∈ p0, x.block < W.heap.size := by obtain ⟨m, hm⟩ := k0; exact DataW.trod_lt m _ _ _ hm
  obtain ⟨l0, rfl, hc0, hr0, hm0⟩ : ∃ l : List PA.S26, len0 = l.length ∧ l.length ≤ cap0 ∧ Kd.C PA.k26 W a0 l.length l ∧ Pl.dtl l := by
    obtain ⟨fuel, hf⟩ := h0
    obtain ⟨A, l, c, e, hc, hk, hd⟩ := nodes_row _ _ _ hf (fun n hn => by have := List.all_eq_true.1 hsz _ (DataW.weights_mem_each (j := 0) (t := 22) (d := d0) rfl rfl n hn); simpa using this)
    simp [Value.cells] at e
    obtain ⟨rfl, rfl, rfl⟩ := e
    exact ⟨l, rfl, hc, hk, hd⟩
  clear hA0 hval0 hsz0 hsz
  obtain ⟨k, hp⟩ := Pure.TagsTexts l0 hm0
  refine (PA.incipitlaw21_TagsTexts.calls k _ _ l0 true W (laidOf hSh hL (by kernel_rfl) (by simp [Rows.tagsTextsRow]) (by simp [Rows.tagsTextsRow])) hr0 hc0 hp).mono ?_
  rintro e W' ⟨rfl, bel⟩
  exact ⟨_, rfl, _, _, _, [], _, [], hW', trodAll_mk1 (shut_bool Tryz.underlying4 _), (trodAll_cons_mk (Below.trod laidOut (by kernel_rfl) (of_decide_eq_true (by kernel_rfl)) k0 bel lt0) trodAll_mk0), rfl, bel.frame _, fun h => by cases h⟩
theorem laid_met (os : Os) : laidMet Tryz.prog Rows.tagsTextsRow.laid ((laidWorld os).forCall (fun _ _ => 0) ⟨#[], #[.slice none 0 0], []⟩).memory :=
  laidMet_of_run' 8 (by kernel_rfl) (by kernel_rfl)
theorem reads (os : Os) {H : Type} (enc : TypeId × Value → H) : ∃ places, DataW.whole enc Tryz.prog ((laidWorld os).forCall (fun _ _ => 0) ⟨#[], #[.slice none 0 0], []⟩).memory Tryz.f3.params.toList Rows.tagsTextsSpec.vars false (#[.slice none 0 0] : Array Value).toList 8 = some ([.nil], [], places) :=
  ⟨[], by kernel_rfl⟩
set_option maxRecDepth 100000 in
theorem lifted (os : Os) (started : os.Started) (H : Type) (enc : TypeId × Value → H) (F : Stop.Interp) :
    ReturnsInHanded {} Tryz.checked os 3 .any ((OpenSpec.ofChange Rows.tagsTextsSpec).preRow enc Tryz.prog Tryz.f3 Rows.tagsTextsRow.domain false Rows.tagsTextsRow.laid) (((OpenSpec.ofChange Rows.tagsTextsSpec).at F).post enc Tryz.prog Tryz.f3 false true false false) := by
  obtain ⟨places, hx⟩ := reads os enc
  refine returnsInHanded_of_row (C := Tryz.checked) (s := OpenSpec.ofChange Rows.tagsTextsSpec) own started (by kernel_rfl) Tryz.func3
    (witness_row_atRef (enc := enc) (C := Tryz.checked) false (laidWorld os) #[.slice none 0 0] (laidWorld_os os) (by kernel_rfl) (by kernel_rfl) (by kernel_rfl)
      (OpenSpec.preRow_of_cond 8 hx (by kernel_rfl) (fun k hk => by cases hk) (by kernel_rfl) (laid_met os))) ?_
  intro W base args ds gs before hval hW _ _ hsz hL hSh _
  exact contract H enc W base args ds gs before hval hW hsz hSh hL
theorem said : Rows.TagsTextsSaid :=
  OpenClaim.holds_of_cond 3 Tryz.f3 rfl rfl rfl rfl rfl rfl rfl ⟨rfl, rfl, rfl, rfl, rfl⟩ rfl rfl rfl rfl rfl (by kernel_rfl) Tryz.func3 (by kernel_rfl)
    (of_decide_eq_true (by kernel_rfl)) (by unfold Func.isWrapper; first | (rw [if_pos (by decide +kernel)]; kernel_rfl) | (rw [if_neg (by decide +kernel)]; exact ⟨rfl, rfl⟩))
    (fun os started H enc _ F => by rw [OpenClaim.pre_eq_preRow]; exact lifted os started H enc F)
theorem plain (f : FuncId) (fn : Func) (hf : Tryz.pinned.checked.prog.funcNamed "incipit/incipitlaw21.TagsTexts" = some f) (hfn : Tryz.pinned.checked.prog.funcs[f]? = some fn) :
    true = Tryz.pinned.checked.prog.looks [] ∧ ∀ (j : Nat) t, fn.params[j]? = some t → Tryz.pinned.checked.prog.wantsStandIn t = false := by
  obtain rfl : f = 3 := Option.some.inj ((show Tryz.prog.funcNamed "incipit/incipitlaw21.TagsTexts" = some 3 by kernel_rfl).symm.trans hf) |>.symm
  obtain rfl : fn = Tryz.f3 := (Option.some.inj (Tryz.func3.symm.trans hfn)).symm
  refine ⟨by kernel_rfl, fun j t ht => ?_⟩
  rw [Tryz.params3] at ht
  have hall : ∀ t ∈ (#[22] : Array Nat), Tryz.prog.wantsStandIn t = false := by
    intro t ht
    simp at ht
    subst ht
    exact (show Tryz.prog.wantsStandIn 22 = false by kernel_rfl)
  exact hall t (Array.mem_of_getElem? ht)
theorem card : Rows.TagsTextsCardSaid :=
  Claim7.holds_tied_plain_at .later [] _ _ _ _ said (fun _ h => by cases h) (by kernel_rfl) (fun _ h => by cases h) tagsTexts_row_tie rfl ⟨rfl, rfl⟩ (by kernel_rfl) rfl plain (by kernel_rfl)
end Go.Proofs.YtjcfjgcnkbbgmaaGreatDoor.tagsTexts
namespace Go.Proofs.YtjcfjgcnkbbgmaaGreatDoor
/-- The statement, under a short name, for the claim. -/
theorem tagsTexts_holds : Rows.TagsTextsCardSaid := tagsTexts.card
end Go.Proofs.YtjcfjgcnkbbgmaaGreatDoor
