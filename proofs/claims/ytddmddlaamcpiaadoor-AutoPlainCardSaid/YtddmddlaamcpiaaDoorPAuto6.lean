/-
  Facts on addresses: hosts of letters.
-/
import Derived.Test.YtddmddlaamcpiaaDoorPAuto5
namespace Go.Proofs.YtddmddlaamcpiaaDoor.Pl
open Go.RowKit Go.Proofs.YtddmddlaamcpiaaDoorW.PrintWords Go.Proofs.YtddmddlaamcpiaaDoorW.PrintMore

/-- Small letters alone. -/
def lts (l : List UInt8) : Prop := ∀ x ∈ l, 97 ≤ x.toNat ∧ x.toNat ≤ 122
theorem lt_ne {x : UInt8} (h : 97 ≤ x.toNat ∧ x.toNat ≤ 122) (c : UInt8) (hc : c.toNat < 97) : x ≠ c := fun e => by subst e; omega
theorem lts_not {l : List UInt8} (h : lts l) (c : UInt8) (hc : c.toNat < 97) : c ∉ l := fun hm => lt_ne (h c hm) c hc rfl
theorem wd_lt {x : UInt8} (h : 97 ≤ x.toNat ∧ x.toNat ≤ 122) : wd x = true := by
  have hh : ∀ y : Fin 256, (97 ≤ y.val ∧ y.val ≤ 122) → wd (UInt8.ofNat y.val) = true := by decide +kernel
  have h0 := hh ⟨x.toNat, x.toNat_lt⟩ h
  rw [show UInt8.ofNat x.toNat = x from UInt8.ofNat_toNat] at h0
  exact h0
theorem ib_first : ∀ (p r : List UInt8) (c : UInt8), c ∉ p → Lib.indexByte (p ++ c :: r) c = p.length
  | [], r, c, _ => by simp [Lib.indexByte]
  | x :: p, r, c, h => by
    have h1 : x ≠ c := fun e => h (by rw [e]; exact List.mem_cons_self ..)
    have ih := ib_first p r c (fun e => h (List.mem_cons_of_mem _ e))
    rw [List.cons_append, Lib.indexByte, ih, if_neg (by rw [beq_iff_eq]; exact h1), if_neg (by rw [beq_iff_eq]; omega), List.length_cons]
    omega
theorem pts_cut (p r : List UInt8) (h : (46 : UInt8) ∉ p) : pts (p ++ 46 :: r) = B p :: pts r := by
  have hc : Lib.countB (B (p ++ 46 :: r)) ⟨#[46]⟩ = Lib.countB (B r) ⟨#[46]⟩ + 1 := by
    show Lib.count (B (p ++ 46 :: r)).data.toList [46] = Lib.count (B r).data.toList [46] + 1
    rw [Lib.count_one, Lib.count_one, B_data, B_data, List.count_append, List.count_eq_zero.2 h, List.count_cons_self]
    omega
  have hi : Lib.indexB (B (p ++ 46 :: r)) ⟨#[46]⟩ = (p.length : Int) := by
    show Lib.index (B (p ++ 46 :: r)).data.toList [46] = _
    rw [Lib.index_one, B_data, ib_first p r 46 h]
  have e1 : (B (p ++ 46 :: r)).extract 0 (p.length + 0) = B p := by
    rw [Nat.add_zero, B_to, List.take_left']
    rfl
  have e2 : (B (p ++ 46 :: r)).extract (p.length + 1) (B (p ++ 46 :: r)).size = B r := by
    rw [B_from _ _ _ (B_size _), ← List.drop_drop, List.drop_left' rfl]
    rfl
  unfold pts
  rw [hc, Lib.splitB, hi, if_neg (by rw [beq_iff_eq]; omega), Int.toNat_natCast, e1]
  congr 1
  exact congrArg _ e2
theorem tw_stop {p : UInt8 → Bool} (rest : List UInt8) (hr : ∀ x, rest.head? = some x → p x = false) : ∀ h : List UInt8, (∀ x ∈ h, p x = true) → (h ++ rest).takeWhile p = h
  | [], _ => by
    cases rest with
    | nil => rfl
    | cons x t => rw [List.nil_append, List.takeWhile_cons, if_neg (by rw [hr x rfl]; decide)]
  | x :: t, hh => by
    rw [List.cons_append, List.takeWhile_cons, if_pos (hh x (List.mem_cons_self ..)), tw_stop rest hr t (fun y hy => hh y (List.mem_cons_of_mem _ hy))]
/-- A host stands whole. -/
theorem host_whole (h rest : List UInt8) (hh : ∀ x ∈ h, (wd x || ([45, 95, 46] : List UInt8).contains x) = true) (hr : ∀ x, rest.head? = some x → (wd x || ([45, 95, 46] : List UInt8).contains x) = false)
    (hl : ∀ x, h.getLast? = some x → x ≠ 46) (hb : hostBad h = false) : host (h ++ rest) = h.length := by
  have h1 : hostT (h ++ rest) = h := by
    unfold hostT wl
    rw [tw_stop rest hr h hh, List.take_left' rfl]
    unfold Lib.trimRightS
    rcases List.eq_nil_or_concat h with rfl | ⟨t, x, rfl⟩
    · rfl
    · have hx := hl x (by simp)
      rw [List.concat_eq_append, List.reverse_append, List.reverse_singleton, List.singleton_append, List.dropWhile_cons, if_neg (by simp [hx]), List.reverse_cons, List.reverse_reverse]
  unfold host
  rw [h1, hb, if_neg (by decide)]
theorem B_ne {l : List UInt8} (h : l ≠ []) : decide ((B l).toList = []) = false := by
  rw [B_toList]
  exact decide_eq_false h
theorem us_none (p q : List UInt8) (hp : (95 : UInt8) ∉ p) (hq : (95 : UInt8) ∉ q) : decide (0 ≤ Lib.indexByte (B p ++ B q).data.toList 95) = false := by
  refine decide_eq_false (fun h => ?_)
  rw [B_append, B_data, ib_iff, List.contains_iff_mem, List.mem_append] at h
  exact h.elim hp hq
theorem bad_two (p q : List UInt8) (hp0 : p ≠ []) (hq0 : q ≠ []) (hp : (46 : UInt8) ∉ p) (hq : (46 : UInt8) ∉ q) (hp5 : (95 : UInt8) ∉ p) (hq5 : (95 : UInt8) ∉ q) : hostBad (p ++ 46 :: q) = false := by
  unfold hostBad us
  rw [pts_cut p q hp, pts_none q hq]
  show (decide (2 < 2) || decide (0 ≤ Lib.indexByte (B q ++ B p).data.toList 95) || (decide ((B p).toList = []) || (decide ((B q).toList = []) || false))) = false
  rw [us_none q p hq5 hp5, B_ne hp0, B_ne hq0]
  rfl
theorem bad_three (o p q : List UInt8) (ho0 : o ≠ []) (hp0 : p ≠ []) (hq0 : q ≠ []) (ho : (46 : UInt8) ∉ o) (hp : (46 : UInt8) ∉ p) (hq : (46 : UInt8) ∉ q) (hp5 : (95 : UInt8) ∉ p) (hq5 : (95 : UInt8) ∉ q) : hostBad (o ++ 46 :: (p ++ 46 :: q)) = false := by
  unfold hostBad us
  rw [pts_cut o _ ho, pts_cut p q hp, pts_none q hq]
  show (decide (3 < 2) || decide (0 ≤ Lib.indexByte (B q ++ B p).data.toList 95) || (decide ((B o).toList = []) || (decide ((B p).toList = []) || (decide ((B q).toList = []) || false)))) = false
  rw [us_none q p hq5 hp5, B_ne ho0, B_ne hp0, B_ne hq0]
  rfl
theorem mem_host {l : List UInt8} (h : lts l) : ∀ x ∈ l, (wd x || ([45, 95, 46] : List UInt8).contains x) = true := fun x hx => by rw [wd_lt (h x hx), Bool.true_or]
theorem mem_dot {p q : List UInt8} (hp : ∀ x ∈ p, (wd x || ([45, 95, 46] : List UInt8).contains x) = true) (hq : ∀ x ∈ q, (wd x || ([45, 95, 46] : List UInt8).contains x) = true) : ∀ x ∈ p ++ 46 :: q, (wd x || ([45, 95, 46] : List UInt8).contains x) = true := by
  intro x hx
  rcases List.mem_append.1 hx with h | h
  · exact hp x h
  · rcases List.mem_cons.1 h with rfl | h
    · decide
    · exact hq x h
theorem last_app {p q : List UInt8} (hq0 : q ≠ []) (hq : (46 : UInt8) ∉ q) : ∀ x, (p ++ q).getLast? = some x → x ≠ 46 := by
  intro x hx e
  rw [List.getLast?_append] at hx
  cases h : q.getLast? with
  | none => exact hq0 (List.getLast?_eq_none_iff.1 h)
  | some y =>
    rw [h] at hx
    have hy : y = x := Option.some.inj hx
    exact hq (by rw [← e, ← hy]; exact List.mem_of_getLast? h)
end Go.Proofs.YtddmddlaamcpiaaDoor.Pl
