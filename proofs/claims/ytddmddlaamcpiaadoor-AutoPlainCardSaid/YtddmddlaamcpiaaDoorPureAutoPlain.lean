/-
  The plain law of AutoPlain: what its printed function computes is true at every input of the row's form.
-/
import Derived.Test.YtddmddlaamcpiaaDoorPAuto6
import Derived.Test.YtddmddlaamcpiaaDoorPAx6
namespace Go.Proofs.YtddmddlaamcpiaaDoor.Pure
open Go.RowKit Go.Proofs.YtddmddlaamcpiaaDoorW.PrintWords Go.Proofs.YtddmddlaamcpiaaDoorW.PrintMore Go.Proofs.YtddmddlaamcpiaaDoor.Pl

def tX (a b : List UInt8) : List UInt8 := www ++ (a ++ 46 :: b)
def tY (a b : List UInt8) : List UInt8 := https ++ (a ++ 46 :: b)
def tZ (a b : List UInt8) : List UInt8 := a ++ 64 :: (b ++ 46 :: [99])
theorem tailGo_end (l : List UInt8) (n f : Nat) : tailGo l n f n = n := by
  cases f with
  | zero => rfl
  | succ f => rw [tailGo, if_neg (by omega)]
theorem tail_end (l : List UInt8) : tail l l.length = l.length := by
  unfold tail
  rw [List.drop_length]
  exact tailGo_end _ _ _
theorem fd_nil (f : Nat) (ok : Bool) (i : Nat) : fd f ok i [] = [] := by cases f <;> rfl
theorem adr_X (a b : List UInt8) (ha : lts a) (hb : lts b) (ha0 : a ≠ []) (hb0 : b ≠ []) : adr (tX a b) = [(0, (tX a b).length, http ++ tX a b)] := by
  have e1 : tX a b = [119, 119, 119] ++ 46 :: (a ++ 46 :: b) := rfl
  have hh : host (tX a b) = (tX a b).length := by
    have := host_whole (tX a b) [] (by rw [e1]; exact mem_dot (by decide) (mem_dot (mem_host ha) (mem_host hb))) (by simp) (by rw [show tX a b = (www ++ (a ++ [46])) ++ b by unfold tX; simp]; exact last_app hb0 (lts_not hb 46 (by decide)))
      (by rw [e1]; exact bad_three _ _ _ (by decide) ha0 hb0 (by decide) (lts_not ha 46 (by decide)) (lts_not hb 46 (by decide)) (lts_not ha 95 (by decide)) (lts_not hb 95 (by decide)))
    rwa [List.append_nil] at this
  have hlen : (tX a b).length = a.length + b.length + 5 := by
    rw [e1]; simp only [List.length_append, List.length_cons, List.length_nil]; omega
  have hone : one (tX a b) = (http ++ tX a b, (tX a b).length) := by
    rw [one, if_pos ⟨by unfold tX; rw [List.isPrefixOf_iff_prefix]; exact List.prefix_append _ _, by rw [hh]; omega⟩, hh, tail_end, List.take_length]
  unfold adr
  generalize tX a b = l at *
  cases l with
  | nil => rw [List.length_nil] at hlen; omega
  | cons x t =>
    rw [List.length_cons] at hlen
    rw [List.length_cons, fd, hone, if_neg (by simp), List.length_cons, Nat.zero_add, List.drop_eq_nil_of_le (by simp), fd_nil]
theorem pre_no {p2 : List UInt8} {c : UInt8} (hc : c.toNat < 97) (hc2 : c ≠ 64) : ∀ (p1 a : List UInt8) (r : List UInt8), lts p1 → lts a → (p1 ++ c :: p2).isPrefixOf (a ++ 64 :: r) = false
  | [], [], r, _, _ => by simp [List.isPrefixOf, hc2]
  | [], x :: a, r, _, h => by
    have : c ≠ x := fun e => lt_ne (h x (List.mem_cons_self ..)) c hc e.symm
    simp [List.isPrefixOf, this]
  | y :: p1, [], r, h, _ => by
    have : y ≠ 64 := lt_ne (h y (List.mem_cons_self ..)) 64 (by decide)
    simp [List.isPrefixOf, this]
  | y :: p1, x :: a, r, h1, h2 => by
    rw [List.cons_append, List.cons_append, List.isPrefixOf, pre_no hc hc2 p1 a r (fun z hz => h1 z (List.mem_cons_of_mem _ hz)) (fun z hz => h2 z (List.mem_cons_of_mem _ hz)), Bool.and_false]
theorem scheme_pre (p l : List UInt8) (h : p.isPrefixOf l = false) : scheme p l = none := by
  rw [scheme, if_neg (fun e => by rw [h] at e; exact absurd e.1 (by decide))]
theorem adr_Y (a b : List UInt8) (ha : lts a) (hb : lts b) (ha0 : a ≠ []) (hb0 : b ≠ []) : adr (40 :: (tY a b ++ [41])) = [(1, 1 + (tY a b).length, tY a b)] := by
  have hlen : (tY a b).length = a.length + b.length + 9 := by
    unfold tY https; simp only [List.length_append, List.length_cons, List.length_nil]; omega
  have h0 : one (40 :: (tY a b ++ [41])) = ([], 0) := by
    have hm : mailbox (40 :: (tY a b ++ [41])) = 0 := by
      have hw0 : wl [46, 45, 95, 43] (40 :: (tY a b ++ [41])) = 0 := by
        have h40 : (wd 40 || ([46, 45, 95, 43] : List UInt8).contains 40) = false := by decide
        unfold wl
        rw [List.takeWhile_cons, h40]
        rfl
      unfold mailbox
      rw [hw0, if_pos rfl]
    rw [one, if_neg (fun e => absurd e.1 (by simp [www, List.isPrefixOf])), oneS, scheme_pre _ _ (by simp [http, List.isPrefixOf]), scheme_pre _ _ (by simp [https, List.isPrefixOf])]
    show oneM _ = _
    rw [oneM, if_pos hm]
  have hh : host ((tY a b ++ [41]).drop https.length) = a.length + b.length + 1 := by
    have e1 : (tY a b ++ [41]).drop https.length = (a ++ 46 :: b) ++ [41] := by
      unfold tY
      rw [List.append_assoc, List.drop_left' rfl]
    rw [e1, host_whole (a ++ 46 :: b) [41] (mem_dot (mem_host ha) (mem_host hb)) (by decide) (by rw [show a ++ 46 :: b = (a ++ [46]) ++ b by simp]; exact last_app hb0 (lts_not hb 46 (by decide)))
      (bad_two _ _ ha0 hb0 (lts_not ha 46 (by decide)) (lts_not hb 46 (by decide)) (lts_not ha 95 (by decide)) (lts_not hb 95 (by decide)))]
    simp only [List.length_append, List.length_cons]
    omega
  have hpre : https.isPrefixOf (tY a b ++ [41]) = true := by
    unfold tY
    rw [List.isPrefixOf_iff_prefix, List.append_assoc]
    exact List.prefix_append _ _
  have hc41 : (41 : UInt8) ∉ tY a b := by
    unfold tY
    rw [List.mem_append, List.mem_append, List.mem_cons]
    rintro (h | h | h | h)
    · exact absurd h (by decide)
    · exact lts_not ha 41 (by decide) h
    · exact absurd h (by decide)
    · exact lts_not hb 41 (by decide) h
  have hc40 : (40 : UInt8) ∉ tY a b := by
    unfold tY
    rw [List.mem_append, List.mem_append, List.mem_cons]
    rintro (h | h | h | h)
    · exact absurd h (by decide)
    · exact lts_not ha 40 (by decide) h
    · exact absurd h (by decide)
    · exact lts_not hb 40 (by decide) h
  have hexc : excT (tY a b ++ [41]) = 1 := by
    unfold excT exc
    rw [List.getLastD_eq_getLast?, List.getLast?_append]
    show (if loose.contains 41 = true then 1 else if (41 : UInt8) = 41 ∧ (tY a b ++ [41]).count 41 > (tY a b ++ [41]).count 40 then 1 else _) = 1
    rw [if_neg (by decide), if_pos]
    refine ⟨rfl, ?_⟩
    rw [List.count_append, List.count_append, List.count_eq_zero.2 hc41, List.count_eq_zero.2 hc40]
    decide
  have hL : https.length + (a.length + b.length + 1) = (tY a b).length := by rw [hlen]; show 8 + _ = _; omega
  have htail : tail (tY a b ++ [41]) (tY a b).length = (tY a b).length := by
    have hs : stop ((tY a b ++ [41]).drop (tY a b).length) = 1 := by
      rw [List.drop_left' rfl]
      decide
    unfold tail
    rw [hs, tailGo, if_pos (by omega), List.take_of_length_le (by rw [List.length_append]; exact Nat.le_refl _), hexc, if_neg (by decide), if_neg (by omega), Nat.add_sub_cancel]
    exact tailGo_end _ _ _
  have hone : one (tY a b ++ [41]) = (tY a b, (tY a b).length) := by
    have h1 : www.isPrefixOf (tY a b ++ [41]) = false := by simp [www, tY, https, List.isPrefixOf]
    have h2 : http.isPrefixOf (tY a b ++ [41]) = false := by simp [http, tY, https, List.isPrefixOf]
    rw [one, if_neg (fun e => by rw [h1] at e; exact absurd e.1 (by decide)), oneS, scheme_pre _ _ h2, scheme, if_pos ⟨hpre, by rw [hh]; omega⟩, hh, hL, htail, List.take_left' rfl]
    rfl
  have hfin : ∀ (f : Nat) (i : Nat) (ok : Bool), fd (f + 1) ok i [41] = [] := by
    intro f i ok
    have h41 : one [41] = ([], 0) := one_none _ (by decide)
    rw [fd, if_pos (.inr (by rw [h41])), fd_nil]
  unfold adr
  rw [List.length_cons, fd, if_pos (.inr (by rw [h0]))]
  have hd : (tY a b ++ [41]).drop (tY a b).length = [41] := List.drop_left' rfl
  rw [List.length_append, hlen]
  generalize tY a b = l at *
  cases l with
  | nil => rw [List.length_nil] at hlen; omega
  | cons x t =>
    rw [List.cons_append] at hone hd ⊢
    rw [show a.length + b.length + 9 + ([41] : List UInt8).length = (a.length + b.length + 8 + 1) + 1 from rfl, fd, hone, if_neg (by
      rintro (h | h)
      · exact absurd h (by decide)
      · simp at h), hd, hfin]
    rw [List.length_cons] at hlen
    simp
    omega
theorem adr_Z (a b : List UInt8) (ha : lts a) (hb : lts b) (ha0 : a ≠ []) (hb0 : b ≠ []) : adr (tZ a b ++ [44]) = [(0, (tZ a b).length, mailto ++ tZ a b)] := by
  have hlen : (tZ a b).length = a.length + b.length + 3 := by
    unfold tZ; simp only [List.length_append, List.length_cons, List.length_nil]; omega
  have eZ : tZ a b ++ [44] = a ++ 64 :: ((b ++ 46 :: [99]) ++ [44]) := by unfold tZ; simp
  have hw : wl [46, 45, 95, 43] (tZ a b ++ [44]) = a.length := by
    rw [eZ]
    unfold wl
    rw [tw_stop (64 :: ((b ++ 46 :: [99]) ++ [44])) (fun x hx => by simp at hx; subst hx; decide) a (fun x hx => by rw [wd_lt (ha x hx), Bool.true_or])]
  have hapos : 0 < a.length := List.length_pos_iff.2 ha0
  have hd : (tZ a b ++ [44]).drop a.length = 64 :: ((b ++ 46 :: [99]) ++ [44]) := by rw [eZ, List.drop_left' rfl]
  have hd1 : (tZ a b ++ [44]).drop (a.length + 1) = (b ++ 46 :: [99]) ++ [44] := by rw [← List.drop_drop, hd]; rfl
  have hc : lts [99] := by intro x hx; simp at hx; subst hx; decide
  have hh : host ((tZ a b ++ [44]).drop (a.length + 1)) = b.length + 2 := by
    rw [hd1, host_whole (b ++ 46 :: [99]) [44] (mem_dot (mem_host hb) (mem_host hc)) (by decide) (by rw [show b ++ 46 :: [99] = (b ++ [46]) ++ [99] by simp]; exact last_app (by decide) (by decide))
      (bad_two _ _ hb0 (by decide) (lts_not hb 46 (by decide)) (by decide) (lts_not hb 95 (by decide)) (by decide))]
    simp
  have hg : (tZ a b ++ [44]).getD (a.length + (b.length + 2)) 0 = 99 := by
    have : (tZ a b ++ [44]) = (a ++ 64 :: (b ++ [46])) ++ ([99] ++ [44]) := by unfold tZ; simp
    rw [this, List.getD_eq_getElem?_getD, List.getElem?_append_right (by simp only [List.length_append, List.length_cons, List.length_nil]; omega)]
    have hz : (a ++ 64 :: (b ++ ([46] : List UInt8))).length = a.length + (b.length + 2) := by simp only [List.length_append, List.length_cons, List.length_nil]
    rw [hz, Nat.sub_self]
    rfl
  have hm : mailbox (tZ a b ++ [44]) = (tZ a b).length := by
    unfold mailbox
    rw [hw, hd, hh, hg, if_neg (by omega), if_neg (by simp), if_neg (by omega), if_neg (by decide), hlen]
    omega
  have hone : one (tZ a b ++ [44]) = (mailto ++ tZ a b, (tZ a b).length) := by
    have h1 : www.isPrefixOf (tZ a b ++ [44]) = false := by
      rw [eZ]; exact pre_no (p2 := []) (c := 46) (by decide) (by decide) [119, 119, 119] a _ (by intro x hx; simp at hx; subst hx; decide) ha
    have h2 : http.isPrefixOf (tZ a b ++ [44]) = false := by
      rw [eZ]; exact pre_no (p2 := [47, 47]) (c := 58) (by decide) (by decide) [104, 116, 116, 112] a _ (by intro x hx; simp at hx; rcases hx with rfl | rfl | rfl <;> decide) ha
    have h3 : https.isPrefixOf (tZ a b ++ [44]) = false := by
      rw [eZ]; exact pre_no (p2 := [47, 47]) (c := 58) (by decide) (by decide) [104, 116, 116, 112, 115] a _ (by intro x hx; simp at hx; rcases hx with rfl | rfl | rfl | rfl <;> decide) ha
    rw [one, if_neg (fun e => by rw [h1] at e; exact absurd e.1 (by decide)), oneS, scheme_pre _ _ h2, scheme_pre _ _ h3]
    show oneM _ = _
    rw [oneM, hm, if_neg (by omega), List.take_left' rfl]
  have hfin : ∀ (f : Nat) (i : Nat) (ok : Bool), fd (f + 1) ok i [44] = [] := by
    intro f i ok
    have h41 : one [44] = ([], 0) := one_none _ (by decide)
    rw [fd, if_pos (.inr (by rw [h41])), fd_nil]
  have hdd : (tZ a b ++ [44]).drop (tZ a b).length = [44] := List.drop_left' rfl
  unfold adr
  rw [List.length_append, hlen]
  generalize tZ a b = l at *
  cases l with
  | nil => rw [List.length_nil] at hlen; omega
  | cons x t =>
    rw [List.cons_append] at hone hdd ⊢
    rw [show a.length + b.length + 3 + ([44] : List UInt8).length = (a.length + b.length + 2 + 1) + 1 from rfl, fd, hone, if_neg (by
      rintro (h | h)
      · exact absurd h (by decide)
      · simp at h), hdd, hfin, hlen]
    simp
theorem rd_at (l : List (Nat × Nat × List UInt8)) (i : Nat) (h : i < l.length) : (PA.rd_T26 (l.map toS) (i : Int)).f2 = B ((l[i]'h).2.2) := by
  unfold PA.rd_T26
  rw [Int.toNat_natCast, List.getD_eq_getElem?_getD, List.getElem?_map, List.getElem?_eq_getElem h]
  rfl
def tF (a b : List UInt8) : List UInt8 := a ++ 32 :: (tX a b ++ 32 :: ((40 :: (tY a b ++ [41])) ++ 32 :: ((tZ a b ++ [44]) ++ 32 :: b)))
theorem adr_F (a b : List UInt8) (ha : lts a) (hb : lts b) (ha0 : a ≠ []) (hb0 : b ≠ []) : ∃ e1 e2 e3, adr (tF a b) = [e1, e2, e3] ∧ e1.2.2 = http ++ tX a b ∧ e2.2.2 = tY a b ∧ e3.2.2 = mailto ++ tZ a b := by
  unfold tF
  rw [adr_cut, adr_cut, adr_cut, adr_cut, adr_none a (lts_not ha 46 (by decide)), adr_none b (lts_not hb 46 (by decide)), adr_X a b ha hb ha0 hb0, adr_Y a b ha hb ha0 hb0, adr_Z a b ha hb ha0 hb0]
  exact ⟨_, _, _, rfl, rfl, rfl, rfl⟩
/-- What is asked of the answers. -/
def askP (a b : List UInt8) (t161 t164 : List PA.S26) : Option Bool :=
  if (t164.length : Int) = 0 then (if (t161.length : Int) = 3 then (if 0 < (t161.length : Int) then (if (PA.rd_T26 t161 0).f2.toList = (B (http ++ tX a b)).toList then (if 1 < (t161.length : Int) then (if (PA.rd_T26 t161 1).f2.toList = (B (tY a b)).toList then (if 2 < (t161.length : Int) then some ((PA.rd_T26 t161 2).f2.toList == (B (mailto ++ tZ a b)).toList) else none) else some false) else none) else some false) else none) else some false) else some false
theorem ap_last (a b : List UInt8) (h : a.length + b.length ≤ 300) (ha : lts a) (hb : lts b) (ha0 : a ≠ []) (hb0 : b ≠ []) : Ev (fun k => PA.incipitlaw17_AutoPlain.l0 k (B a) (B b) true ((a ++ b).length : Int)) true := by
  have k1 : (⟨#[32]⟩ : ByteArray) = B [32] := rfl
  have k2 : (⟨#[46]⟩ : ByteArray) = B [46] := rfl
  have k3 : (⟨#[119, 119, 119, 46]⟩ : ByteArray) = B www := rfl
  have k4 : (⟨#[104, 116, 116, 112, 115, 58, 47, 47]⟩ : ByteArray) = B https := rfl
  have k5 : (⟨#[64]⟩ : ByteArray) = B [64] := rfl
  have k6 : (⟨#[46, 99]⟩ : ByteArray) = B [46, 99] := rfl
  have k7 : (⟨#[32, 40]⟩ : ByteArray) = B [32, 40] := rfl
  have k8 : (⟨#[41, 32]⟩ : ByteArray) = B [41, 32] := rfl
  have k9 : (⟨#[44, 32]⟩ : ByteArray) = B [44, 32] := rfl
  have k10 : (⟨#[104, 116, 116, 112, 58, 47, 47]⟩ : ByteArray) = B http := rfl
  have k11 : (⟨#[109, 97, 105, 108, 116, 111, 58]⟩ : ByteArray) = B mailto := rfl
  have w1 : www.length = 4 := rfl
  have w2 : https.length = 8 := rfl
  have hF : ((((((((a ++ [32]) ++ (((www ++ a) ++ [46]) ++ b)) ++ [32, 40]) ++ (((https ++ a) ++ [46]) ++ b)) ++ [41, 32]) ++ (((a ++ [64]) ++ b) ++ [46, 99])) ++ [44, 32]) ++ b) = tF a b := by
    simp [tF, tX, tY, tZ]
  have hX : ((www ++ a) ++ [46]) ++ b = tX a b := by simp [tX]
  have hY : ((https ++ a) ++ [46]) ++ b = tY a b := by simp [tY]
  have hZ : ((a ++ [64]) ++ b) ++ [46, 99] = tZ a b := by simp [tZ]
  have hab : (a ++ [32]) ++ b = a ++ 32 :: b := by simp
  have hlX : (tX a b).length ≤ 1000 := by rw [← hX]; simp only [List.length_append, List.length_cons, List.length_nil, w1]; omega
  have hlZ : (tZ a b).length ≤ 1000 := by rw [← hZ]; simp only [List.length_append, List.length_cons, List.length_nil]; omega
  have hlF : (tF a b).length ≤ 4000 := by rw [← hF]; simp only [List.length_append, List.length_cons, List.length_nil, w1, w2]; omega
  refine Ev.step (f := fun k => (PA.auto_Find.f k (B (tF a b))).bind fun t161 => (PA.auto_Find.f k (B (a ++ 32 :: b))).bind fun t164 => askP a b t161 t164) (fun k => ?_) ?_
  · simp only [PA.incipitlaw17_AutoPlain.l0, k1, k2, k3, k4, k5, k6, k7, k8, k9, k10, k11, B_append, B_size]
    rw [if_pos (by omega), if_neg (by omega)]
    simp only [List.length_append, List.length_cons, List.length_nil, w1, w2]
    rw [if_pos (by omega), if_pos (by omega), if_pos (by omega), if_pos (by omega), if_pos (by omega), if_pos (by omega), if_pos (by omega), if_pos (by omega), if_pos (by omega), if_pos (by omega), if_pos (by omega), if_pos (by omega), if_pos (by omega), if_pos (by omega), if_pos (by omega), if_pos (by omega)]
    rw [hF, hab]
    congr 1
    funext t161
    rw [if_pos trivial, if_pos (by omega)]
    congr 1
    funext t164
    have z1 : 7 + (4 + a.length + (0 + 1) + b.length) ≤ 9223372036854775807 := by omega
    have z2 : 7 + (a.length + (0 + 1) + b.length + (0 + 1 + 1)) ≤ 9223372036854775807 := by omega
    rw [hX, hY, hZ, if_pos z1, if_pos z2]
    rfl
  · refine Ev.bind (find_ev (tF a b) (by omega)) ?_
    refine Ev.bind (find_ev (a ++ 32 :: b) (by rw [List.length_append, List.length_cons]; omega)) ?_
    rw [adr_cut, adr_none a (lts_not ha 46 (by decide)), adr_none b (lts_not hb 46 (by decide))]
    obtain ⟨e1, e2, e3, he, f1, f2, f3⟩ := adr_F a b ha hb ha0 hb0
    rw [he]
    refine Ev.congr (fun _ => ?_) (Ev.now true)
    have r1 : (PA.rd_T26 ([e1, e2, e3].map toS) 0).f2 = B (http ++ tX a b) := by rw [← f1]; exact rd_at [e1, e2, e3] 0 (by simp)
    have r2 : (PA.rd_T26 ([e1, e2, e3].map toS) 1).f2 = B (tY a b) := by rw [← f2]; exact rd_at [e1, e2, e3] 1 (by simp)
    have r3 : (PA.rd_T26 ([e1, e2, e3].map toS) 2).f2 = B (mailto ++ tZ a b) := by rw [← f3]; exact rd_at [e1, e2, e3] 2 (by simp)
    unfold askP
    rw [r1, r2, r3]
    simp
theorem ap_loop (a b : List UInt8) (h : a.length + b.length ≤ 300) (ha0 : a ≠ []) (hb0 : b ≠ []) : ∀ (d i : Nat), i + d = (a ++ b).length → lts ((a ++ b).take i) → Ev (fun k => PA.incipitlaw17_AutoPlain.l0 k (B a) (B b) true (i : Int)) true := by
  have hz : (a ++ b).length = a.length + b.length := List.length_append
  intro d
  induction d with
  | zero =>
    intro i hi hn
    rw [List.take_of_length_le (by omega)] at hn
    rw [show i = (a ++ b).length by omega]
    exact ap_last a b h (fun x hx => hn x (List.mem_append_left _ hx)) (fun x hx => hn x (List.mem_append_right _ hx)) ha0 hb0
  | succ d ih =>
    intro i hi hn
    have hil : i < (a ++ b).length := by omega
    have hstep : ∀ k, PA.incipitlaw17_AutoPlain.l0 (k + 1) (B a) (B b) true (i : Int) = if (((a ++ b)[i]'hil).toNat : Int) < 97 then some true else if (((a ++ b)[i]'hil).toNat : Int) > 122 then some true else PA.incipitlaw17_AutoPlain.l0 k (B a) (B b) true ((i + 1 : Nat) : Int) := by
      intro k
      rw [PA.incipitlaw17_AutoPlain.l0, if_pos (by rw [B_size, B_size]; omega), B_append, if_pos (by rw [B_size]; omega), if_pos (by omega), B_bt (a ++ b) i hil, w64 (by omega) (by omega)]
      rfl
    by_cases h1 : (((a ++ b)[i]'hil).toNat : Int) < 97
    · refine Ev.step (f := fun _ => some true) (fun k => ?_) (Ev.now _)
      rw [hstep, if_pos h1]
    · by_cases h2 : (((a ++ b)[i]'hil).toNat : Int) > 122
      · refine Ev.step (f := fun _ => some true) (fun k => ?_) (Ev.now _)
        rw [hstep, if_neg h1, if_pos h2]
      · refine Ev.step (fun k => ?_) (ih (i + 1) (by omega) ?_)
        · rw [hstep, if_neg h1, if_neg h2]
        · rw [List.take_succ_eq_append_getElem hil]
          intro x hx
          rcases List.mem_append.1 hx with hx | hx
          · exact hn x hx
          · rw [List.mem_singleton] at hx
            subst hx
            omega
theorem AutoPlain : ∀ (a0 : ByteArray) (a1 : ByteArray), a0.size ≤ 140737488351232 → a1.size ≤ 140737488351232 → ∃ k, PA.incipitlaw17_AutoPlain.f k a0 a1 = some true := by
  intro a0 a1 _ _
  apply Ev.rounds
  obtain ⟨a, rfl⟩ : ∃ a, a0 = B a := ⟨_, (B_eta a0).symm⟩
  obtain ⟨b, rfl⟩ : ∃ b, a1 = B b := ⟨_, (B_eta a1).symm⟩
  have hjt : Ev (fun k => PA.incipitlaw17_AutoPlain.j0 k (B a) (B b) true true) true := Ev.step (f := fun _ => some true) (fun k => by simp only [PA.incipitlaw17_AutoPlain.j0, if_true]) (Ev.now _)
  unfold PA.incipitlaw17_AutoPlain.f
  refine Ev.bind awake_ev ?_
  rw [B_toList, B_toList, B_size, B_size]
  by_cases ha : a = []
  · refine Ev.congr (fun k => ?_) hjt
    rw [if_pos ha]
  · by_cases hb : b = []
    · refine Ev.congr (fun k => ?_) hjt
      rw [if_neg ha, if_pos hb]
    · rename_i ha9 hb9
      rw [B_size] at ha9 hb9
      by_cases hl : a.length + b.length > 300
      · refine Ev.congr (fun k => ?_) hjt
        rw [if_neg ha, if_neg hb, w64 (by omega) (by omega), decide_eq_true (by omega)]
      · refine Ev.congr (f := fun k => PA.incipitlaw17_AutoPlain.j0 k (B a) (B b) true false) (fun k => ?_) ?_
        · rw [if_neg ha, if_neg hb, w64 (by omega) (by omega), decide_eq_false (by omega)]
        · refine Ev.step (fun k => ?_) (ap_loop a b (by omega) ha hb _ 0 (Nat.zero_add _) (by intro x hx; simp at hx))
          rw [PA.incipitlaw17_AutoPlain.j0, if_neg (by decide)]
          rfl
end Go.Proofs.YtddmddlaamcpiaaDoor.Pure
