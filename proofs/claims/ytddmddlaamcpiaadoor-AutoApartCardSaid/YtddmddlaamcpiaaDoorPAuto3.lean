/-
  Plain functions for the layer auto, third part: addresses. Condition: a text of at most 2^30 bytes.
-/
import Derived.Test.YtddmddlaamcpiaaDoorPAuto2
namespace Go.Proofs.YtddmddlaamcpiaaDoor.Pl
open Go.RowKit Go.Proofs.YtddmddlaamcpiaaDoorW.PrintWords Go.Proofs.YtddmddlaamcpiaaDoorW.PrintMore

/-- No byte that ends an address. -/
def nb (x : UInt8) : Bool := !([32, 9, 10, 60] : List UInt8).contains x
theorem ia_tw (cs : List UInt8) : ∀ l : List UInt8, (0 ≤ Lib.indexAny l cs → Lib.indexAny l cs = ((l.takeWhile fun x => !cs.contains x).length : Int)) ∧ (Lib.indexAny l cs < 0 → (l.takeWhile fun x => !cs.contains x).length = l.length)
  | [] => by simp [Lib.indexAny]
  | x :: t => by
    obtain ⟨h1, h2⟩ := ia_tw cs t
    have hge := Lib.indexAny_ge cs t
    rw [Lib.indexAny, List.takeWhile_cons]
    by_cases hx : cs.contains x = true
    · rw [if_pos hx, if_neg (by rw [hx]; decide)]
      exact ⟨fun _ => rfl, fun h => absurd h (by decide)⟩
    · have hx' : (!cs.contains x) = true := by simpa using hx
      rw [if_neg hx, if_pos hx']
      by_cases hm : Lib.indexAny t cs = -1
      · rw [if_pos (by rw [hm]; rfl)]
        refine ⟨fun h => absurd h (by decide), fun _ => ?_⟩
        rw [List.length_cons, List.length_cons, h2 (by omega)]
      · rw [if_neg (by rw [beq_iff_eq]; exact hm)]
        refine ⟨fun h => ?_, fun h => absurd h (by omega)⟩
        rw [List.length_cons, h1 (by omega)]
        omega
def excT (l : List UInt8) : Nat := exc l (l.getLastD 0)
def tailGo (l : List UInt8) (at' : Nat) : Nat → Nat → Nat
  | 0, n => n
  | f + 1, n => if n > at' then (if excT (l.take n) = 0 then n else if n < at' + excT (l.take n) then n else tailGo l at' f (n - excT (l.take n))) else n
def stop (l : List UInt8) : Nat := (l.takeWhile nb).length
theorem stop_le (l : List UInt8) : stop l ≤ l.length := tw_le l
def tail (l : List UInt8) (at' : Nat) : Nat := tailGo l at' (at' + stop (l.drop at')) (at' + stop (l.drop at'))
theorem tailGo_le (l : List UInt8) (at' : Nat) : ∀ f n, at' ≤ n → at' ≤ tailGo l at' f n ∧ tailGo l at' f n ≤ n
  | 0, n, h => ⟨h, Nat.le_refl _⟩
  | f + 1, n, h => by
    unfold tailGo
    split
    · split
      · exact ⟨h, Nat.le_refl _⟩
      · split
        · exact ⟨h, Nat.le_refl _⟩
        · have := tailGo_le l at' f (n - excT (l.take n)) (by omega)
          omega
    · exact ⟨h, Nat.le_refl _⟩
theorem tail_le (l : List UInt8) (at' : Nat) : at' ≤ tail l at' ∧ tail l at' ≤ at' + stop (l.drop at') := tailGo_le l at' _ _ (by omega)
theorem tail_len (l : List UInt8) (at' : Nat) (h : at' ≤ l.length) : tail l at' ≤ l.length := by
  have h1 := (tail_le l at').2
  have h2 := stop_le (l.drop at')
  rw [List.length_drop] at h2
  omega
theorem tail_l (l : List UInt8) (at' : Nat) (hl : l.length ≤ 1073741824) : ∀ f n, n ≤ l.length → n ≤ f + at' → at' ≤ n → Ev (fun k => PA.auto_tail.l0 k (B l) (at' : Int) (n : Int)) ((tailGo l at' f n : Nat) : Int)
  | 0, n, h, hf, ha => by
    refine Ev.step (f := fun _ => some (n : Int)) (fun k => ?_) (Ev.now _)
    simp only [PA.auto_tail.l0]
    rw [if_neg (by omega)]
  | f + 1, n, h, hf, ha => by
    unfold tailGo
    by_cases h1 : n > at'
    · rw [if_pos h1]
      have hn : (l.take n).length = n := by rw [List.length_take]; omega
      have hne : 0 < (l.take n).length := by omega
      have hx := exc_ev (l.take n) (by omega) hne
      have hlast : (l.take n)[(l.take n).length - 1]'(by omega) = (l.take n).getLastD 0 := by
        rw [List.getLastD_eq_getLast?, List.getLast?_eq_getElem?, List.getElem?_eq_getElem (by omega)]
        rfl
      rw [hlast] at hx
      change Ev _ ((excT (l.take n) : Nat) : Int) at hx
      refine Ev.step (f := fun k => (PA.auto_excess.f k (B (l.take n))).bind fun t => if t = 0 then some (n : Int) else if wrap64 ((n : Int) - t) < (at' : Int) then some (n : Int) else PA.auto_tail.l0 k (B l) (at' : Int) (wrap64 ((n : Int) - t))) (fun k => ?_) ?_
      · simp only [PA.auto_tail.l0]
        rw [if_pos (by omega), if_pos (by omega), if_pos (by rw [B_size]; omega), Int.toNat_natCast, B_to]
      · refine Ev.bind hx ?_
        by_cases h2 : excT (l.take n) = 0
        · rw [if_pos h2]
          refine Ev.congr (fun k => ?_) (Ev.now _)
          rw [if_pos (by omega)]
        · rw [if_neg h2]
          have hexc : excT (l.take n) ≤ n := by
            have h5 := refer_le (l.take n)
            unfold excT exc
            rw [hn] at h5
            repeat' split
            all_goals omega
          have hw : wrap64 ((n : Int) - (excT (l.take n) : Int)) = (n : Int) - (excT (l.take n) : Int) := w64 (by omega) (by omega)
          by_cases h3 : n < at' + excT (l.take n)
          · rw [if_pos h3]
            refine Ev.congr (fun k => ?_) (Ev.now _)
            rw [if_neg (by omega), hw, if_pos (by omega)]
          · rw [if_neg h3]
            refine Ev.congr (fun k => ?_) (tail_l l at' hl f (n - excT (l.take n)) (by omega) (by omega) (by omega))
            rw [if_neg (by omega), hw, if_neg (by omega)]
            congr 1
            omega
    · rw [if_neg h1]
      refine Ev.step (f := fun _ => some (n : Int)) (fun k => ?_) (Ev.now _)
      simp only [PA.auto_tail.l0]
      rw [if_neg (by omega)]
theorem tail_ev (l : List UInt8) (at' : Nat) (hl : l.length ≤ 1073741824) (ha : at' ≤ l.length) : Ev (fun k => PA.auto_tail.f k (B l) (at' : Int)) ((tail l at' : Nat) : Int) := by
  have hst := stop_le (l.drop at')
  rw [List.length_drop] at hst
  have h0 := tail_l l at' hl (at' + stop (l.drop at')) (at' + stop (l.drop at')) (by omega) (by omega) (by omega)
  have hj : Ev (fun k => PA.auto_tail.j0 k (B l) (at' : Int) ((at' + stop (l.drop at') : Nat) : Int)) ((tail l at' : Nat) : Int) := Ev.step (fun k => rfl) h0
  have e1 : (B l).extract ((at' : Int)).toNat (B l).size = B (l.drop at') := B_from l _ _ (B_size l)
  have e2 : PA.strings_IndexAny.f (B (l.drop at')) ⟨#[32, 9, 10, 60]⟩ = some (Lib.indexAny (l.drop at') [32, 9, 10, 60]) := by
    unfold PA.strings_IndexAny.f
    rw [if_pos ⟨by decide, by decide, by rw [B_size, List.length_drop]; omega, by decide⟩, B_data]
  obtain ⟨k1, k2⟩ := ia_tw [32, 9, 10, 60] (l.drop at')
  change (0 ≤ _ → _ = ((stop (l.drop at') : Nat) : Int)) at k1
  change (_ → stop (l.drop at') = _) at k2
  unfold PA.auto_tail.f
  refine Ev.congr (fun k => ?_) hj
  rw [if_pos (by omega), if_pos (by rw [B_size]; omega), e1, e2, Option.bind_some]
  by_cases h : Lib.indexAny (l.drop at') [32, 9, 10, 60] ≥ 0
  · rw [if_pos h, k1 h, w64 (by omega) (by omega)]
    rfl
  · have := k2 (by omega)
    rw [List.length_drop] at this
    rw [if_neg h, B_size, show at' + stop (l.drop at') = l.length by omega]
/-- How many bytes a mailbox is. -/
def mailbox (l : List UInt8) : Nat :=
  if wl [46, 45, 95, 43] l = 0 then 0 else if (l.drop (wl [46, 45, 95, 43] l)).head? ≠ some 64 then 0
  else if host (l.drop (wl [46, 45, 95, 43] l + 1)) = 0 then 0
  else if ([45, 95] : List UInt8).contains (l.getD (wl [46, 45, 95, 43] l + host (l.drop (wl [46, 45, 95, 43] l + 1))) 0) = true then 0
  else wl [46, 45, 95, 43] l + 1 + host (l.drop (wl [46, 45, 95, 43] l + 1))
theorem pre_f (l p : List UInt8) : PA.strings_HasPrefix.f (B l) (B p) = some (p.isPrefixOf l) := by
  unfold PA.strings_HasPrefix.f Lib.hasPrefix
  rw [B_data, B_data]
theorem mail_ev (l : List UInt8) (hl : l.length ≤ 1073741824) : Ev (fun k => PA.auto_mailbox.f k (B l)) ((mailbox l : Nat) : Int) := by
  have h1 := wl_le [46, 45, 95, 43] l
  unfold PA.auto_mailbox.f mailbox
  refine Ev.bind (while_ev l [46, 45, 95, 43] hl) ?_
  generalize wl [46, 45, 95, 43] l = k at *
  have hjt : ∀ c : Int, Ev (fun n => PA.auto_mailbox.j0 n (B l) c true) 0 := fun c => Ev.step (f := fun _ => some 0) (fun n => by simp only [PA.auto_mailbox.j0, if_true]) (Ev.now _)
  by_cases hk : k = 0
  · rw [if_pos hk]
    refine Ev.congr (fun n => ?_) (hjt (k : Int))
    rw [if_pos (by omega)]
  · rw [if_neg hk]
    have e1 : (B l).extract ((k : Int)).toNat (B l).size = B (l.drop k) := B_from l _ _ (B_size l)
    have e2 : PA.strings_HasPrefix.f (B (l.drop k)) ⟨#[64]⟩ = some (([64] : List UInt8).isPrefixOf (l.drop k)) := pre_f (l.drop k) [64]
    by_cases ha : (l.drop k).head? = some 64
    · rw [if_neg (by simpa using ha)]
      have hkl : k < l.length := by
        rcases Nat.lt_or_ge k l.length with h | h
        · exact h
        · rw [List.drop_eq_nil_of_le h] at ha; cases ha
      have hp : ([64] : List UInt8).isPrefixOf (l.drop k) = true := by
        cases hd : l.drop k with
        | nil => rw [hd] at ha; cases ha
        | cons x t => rw [hd] at ha; simp at ha; subst ha; rfl
      have hh := host_le (l.drop (k + 1))
      rw [List.length_drop] at hh
      have hhev := host_ev (l.drop (k + 1)) (by rw [List.length_drop]; omega)
      generalize host (l.drop (k + 1)) = h at *
      refine Ev.congr (f := fun n => PA.auto_mailbox.j0 n (B l) (k : Int) false) (fun n => ?_) ?_
      · rw [if_neg (by omega), if_pos (by omega), if_pos (by rw [B_size]; omega), e1, e2, Option.bind_some, hp]
        rfl
      · have e3 : (B l).extract (wrap64 ((k : Int) + 1)).toNat (B l).size = B (l.drop (k + 1)) := by
          rw [w64 (by omega) (by omega)]
          exact B_from l _ _ (B_size l)
        refine Ev.step (f := fun n => (PA.auto_host.f n (B (l.drop (k + 1)))).bind fun t124 => (if t124 = 0 then (some 0) else (if 0 ≤ (wrap64 ((k : Int) + t124)) then (if (wrap64 ((k : Int) + t124)) < ((B l).size : Int) then ((PA.strings_IndexByte.f (⟨#[45, 95]⟩ : ByteArray) (bt (B l) (wrap64 ((k : Int) + t124)))).bind fun t125 => (if t125 ≥ 0 then (some 0) else (some (wrap64 ((wrap64 ((k : Int) + 1)) + t124))))) else (none)) else (none)))) (fun n => ?_) ?_
        · simp only [PA.auto_mailbox.j0]
          rw [if_neg (by decide), if_pos (by rw [w64 (by omega) (by omega)]; omega), if_pos (by rw [B_size, w64 (by omega) (by omega)]; omega), e3]
        · refine Ev.bind hhev ?_
          by_cases h0 : h = 0
          · rw [if_pos h0]
            refine Ev.congr (fun n => ?_) (Ev.now _)
            rw [if_pos (by omega)]
            rfl
          · rw [if_neg h0]
            have q1 : wrap64 ((k : Int) + (h : Int)) = ((k + h : Nat) : Int) := w64 (by omega) (by omega)
            have q2 : wrap64 ((k : Int) + 1) = ((k + 1 : Nat) : Int) := w64 (by omega) (by omega)
            have hb : bt (B l) ((k + h : Nat) : Int) = ((l.getD (k + h) 0).toNat : Int) := by
              rw [B_bt l (k + h) (by omega), List.getD_eq_getElem?_getD, List.getElem?_eq_getElem (by omega)]
              rfl
            have hi : PA.strings_IndexByte.f (⟨#[45, 95]⟩ : ByteArray) ((l.getD (k + h) 0).toNat : Int) = some (Lib.indexByte [45, 95] (l.getD (k + h) 0)) := idx_f [45, 95] _
            have hif := ib_iff [45, 95] (l.getD (k + h) 0)
            refine Ev.congr (f := fun _ => some (if ([45, 95] : List UInt8).contains (l.getD (k + h) 0) = true then (0 : Int) else ((k + 1 + h : Nat) : Int))) (fun n => ?_) ?_
            · rw [if_neg (by omega), q1, if_pos (by omega), if_pos (by rw [B_size]; omega), hb, hi, Option.bind_some]
              by_cases hc : ([45, 95] : List UInt8).contains (l.getD (k + h) 0) = true
              · rw [if_pos (hif.2 hc), if_pos hc]
              · rw [if_neg (fun e => hc (hif.1 e)), if_neg hc, q2, w64 (by omega) (by omega)]
                rfl
            · have : ((if ([45, 95] : List UInt8).contains (l.getD (k + h) 0) = true then 0 else k + 1 + h : Nat) : Int) = if ([45, 95] : List UInt8).contains (l.getD (k + h) 0) = true then (0 : Int) else ((k + 1 + h : Nat) : Int) := by split <;> rfl
              rw [this]
              exact Ev.now _
    · rw [if_pos (by simpa using ha)]
      have hp : ([64] : List UInt8).isPrefixOf (l.drop k) = false := by
        cases hd : l.drop k with
        | nil => rfl
        | cons x t =>
          rw [hd] at ha
          simp only [List.head?_cons, Option.some.injEq] at ha
          simp only [List.isPrefixOf, Bool.and_true, beq_eq_false_iff_ne]
          exact fun e => ha e.symm
      refine Ev.congr (fun n => ?_) (hjt (k : Int))
      rw [if_neg (by omega), if_pos (by omega), if_pos (by rw [B_size]; omega), e1, e2, Option.bind_some, hp]
      rfl
end Go.Proofs.YtddmddlaamcpiaaDoor.Pl
