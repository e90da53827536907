/-
  The law RegistryPlays holds: for every input it answers true, its arguments read behind the call as before. Conditions: the listed package-level variables as the program's text lays them (tied by the card).
-/
import Derived.Test.YtfhgdjajifnfiaaSRegistryPlays2
import Derived.Test.YtfhgdjajifnfiaaSRegistryPlays1
import Derived.Deep.DeepCutAuto
import Derived.Deep.RegionHeld3
import Derived.IntWalk
set_option linter.unusedVariables false
namespace Go.Proofs.Ytfhgdjajifnfiaa.PA
open Go.RowKit Go.Maps Go.ChangeMaps Go.WideShapes Go.WideMaps Go.MuLone Go.Conc.Locks Go.Sort Go.Proofs.YtfhgdjajifnfiaaW.PrintWords Go.Proofs.YtfhgdjajifnfiaaW.PrintLast Go.Proofs.YtfhgdjajifnfiaaW.PrintMore
set_option linter.unusedVariables false

set_option maxHeartbeats 4000000 in
set_option maxRecDepth 100000 in
theorem rhas_calls {g B : Nat} {A : Option Addr} {c : Nat} {m : Int} {L : List S27} {sl : Bool} {st : Int} (nm : ByteArray) (w : World) (hr : Rf g B A c m L sl st w) (U : Uniq L) (hL : L.length ≤ 100000) :
    Calls Try.prog 25 #[.pointer (some ⟨g, 0, none⟩), .string nm] w fun e w' => e = .returned (.bool (decide (0 < ((srt m L).filter fun h => h.f0.toList == nm.toList).length))) ∧ Rf g B A c m L true st w' ∧ Only (fun j => j = g) w w' := by
  have c2 := hr.c2
  have f2 := hr.fz 2
  have hrs := hr.closed
  obtain ⟨w1, hw1⟩ : ∃ w1, w.setCell ⟨g, 2, none⟩ (.bool true) = w1 := ⟨_, rfl⟩
  have ho1 : Only (fun j => j = g) w w1 := hw1 ▸ Only.set w ⟨g, 2, none⟩ _ rfl
  rw [hw1] at hrs
  obtain ⟨rr, hrr⟩ : ∃ rr, decide (0 < ((srt m L).filter fun h => h.f0.toList == nm.toList).length) = rr := ⟨_, rfl⟩
  have HR := Aside0.mk hrs
  have HO := Aside0.mk ho1
  have HU := Aside0.mk U
  have HRR := Aside0.mk hrr
  have k0 := hrs.c0
  rw [hrr]
  clear hr hrs ho1 hrr
  go_enter Try.func25, Try.ntmps25
  go_wp2_with fail
  go_loopw [5] (fun v5 wr => ∃ i : Nat, v5 = .int .i64 (i : Int) ∧ i ≤ L.length ∧ Aside0 (∀ j, (hj : j < L.length) → j < i → L[j].f0.toList ≠ nm.toList) ∧ Drawn0 w1 wr) (fun v5 _ => L.length - (intOf v5).toNat)
  case atStart => exact ⟨0, rfl, by omega, ⟨fun j hj h2 => by omega⟩, Drawn0.refl _⟩
  case round =>
    obtain ⟨i, rfl, hi, HN, ⟨n, rfl⟩⟩ := hrel
    by_cases hlt : i < L.length
    · have q1 : decide ((i : Int) < (L.length : Int)) = true := decide_eq_true (by omega)
      have p0 : 0 ≤ (i : Int) := by omega
      have p1 : (i : Int) < (L.length : Int) := by omega
      obtain ⟨ad, e1, x0, x1, x2, x3, x4⟩ := at_T27 HR.out.row (i : Int) p0 p1
      cases e1
      rw [rd_get hlt] at x0 x1 x2 x3 x4
      simp only [Int.toNat_natCast] at x0 x1 x2 x3 x4
      obtain ⟨x, hx⟩ : ∃ x, L[i] = x := ⟨_, rfl⟩
      rw [hx] at x0 x1 x2 x3 x4
      have hmem : x ∈ L := hx ▸ List.getElem_mem hlt
      have HX := Aside0.mk hx
      have HM := Aside0.mk hmem
      clear hx hmem
      replace p0 := eq_true p0
      replace p1 := eq_true p1
      by_cases he : x.f0.toList = nm.toList
      · have z : (x.f0.toList == nm.toList) = true := beq_iff_eq.2 he
        have hres := has_hit (m := m) HU.out HM.out he
        rw [HRR.out] at hres
        have HRES := Aside0.mk hres
        have HON := Aside0.mk (fun W hW => ron_calls x W (show Rf g B _ c m L true st W from HR.out.below hW))
        clear he hres
        go_wp2_with fail
        refine (HON.out (w1.drewN n) ⟨rfl, rfl, rfl, Nat.le_refl _, fun _ _ => rfl⟩).mono ?_
        rintro e w4 ⟨rfl, hb4⟩
        have HB4 := Aside0.mk (show Below w1.heap.size w1 w4 from (show Below w1.heap.size w1 (w1.drewN n) from ⟨rfl, rfl, rfl, Nat.le_refl _, fun _ _ => rfl⟩).trans hb4)
        clear hb4 HON x0 x1 x2 x3 x4
        go_wp2
        go_ret
        exact ⟨by rw [HRES.out]; rfl, HR.out.below HB4.out, HO.out.trans (Below.only HB4.out fun j h1 h2 => by omega)⟩
      · have z : (x.f0.toList == nm.toList) = false := beq_eq_false_iff_ne.2 he
        have HN2 := Aside0.mk (show ∀ j, (hj : j < L.length) → j < i + 1 → L[j].f0.toList ≠ nm.toList from fun j hj h2 => by
          by_cases h3 : j = i
          · subst h3
            rw [HX.out]
            exact he
          · exact HN.out j hj (by omega))
        clear he x1 x2 x3 x4
        go_wp2
        go_roundw
        case rel => exact ⟨i + 1, by simp, by omega, HN2, ⟨_, rfl⟩⟩
        case measure => simp [intOf]; omega
    · have q1 : decide ((i : Int) < (L.length : Int)) = false := decide_eq_false (by omega)
      have hres := has_miss (m := m) (L := L) (n := nm) (fun x hx => by
        obtain ⟨j, hj, rfl⟩ := List.getElem_of_mem hx
        exact HN.out j hj (by omega))
      rw [HRR.out] at hres
      have HRES := Aside0.mk hres
      clear hres
      go_wp2
      go_ret
      exact ⟨by rw [← HRES.out]; rfl, HR.out.below ⟨rfl, rfl, rfl, Nat.le_refl _, fun _ _ => rfl⟩, ⟨HO.out.os, HO.out.tape, HO.out.output, HO.out.size, HO.out.block⟩⟩
set_option maxHeartbeats 4000000 in
set_option maxRecDepth 100000 in
theorem rfor_calls {g B : Nat} {A : Option Addr} {c' : Nat} {m : Int} {L : List S27} {sl : Bool} {st : Int} (p c : Int) (w : World) (hr : Rf g B A c' m L sl st w) (U : Uniq L) (hL : L.length ≤ 100000) (hT : ∀ x ∈ L, x.f3.size ≤ 300) (c0 : 0 ≤ c) (c1 : c < 256) :
    Calls Try.prog 24 #[.pointer (some ⟨g, 0, none⟩), .int .i64 p, .int .u8 c] w (RAns g B A c' m L st ((srt m L).filter fun h => h.f1 == p && trig c h) w) := by
  have hC := rsorted_calls p w hr U hL
  have hlen0 : ((srt m L).filter fun h => h.f1 == p).length ≤ 100000 := Nat.le_trans (List.length_filter_le _ _) (Nat.le_trans (Nat.le_of_eq (srt_perm m L).length_eq) (Nat.le_trans (List.length_filter_le _ _) hL))
  have hs0 : ∀ x ∈ ((srt m L).filter fun h => h.f1 == p), x.f3.size ≤ 300 := fun x hx => hT x (List.mem_filter.1 ((srt_perm m L).mem_iff.1 (List.mem_filter.1 hx).1)).1
  rw [← for_filter]
  obtain ⟨l, hl⟩ : ∃ l, ((srt m L).filter fun h => h.f1 == p) = l := ⟨_, rfl⟩
  rw [hl] at hC hlen0 hs0 ⊢
  have HSZ := Aside0.mk hs0
  have HC := Aside0.mk hC
  have HLEN := Aside0.mk hlen0
  obtain ⟨R, hR⟩ : ∃ R, RAns g B A c' m L st (l.filter fun h => trig c h) w = R := ⟨_, rfl⟩
  have HRR := Aside0.mk hR
  have HTR := Aside0.mk (fun h => isT_end c0 c1 h)
  rw [hR]
  clear hr hC hl hR c0 c1 hs0 hT
  go_enter Try.func24, Try.ntmps24
  go_wp2_with fail
  refine HC.out.mono ?_
  rintro e w1 ha
  obtain ⟨A2, c2, rfl, hc2, hrow, hA2⟩ := ha.row
  have HRF := Aside0.mk ha.reg
  have HOF := Aside0.mk ha.only
  have HROW := Aside0.mk hrow
  have HA2 := Aside0.mk hA2
  clear ha hrow hA2 HC
  go_wp2_with fail
  go_loopw [7, 9, 10, 11] (fun v7 v9 v10 v11 wr => ∃ i : Nat, v9 = .int .i64 (i : Int) ∧ i ≤ l.length ∧ Aside0 (k27.R 27 wr w1.heap.size (fun k => w1.heap.size ≤ k) v7 ((l.take i).filter fun h => trig c h)) ∧ Aside0 (Below w1.heap.size w1 wr)) (fun _ v9 _ _ _ => l.length - (intOf v9).toNat)
  case atStart => exact ⟨0, rfl, by omega, ⟨Kd.R_nil _ _ _ _ _⟩, ⟨Below.refl _ _⟩⟩
  case round =>
    obtain ⟨i, rfl, hi, HO, HB⟩ := hrel
    by_cases hlt : i < l.length
    · have q1 : decide ((i : Int) < (l.length : Int)) = true := decide_eq_true (by omega)
      have p0 : 0 ≤ (i : Int) := by omega
      have p1 : (i : Int) < (l.length : Int) := by omega
      have hrw : Row wr A2 l := HROW.out.keep fun a ha => HB.out.block _ (HA2.out a ha).2
      obtain ⟨ad, e1, x0, x1, x2, x3, x4⟩ := at_T27 hrw (i : Int) p0 p1
      cases e1
      obtain ⟨h, hh⟩ : ∃ h, l[i] = h := ⟨_, rfl⟩
      rw [rd_get hlt, hh] at x0 x1 x2 x3 x4
      simp only [Int.toNat_natCast] at x0 x1 x2 x3 x4
      have hgd : l.getD i z27 = h := by rw [List.getD_eq_getElem?_getD, List.getElem?_eq_getElem hlt]; exact hh
      have hts := take_snoc (p := fun h => trig c h) hlt
      rw [hgd] at hts
      have HTS := Aside0.mk hts
      have HLL := Aside0.mk (show ((l.take i).filter fun h => trig c h).length ≤ 100000 from Nat.le_trans (List.length_filter_le _ _) (Nat.le_trans (by rw [List.length_take]; omega) HLEN.out))
      have HS0 := Aside0.mk (isT_zero c h.f3)
      have h300 : h.f3.size ≤ 300 := HSZ.out h (hh ▸ List.getElem_mem hlt)
      clear hh hgd hts hrw
      replace p0 := eq_true p0
      replace p1 := eq_true p1
      go_wp2_with fail
      go_loopw [10, 11] (fun v10 v11 wz => ∃ k : Nat, v11 = .int .i64 (k : Int) ∧ k ≤ h.f3.size ∧ v10 = .bool (isT c h.f3 k) ∧ wz = wr) (fun _ v11 _ => h.f3.size - (intOf v11).toNat)
      case atStart => exact ⟨0, rfl, Nat.zero_le _, by rw [HS0.out], rfl⟩
      case round =>
        obtain ⟨k, rfl, hk, rfl, rfl⟩ := hrel
        by_cases hkl : k < h.f3.size
        · have q2 : decide ((k : Int) < (h.f3.size : Int)) = true := decide_eq_true (by omega)
          have r0 : 0 ≤ (k : Int) := by omega
          have r1 : (k : Int) < (h.f3.size : Int) := by omega
          have HSU := Aside0.mk (isT_succ c h.f3 hkl)
          cases hT : isT c h.f3 k with
          | true =>
            rw [hT] at HSU
            go_wp2
            go_roundw
            case rel => exact ⟨k + 1, by simp, by omega, by rw [HSU.out]; rfl, by first | rfl | trivial⟩
            case measure => simp [intOf]; omega
          | false =>
            rw [hT] at HSU
            replace r0 := eq_true r0
            replace r1 := eq_true r1
            go_wp2
            go_roundw
            case rel => exact ⟨k + 1, by simp, by omega, by rw [HSU.out]; rfl, by first | rfl | trivial⟩
            case measure => simp [intOf]; omega
        · have q2 : decide ((k : Int) < (h.f3.size : Int)) = false := decide_eq_false (by omega)
          have hks : k = h.f3.size := by omega
          have hT := HTR.out h
          rw [← hks] at hT
          rw [hT]
          clear hks hT
          cases ht : trig c h with
          | false =>
            have HQF := Aside0.mk ht
            clear ht
            go_wp2
            go_roundw
            case rel => exact ⟨i + 1, by simp, by omega, ⟨by rw [HTS.out, HQF.out]; exact HO.out⟩, HB⟩
            case measure => simp [intOf]; omega
          | true =>
            have HQF := Aside0.mk ht
            have g4 : w1.heap.size ≤ wr.heap.size := HB.out.size
            clear ht
            go_wp2_with (((with_reducible refine gate_builtin (b := .append) (xs := #[.tmp 50, .tmp 55]) rfl ?_); at_builtin; refine Kd.R_append k27 (w0 := w1) w1.heap.size rfl (.tmp 50) (.tmp 55) 23 27 (.agg #[(.string ⟨#[]⟩), (.int .i64 0), (.int .i64 0), (.string ⟨#[]⟩), (.int .i64 0)]) 56 rfl Try.underlying23 info27 rfl (by decide) (by omega) u7 ((l.take i).filter fun h => trig c h) h (hcs h) (fun k => w1.heap.size ≤ k) (fun _ => False) rfl rfl ?aP (fun _ hk => hk.elim) ?aF ?aO ?aB ?aS ?aL ?_; (case aP => exact k27_mkM _ _ _ h); (case aB => exact HB.out); (case aF => exact (fun k hk => Nat.le_trans g4 hk)); (case aO => exact HO.out); (case aS => exact g4); (case aL => have := HLL.out; omega); intro v6 w6 ho hb hg hat; have HO6 := Aside0.mk ho; have HB6 := Aside0.mk hb; clear ho hb hg hat))
            go_roundw
            case rel => exact ⟨i + 1, by simp, by omega, ⟨by rw [HTS.out, HQF.out]; exact HO6.out⟩, HB6⟩
            case measure => simp [intOf]; omega
    · have q1 : decide ((i : Int) < (l.length : Int)) = false := decide_eq_false (by omega)
      have htk : l.take i = l := List.take_of_length_le (by omega)
      rw [htk] at HO
      obtain ⟨A5, c5, hv5, hc5⟩ : ∃ A c9, u7 = .slice A (l.filter fun h => trig c h).length c9 ∧ (l.filter fun h => trig c h).length ≤ c9 := by
        obtain ⟨A, c, h1, h2, _⟩ := Kd.R_reads HO.out
        exact ⟨A, c, h1, h2⟩
      subst hv5
      clear htk
      go_wp2
      rw [← HRR.out]
      obtain ⟨_, _, hC7⟩ := Kd.R_reads' HO.out
      have hsz := HOF.out.size
      refine ⟨⟨A5, c5, rfl, hc5, hC7, fun a ha => ?_⟩, HRF.out.below HB.out, HOF.out.trans (Below.only HB.out fun j h1 h2 => by omega)⟩
      subst ha
      have h1 := Kd.R_lt HO.out a.block rfl
      obtain ⟨inner, hown⟩ := Kd.R_own HO.out
      have h2 := (hown.lt a.block rfl).1
      exact ⟨by omega, h1⟩
end Go.Proofs.Ytfhgdjajifnfiaa.PA

namespace Go.Proofs.Ytfhgdjajifnfiaa.PA
open Go.RowKit Go.Maps Go.ChangeMaps Go.WideShapes Go.WideMaps Go.MuLone Go.Conc.Locks Go.Sort Go.Proofs.YtfhgdjajifnfiaaW.PrintWords Go.Proofs.YtfhgdjajifnfiaaW.PrintLast Go.Proofs.YtfhgdjajifnfiaaW.PrintMore
set_option linter.unusedVariables false

/-- Where the two lie. -/
structure LieD (b mb g B : Nat) (w0 : World) : Prop where
  g1 : w0.heap.size ≤ mb
  g2 : mb < b
  g3 : b < g
  g4 : g < B
structure Duo (b mb g B : Nat) (mk : Int) (L1 L2 : List S27) (s1 s2 : Bool) (t1 t2 : Int) (w0 W : World) : Prop where
  r : ∃ A, RegS b mb A mk L1 s1 t1 W ∧ (∀ a, A = some a → B ≤ a.block) ∧ (s1 = false → A = none)
  t : ∃ A c, Rf g B A c mk L2 s2 t2 W
  bel : Below w0.heap.size w0 W
/-- What a question at one of the two leaves. -/
structure DuoA (b mb g B : Nat) (mk : Int) (L1 L2 : List S27) (s1 s2 : Bool) (t1 t2 : Int) (l : List S27) (w0 W : World) (e : Ending) (w' : World) : Prop where
  row : ∃ A2 c, e = .returned (.slice A2 l.length c) ∧ l.length ≤ c ∧ Row w' A2 l ∧ ∀ a, A2 = some a → B ≤ a.block ∧ a.block < w'.heap.size
  two : Duo b mb g B mk L1 L2 s1 s2 t1 t2 w0 w'
  only : Only (fun j => j = b ∨ j = g) W w'
  kept : K46 B W w'
structure DuoB (b mb g B : Nat) (mk : Int) (L1 L2 : List S27) (s1 s2 : Bool) (t1 t2 : Int) (x : Bool) (w0 W : World) (e : Ending) (w' : World) : Prop where
  ret : e = .returned (.bool x)
  two : Duo b mb g B mk L1 L2 s1 s2 t1 t2 w0 w'
  kept : K46 B W w'
structure DuoT (b mb g B : Nat) (mk : Int) (L1 L2 : List S27) (s1 s2 : Bool) (t1 t2 : Int) (w0 W : World) (e : Ending) (w' : World) : Prop where
  ret : e = .returned (.tuple #[])
  two : Duo b mb g B mk L1 L2 s1 s2 t1 t2 w0 w'
  kept : K46 B W w'
section
variable {b mb g B : Nat} {mk : Int} {L1 L2 : List S27} {s1 s2 : Bool} {t1 t2 : Int} {w0 W w' : World}
theorem Duo.below (h : Duo b mb g B mk L1 L2 s1 s2 t1 t2 w0 W) (hb : Below W.heap.size W w') : Duo b mb g B mk L1 L2 s1 s2 t1 t2 w0 w' := by
  obtain ⟨A, h1, h2, h3⟩ := h.r
  obtain ⟨A2, c2, k⟩ := h.t
  exact ⟨⟨A, h1.keep hb.size fun j hj => hb.block j (Nat.lt_of_not_le (h1.own_lt j hj)), h2, h3⟩, ⟨A2, c2, k.below hb⟩, below_step h.bel hb⟩
theorem Duo.drewN (h : Duo b mb g B mk L1 L2 s1 s2 t1 t2 w0 W) (n : Nat) : Duo b mb g B mk L1 L2 s1 s2 t1 t2 w0 (W.drewN n) := h.below ⟨rfl, rfl, rfl, Nat.le_refl _, fun _ _ => rfl⟩
theorem Duo.drew (h : Duo b mb g B mk L1 L2 s1 s2 t1 t2 w0 W) : Duo b mb g B mk L1 L2 s1 s2 t1 t2 w0 W.drew := h.below ⟨rfl, rfl, rfl, Nat.le_refl _, fun _ _ => rfl⟩
theorem LieD.k3 (hl : LieD b mb g B w0) (h : Only (Own3 b mb none) W w') : K46 B W w' := by
  have g2 := hl.g2; have g3 := hl.g3; have g4 := hl.g4
  exact K46.only h fun j hj => by rcases hj with rfl | rfl | ⟨_, x, _⟩; omega; omega; cases x
theorem LieD.kb (hl : LieD b mb g B w0) (h : Only (fun j => j = b) W w') : K46 B W w' := by
  have g3 := hl.g3; have g4 := hl.g4
  exact K46.only h fun j hj => by rw [hj]; omega
theorem LieD.kg (hl : LieD b mb g B w0) (h : Only (fun j => j = g) W w') : K46 B W w' := by
  have g4 := hl.g4
  exact K46.only h fun j hj => by rw [hj]; omega
/-- The registry's step. -/
theorem duo_r (hl : LieD b mb g B w0) (h : Duo b mb g B mk L1 L2 s1 s2 t1 t2 w0 W) {A' : Option Addr} {L' : List S27} {s' : Bool} {t' : Int} (hr : RegS b mb A' mk L' s' t' w') (hA' : ∀ a, A' = some a → B ≤ a.block) (hs' : s' = false → A' = none) (ho : Only (Own3 b mb none) W w') : Duo b mb g B mk L' L2 s' s2 t' t2 w0 w' := by
  obtain ⟨A2, c2, k⟩ := h.t
  have g1 := hl.g1; have g2 := hl.g2; have g3 := hl.g3; have g4 := hl.g4
  refine ⟨⟨A', hr, hA', hs'⟩, ⟨A2, c2, k.only ho fun j hj => ?_⟩, Only.bel3 h.bel ho (by omega) (by omega) (Nat.le_refl _)⟩
  rcases hj with rfl | rfl | ⟨_, x, _⟩
  · omega
  · omega
  · cases x
theorem own3_b {j : Nat} (x : j = b) : Own3 b mb none j := .inl x
/-- The reference's step. -/
theorem duo_t (hl : LieD b mb g B w0) (h : Duo b mb g B mk L1 L2 s1 s2 t1 t2 w0 W) {A' : Option Addr} {c' : Nat} {L' : List S27} {s' : Bool} {t' : Int} (hr : Rf g B A' c' mk L' s' t' w') (ho : Only (fun j => j = g) W w') : Duo b mb g B mk L1 L' s1 s' t1 t' w0 w' := by
  obtain ⟨A, h1, h2, h3⟩ := h.r
  have g1 := hl.g1; have g2 := hl.g2; have g3 := hl.g3; have g4 := hl.g4
  exact ⟨⟨A, h1.apart1 ho (by omega) (by omega) fun a ha => by have := h2 a ha; omega, h2, h3⟩, ⟨A', c', hr⟩, Only.bel h.bel ho (by omega) (Nat.le_refl _)⟩
theorem duo_ansR (hl : LieD b mb g B w0) (h : Duo b mb g B mk L1 L2 s1 s2 t1 t2 w0 W) {A : Option Addr} (hA : ∀ a, A = some a → B ≤ a.block) {l : List S27} {e : Ending} (ha : Ans b mb A mk L1 t1 l W e w') : DuoA b mb g B mk L1 L2 true s2 t1 t2 l w0 W e w' := by
  obtain ⟨A2, c2, k⟩ := h.t
  have hs := k.sz
  obtain ⟨A', hr, hA'⟩ := ha.reg
  obtain ⟨A3, c, e1, e2, e3, e4⟩ := ha.row
  refine ⟨⟨A3, c, e1, e2, e3, fun a h2 => by have := e4 a h2; omega⟩, duo_r hl h hr (fun a ha => ?_) (fun e => by cases e) (ha.only.imp fun j _ x => own3_b x), ha.only.imp fun j _ x => .inl x, hl.kb ha.only⟩
  rcases hA' a ha with e | e
  · exact hA a (e ▸ ha)
  · omega
theorem duo_ansT (hl : LieD b mb g B w0) (h : Duo b mb g B mk L1 L2 s1 s2 t1 t2 w0 W) {A : Option Addr} {c : Nat} {l : List S27} {e : Ending} (ha : RAns g B A c mk L2 t2 l W e w') : DuoA b mb g B mk L1 L2 s1 true t1 t2 l w0 W e w' := by
  obtain ⟨A2, c2, k⟩ := h.t
  have hs := k.sz
  obtain ⟨A3, c, e1, e2, e3, e4⟩ := ha.row
  exact ⟨⟨A3, c, e1, e2, e3, fun a h2 => by have := e4 a h2; omega⟩, duo_t hl h ha.reg ha.only, ha.only.imp fun j _ x => .inr x, hl.kg ha.only⟩
theorem sorted_r (hl : LieD b mb g B w0) (h : Duo b mb g B mk L1 L2 s1 s2 t1 t2 w0 W) (hL : L1.length ≤ 100000) (p : Int) : Calls Try.prog 16 #[.pointer (some ⟨b, 0, none⟩), .int .i64 p] W (DuoA b mb g B mk L1 L2 true s2 t1 t2 ((srt mk L1).filter fun h => h.f1 == p) w0 W) := by
  obtain ⟨A, h1, h2, _⟩ := h.r
  exact (sorted_calls p W h1 hL).mono fun e w' ha => duo_ansR hl h h2 ha
theorem sorted_t (hl : LieD b mb g B w0) (h : Duo b mb g B mk L1 L2 s1 s2 t1 t2 w0 W) (hL : L2.length ≤ 100000) (U : Uniq L2) (p : Int) : Calls Try.prog 23 #[.pointer (some ⟨g, 0, none⟩), .int .i64 p] W (DuoA b mb g B mk L1 L2 s1 true t1 t2 ((srt mk L2).filter fun h => h.f1 == p) w0 W) := by
  obtain ⟨A, c, k⟩ := h.t
  exact (rsorted_calls p W k U hL).mono fun e w' ha => duo_ansT hl h ha
theorem for_r (hl : LieD b mb g B w0) (h : Duo b mb g B mk L1 L2 s1 s2 t1 t2 w0 W) (hL : L1.length ≤ 100000) (p c : Int) : Calls Try.prog 19 #[.pointer (some ⟨b, 0, none⟩), .int .i64 p, .int .u8 c] W (DuoA b mb g B mk L1 L2 true s2 t1 t2 ((srt mk L1).filter fun h => h.f1 == p && trig c h) w0 W) := by
  obtain ⟨A, h1, h2, _⟩ := h.r
  exact (for_calls p c W h1 hL).mono fun e w' ha => duo_ansR hl h h2 ha
theorem for_t (hl : LieD b mb g B w0) (h : Duo b mb g B mk L1 L2 s1 s2 t1 t2 w0 W) (hL : L2.length ≤ 100000) (U : Uniq L2) (hT : ∀ x ∈ L2, x.f3.size ≤ 300) (p c : Int) (c0 : 0 ≤ c) (c1 : c < 256) : Calls Try.prog 24 #[.pointer (some ⟨g, 0, none⟩), .int .i64 p, .int .u8 c] W (DuoA b mb g B mk L1 L2 s1 true t1 t2 ((srt mk L2).filter fun h => h.f1 == p && trig c h) w0 W) := by
  obtain ⟨A, c', k⟩ := h.t
  exact (rfor_calls p c W k U hL hT c0 c1).mono fun e w' ha => duo_ansT hl h ha
theorem has_r (hl : LieD b mb g B w0) (h : Duo b mb g B mk L1 L2 s1 s2 t1 t2 w0 W) (hL : L1.length ≤ 100000) (n : ByteArray) : Calls Try.prog 20 #[.pointer (some ⟨b, 0, none⟩), .string n] W (DuoB b mb g B mk L1 L2 true s2 t1 t2 (decide (0 < ((srt mk L1).filter fun h => h.f0.toList == n.toList).length)) w0 W) := by
  obtain ⟨A, h1, h2, _⟩ := h.r
  obtain ⟨A2, c2, k⟩ := h.t
  have hs := k.sz
  refine (has_calls n W h1 hL).mono fun e w' ha => ?_
  obtain ⟨A', hr, hA'⟩ := ha.reg
  refine ⟨ha.ret, duo_r hl h hr (fun a ha => ?_) (fun e => by cases e) (ha.only.imp fun j _ x => own3_b x), hl.kb ha.only⟩
  rcases hA' a ha with e | e
  · exact h2 a (e ▸ ha)
  · omega
theorem has_t (hl : LieD b mb g B w0) (h : Duo b mb g B mk L1 L2 s1 s2 t1 t2 w0 W) (hL : L2.length ≤ 100000) (U : Uniq L2) (n : ByteArray) : Calls Try.prog 25 #[.pointer (some ⟨g, 0, none⟩), .string n] W (DuoB b mb g B mk L1 L2 s1 true t1 t2 (decide (0 < ((srt mk L2).filter fun h => h.f0.toList == n.toList).length)) w0 W) := by
  obtain ⟨A, c', k⟩ := h.t
  exact (rhas_calls n W k U hL).mono fun e w' ⟨h1, h2, h3⟩ => ⟨h1, duo_t hl h h2 h3, hl.kg h3⟩
theorem step_r (hl : LieD b mb g B w0) (h : Duo b mb g B mk L1 L2 s1 s2 t1 t2 w0 W) (h0 : 0 ≤ t1) (h1 : t1 ≤ 4611686018427387904) (n : Int) : Calls Try.prog 17 #[.pointer (some ⟨b, 0, none⟩), .int .i64 n] W (DuoT b mb g B mk L1 L2 s1 s2 (stp t1 n) t2 w0 W) := by
  obtain ⟨A, k1, k2, k3⟩ := h.r
  exact (step_calls n W k1 h0 h1).mono fun e w' ⟨e1, e2, e3⟩ => ⟨e1, duo_r hl h e2 k2 k3 (e3.imp fun j _ x => own3_b x), hl.kb e3⟩
theorem step_t (hl : LieD b mb g B w0) (h : Duo b mb g B mk L1 L2 s1 s2 t1 t2 w0 W) (h0 : 0 ≤ t2) (h1 : t2 ≤ 4611686018427387904) (n : Int) : Calls Try.prog 26 #[.pointer (some ⟨g, 0, none⟩), .int .i64 n] W (DuoT b mb g B mk L1 L2 s1 s2 t1 (stp t2 n) w0 W) := by
  obtain ⟨A, c, k⟩ := h.t
  exact (rstep_calls n W k h0 h1).mono fun e w' ⟨e1, e2, e3⟩ => ⟨e1, duo_t hl h e2 e3, hl.kg e3⟩
theorem steps_r (h : Duo b mb g B mk L1 L2 s1 s2 t1 t2 w0 W) : Calls Try.prog 18 #[.pointer (some ⟨b, 0, none⟩)] W fun e w' => e = .returned (.int .i64 t1) ∧ w' = W := by
  obtain ⟨A, k1, _⟩ := h.r
  exact steps_calls W k1
/-- What Add answers, what it leaves. -/
def addR (s : Bool) (L : List S27) (x : S27) : Bool := !s && addOk L x
def addL (s : Bool) (L : List S27) (x : S27) : List S27 := if addR s L x then L ++ [x] else L
theorem add_r (hl : LieD b mb g B w0) (h : Duo b mb g B mk L1 L2 s1 s2 t1 t2 w0 W) (x : S27) (hx : x.f0.size ≤ maxLen) (hL : L1.length < maxLen) : Calls Try.prog 15 #[.pointer (some ⟨b, 0, none⟩), hv x] W (DuoB b mb g B mk (addL s1 L1 x) L2 s1 s2 t1 t2 (addR s1 L1 x) w0 W) := by
  obtain ⟨A, k1, k2, k3⟩ := h.r
  cases s1 with
  | true => exact (add_sealed x W k1).mono fun e w' ⟨e1, e2⟩ => ⟨e1, h.below e2, K46.below e2⟩
  | false =>
    obtain rfl := k3 rfl
    refine (add_calls' x W k1 hx hL).mono fun e w' ⟨e1, e2, e3⟩ => ⟨e1, duo_r hl h e2 k2 k3 e3, hl.k3 e3⟩
/-- The reference's Add, sealed. -/
theorem radd_sealed {A : Option Addr} {c : Nat} {m : Int} {L : List S27} {st : Int} (h : S27) (w : World) (hr : Rf g B A c m L true st w) :
    Calls Try.prog 22 #[.pointer (some ⟨g, 0, none⟩), hv h] w fun e w' => e = .returned (.bool false) ∧ Below w.heap.size w w' := by
  have hlt : g < w.heap.size := Nat.lt_of_lt_of_le hr.lt hr.sz
  have k2 : ∀ o : Obj, (w.alloc o).cell? ⟨g, 2, none⟩ = some (.bool true) := fun o => (World.cell?_of_block (w := w) (a := ⟨g, 2, none⟩) (Below.heap_alloc _ _ _ hlt)).trans hr.c2
  clear hr
  go_enter Try.func22, Try.ntmps22
  go_wp2
  go_ret
  exact ⟨rfl, (Below.refl _ _).alloc (Nat.le_refl _) _⟩
theorem add_t (hl : LieD b mb g B w0) (h : Duo b mb g B mk L1 L2 s1 s1 t1 t2 w0 W) (x : S27) (hL : L2.length ≤ 100000) : Calls Try.prog 22 #[.pointer (some ⟨g, 0, none⟩), hv x] W (DuoB b mb g B mk L1 (addL s1 L2 x) s1 s1 t1 t2 (addR s1 L2 x) w0 W) := by
  obtain ⟨A, c, k⟩ := h.t
  cases s1 with
  | true => exact (radd_sealed x W k).mono fun e w' ⟨e1, e2⟩ => ⟨e1, h.below e2, K46.below e2⟩
  | false =>
    obtain ⟨A0, k1, k2, k3⟩ := h.r
    obtain rfl := k3 rfl
    have g1 := hl.g1; have g2 := hl.g2; have g3 := hl.g3; have g4 := hl.g4
    refine (radd_calls x W k hL).mono fun e w' ha => ?_
    obtain ⟨A', c', hr⟩ := ha.reg
    refine ⟨ha.ret, ⟨⟨none, k1.keep_only ha.only fun j hj hj2 => ?_, k2, k3⟩, ⟨A', c', hr⟩, h.bel.trans (ha.only.below h.bel.size fun j hj => ?_)⟩, ha.kept⟩
    · rcases hj with rfl | rfl | ⟨_, x, _⟩
      · omega
      · omega
      · cases x
    · rcases hj with hj | hj <;> omega
/-- A row told before is there yet. -/
theorem row_on {A : Option Addr} {l : List S27} {w w' : World} (hl : LieD b mb g B w0) (h : Row w A l) (hA : ∀ a, A = some a → B ≤ a.block ∧ a.block < w.heap.size) (ho : Only (fun j => j = b ∨ j = g) w w') : Row w' A l := by
  have g3 := hl.g3; have g4 := hl.g4
  refine h.keep fun a ha => ho.block a.block (hA a ha).2 fun x => ?_
  have := (hA a ha).1
  rcases x with x | x <;> omega
end
end Go.Proofs.Ytfhgdjajifnfiaa.PA

namespace Go.Proofs.Ytfhgdjajifnfiaa.PA
open Go.RowKit Go.Proofs.YtfhgdjajifnfiaaW.PrintWords Go.Proofs.YtfhgdjajifnfiaaW.PrintLast Go.Proofs.YtfhgdjajifnfiaaW.PrintMore
set_option linter.unusedVariables false

structure S46 where
  f0 : Int
  f1 : Int
  f2 : UInt8
  f3 : S27
def z46 : S46 := ⟨0, 0, 0, z27⟩
def k46 : Kd S46 := Kd.iso (Kd.pair (Kd.int .i64) (Kd.pair (Kd.int .i64) (Kd.pair (Kd.int .u8) k27))) (fun x : S46 => (x.f0, x.f1, (x.f2.toNat : Int), x.f3))
theorem k46_open {w : World} {x : S46} {cs : List Value} (h : k46.K w x cs) : cs = [.int .i64 x.f0, .int .i64 x.f1, .int .u8 (x.f2.toNat : Int), .string x.f3.f0, .int .i64 x.f3.f1, .int .i64 x.f3.f2, .string x.f3.f3, .int .i64 x.f3.f4] := by
  obtain ⟨_, _, rfl, rfl, ⟨_, _, rfl, rfl, ⟨_, _, rfl, rfl, h⟩⟩⟩ := h
  rw [k27_open h]
  rfl
theorem k46_mk (w : World) (x : S46) : k46.K w x [.int .i64 x.f0, .int .i64 x.f1, .int .u8 (x.f2.toNat : Int), .string x.f3.f0, .int .i64 x.f3.f1, .int .i64 x.f3.f2, .string x.f3.f3, .int .i64 x.f3.f4] :=
  ⟨[.int .i64 x.f0], _, rfl, rfl, ⟨[.int .i64 x.f1], _, rfl, rfl, ⟨[.int .u8 (x.f2.toNat : Int)], _, rfl, rfl, k27_mk w x.f3⟩⟩⟩
theorem at_T46 {w : World} {A : Option Addr} {xs : List S46} (h : Kd.C k46 w A xs.length xs) (i : Nat) (hi : i < xs.length) : ∃ ad, A = some ad ∧ w.cell? (ad.add (i * 8)) = some (.int .i64 xs[i].f0) ∧ w.cell? ⟨(ad.add (i * 8)).block, (ad.add (i * 8)).off + 1, none⟩ = some (.int .i64 xs[i].f1) ∧ w.cell? ⟨(ad.add (i * 8)).block, (ad.add (i * 8)).off + 2, none⟩ = some (.int .u8 (xs[i].f2.toNat : Int))
    ∧ w.cell? ⟨(ad.add (i * 8)).block, (ad.add (i * 8)).off + 3, none⟩ = some (.string xs[i].f3.f0) ∧ w.cell? ⟨(ad.add (i * 8)).block, (ad.add (i * 8)).off + 4, none⟩ = some (.int .i64 xs[i].f3.f1) ∧ w.cell? ⟨(ad.add (i * 8)).block, (ad.add (i * 8)).off + 5, none⟩ = some (.int .i64 xs[i].f3.f2)
    ∧ w.cell? ⟨(ad.add (i * 8)).block, (ad.add (i * 8)).off + 6, none⟩ = some (.string xs[i].f3.f3) ∧ w.cell? ⟨(ad.add (i * 8)).block, (ad.add (i * 8)).off + 7, none⟩ = some (.int .i64 xs[i].f3.f4) := by
  obtain ⟨ad, c, e, _, hK, hc0⟩ := Kd.C_get h z46 (i : Int) (by omega) (by omega)
  rw [Int.toNat_natCast] at hK hc0
  have hg : xs.getD i z46 = xs[i] := by rw [List.getD_eq_getElem?_getD, List.getElem?_eq_getElem hi]; rfl
  rw [hg] at hK
  have hc : ∀ j u, c[j]? = some u → w.cell? (ad.add (i * 8 + j)) = some u := hc0
  obtain rfl := k46_open hK
  exact ⟨ad, e, hc 0 _ rfl, by rw [← add_field _ _ 1 (by omega)]; exact hc 1 _ rfl, by rw [← add_field _ _ 2 (by omega)]; exact hc 2 _ rfl, by rw [← add_field _ _ 3 (by omega)]; exact hc 3 _ rfl, by rw [← add_field _ _ 4 (by omega)]; exact hc 4 _ rfl, by rw [← add_field _ _ 5 (by omega)]; exact hc 5 _ rfl, by rw [← add_field _ _ 6 (by omega)]; exact hc 6 _ rfl, by rw [← add_field _ _ 7 (by omega)]; exact hc 7 _ rfl⟩
/-- A step in a block of its own. -/
abbrev ocs (x : S46) (cb : Int) : Array Value := #[.int .i64 x.f0, .int .i64 x.f1, .int .u8 cb, .string x.f3.f0, .int .i64 x.f3.f1, .int .i64 x.f3.f2, .string x.f3.f3, .int .i64 x.f3.f4]
end Go.Proofs.Ytfhgdjajifnfiaa.PA

namespace Go.Proofs.Ytfhgdjajifnfiaa.RowU8
open Go.ChangeShapes Go.WideShapes Go.ChangeAt Go.RowKit Go.Lib
set_option linter.unusedVariables false
set_option maxRecDepth 100000 in
theorem ops_row {H : Type} {enc : TypeId × Value → H} {W : World} {base : Nat} {spare : Nat → Bool} {held : Bool} {a : Option Addr} {len cap fuel : Nat} {x : DataW H × List MemPlace}
    (h : DataW.trod enc Try.prog W base spare held fuel 42 [.slice a len cap] = some x) :
    ∃ l : List PA.S46, len = l.length ∧ l.length ≤ cap ∧ YtfhgdjajifnfiaaW.PrintWords.Kd.C PA.k46 W a l.length l := by
  rcases Go.Deep.open_slice Try.underlying42 h with ⟨hcs, _⟩ | ⟨ad, l, c, m, n, D, Pl, hcs, _, hlc, hcm, hm, _, hel⟩
  · simp at hcs
    obtain ⟨rfl, rfl, rfl⟩ := hcs
    exact ⟨[], rfl, by simp, ⟨rfl, by simp, fun h => absurd h (by simp)⟩⟩
  · simp at hcs
    obtain ⟨rfl, rfl, rfl⟩ := hcs
    have ce : Try.prog.cellsOf 46 = 8 := by kernel_rfl
    have hlm : len ≤ m := by rw [hm]; split <;> omega
    have each : ∀ i, i < len → ∃ q : PA.S46, W.cell? (ad.add (i * 8)) = some (.int .i64 q.f0) ∧ W.cell? (ad.add (i * 8 + 1)) = some (.int .i64 q.f1) ∧ W.cell? (ad.add (i * 8 + 2)) = some (.int .u8 (q.f2.toNat : Int)) ∧ W.cell? (ad.add (i * 8 + 3)) = some (.string q.f3.f0) ∧ W.cell? (ad.add (i * 8 + 4)) = some (.int .i64 q.f3.f1) ∧ W.cell? (ad.add (i * 8 + 5)) = some (.int .i64 q.f3.f2) ∧ W.cell? (ad.add (i * 8 + 6)) = some (.string q.f3.f3) ∧ W.cell? (ad.add (i * 8 + 7)) = some (.int .i64 q.f3.f4) := by
      intro i hi
      obtain ⟨cs', h1, h2⟩ := hel i (by omega)
      rw [ce] at h1
      obtain ⟨_, hlen, hcell⟩ := World.cells?_some h1
      obtain ⟨xs, k, hk, hxy, _, hxl, hf⟩ := DataW.trod_struct Try.underlying46 h2
      match xs, hxl, cs', hlen with
      | [y0, y1, y2, y3], _, [v0, v1, v2, v3, v4, v5, v6, v7], _ =>
        have g0 := hf 0 _ rfl
        have g1 := hf 1 _ rfl
        have g2 := hf 2 _ rfl
        have g3 := hf 3 _ rfl
        have cs1 : Try.prog.cellsOf 9 = 1 := by kernel_rfl
        have cs2 : Try.prog.cellsOf 3 = 1 := by kernel_rfl
        have cs3 : Try.prog.cellsOf 5 = 1 := by kernel_rfl
        have cs4 : Try.prog.cellsOf 27 = 5 := by kernel_rfl
        simp [cs1, cs2, cs3, cs4] at g0 g1 g2 g3
        obtain ⟨s0, e0, _⟩ := DataW.trod_int Try.underlying3 g0
        obtain ⟨s1, e1, _⟩ := DataW.trod_int Try.underlying3 g1
        obtain ⟨s2, e2, _, hw2⟩ := DataW.trod_int Try.underlying5 g2
        obtain ⟨zs, k2, _, _, _, hzl, hz⟩ := DataW.trod_struct Try.underlying27 g3
        match zs, hzl with
        | [z0, z1, z2, z3, z4], _ =>
          have r0 := hz 0 _ rfl
          have r1 := hz 1 _ rfl
          have r2 := hz 2 _ rfl
          have r3 := hz 3 _ rfl
          have r4 := hz 4 _ rfl
          simp [cs1, cs2] at r0 r1 r2 r3 r4
          obtain ⟨t0, u0, _⟩ := DataW.trod_string Try.underlying9 r0
          obtain ⟨t1, u1, _⟩ := DataW.trod_int Try.underlying3 r1
          obtain ⟨t2, u2, _⟩ := DataW.trod_int Try.underlying3 r2
          obtain ⟨t3, u3, _⟩ := DataW.trod_string Try.underlying9 r3
          obtain ⟨t4, u4, _⟩ := DataW.trod_int Try.underlying3 r4
          have k0 := hcell 0 (by omega)
          have k1 := hcell 1 (by omega)
          have k2 := hcell 2 (by omega)
          have k3 := hcell 3 (by omega)
          have k4 := hcell 4 (by omega)
          have k5 := hcell 5 (by omega)
          have k6 := hcell 6 (by omega)
          have k7 := hcell 7 (by omega)
          rw [Go.Deep.add_add] at k0 k1 k2 k3 k4 k5 k6 k7
          simp at e0 e1 e2 u0 u1 u2 u3 u4
          subst e0 e1 e2 u0 u1 u2 u3 u4
          exact ⟨⟨s0, s1, UInt8.ofNat s2.toNat, ⟨t0, t1, t2, t3, t4⟩⟩, by simpa using k0, by simpa using k1, by
            have e : ((UInt8.ofNat s2.toNat).toNat : Int) = s2 := by
              have h1 : 0 ≤ s2 ∧ s2 ≤ 255 := by
                have h := hw2
                simp [Lit.wf] at h
                exact h
              have h2 : s2.toNat < 256 := by omega
              rw [UInt8.toNat_ofNat']
              omega
            rw [e]
            simpa using k2, by simpa using k3, by simpa using k4, by simpa using k5, by simpa using k6, by simpa using k7⟩
    haveI : Inhabited PA.S46 := ⟨PA.z46⟩
    obtain ⟨q, hq⟩ := Go.Deep.choose_lt each
    refine ⟨(List.range len).map q, by simp, by simpa using hlc, ⟨rfl, by simp; unfold maxLen at hcm; omega, fun _ => ⟨ad, rfl, fun j p hj => ?_⟩⟩⟩
    obtain ⟨hjl, hp⟩ := List.getElem?_eq_some_iff.1 hj
    have hjl2 : j < len := by simpa using hjl
    have hp2 : q j = p := by simpa using hp
    subst hp2
    obtain ⟨r0, r1, r2, r3, r4, r5, r6, r7⟩ := hq j hjl2
    refine ⟨_, rfl, PA.k46_mk _ _, fun i u hi => ?_⟩
    match i, hi with
    | 0, hi => simp at hi; subst hi; exact r0
    | 1, hi => simp at hi; subst hi; exact r1
    | 2, hi => simp at hi; subst hi; exact r2
    | 3, hi => simp at hi; subst hi; exact r3
    | 4, hi => simp at hi; subst hi; exact r4
    | 5, hi => simp at hi; subst hi; exact r5
    | 6, hi => simp at hi; subst hi; exact r6
    | 7, hi => simp at hi; subst hi; exact r7
end Go.Proofs.Ytfhgdjajifnfiaa.RowU8

namespace Go.Proofs.Ytfhgdjajifnfiaa.PA
open Go.RowKit Go.Maps Go.ChangeMaps Go.WideShapes Go.WideMaps Go.MuLone Go.Conc.Locks Go.Sort Go.Proofs.YtfhgdjajifnfiaaW.PrintWords Go.Proofs.YtfhgdjajifnfiaaW.PrintLast Go.Proofs.YtfhgdjajifnfiaaW.PrintMore
set_option linter.unusedVariables false

theorem stp_in {st n : Int} (h0 : 0 ≤ st) (h1 : st ≤ 4611686018427387904) : 0 ≤ stp st n ∧ stp st n ≤ 4611686018427387904 := by
  unfold stp
  split <;> omega
def incipitlaw07_RegistryPlays.f (a0 : Int) (l1 : List S46) : Option Bool := some true
set_option maxHeartbeats 8000000 in
set_option maxRecDepth 100000 in
theorem incipitlaw07_RegistryPlays.calls (a0 : Int) (A1 : Option Addr) (c1 : Nat) (l1 : List S46) (r : Bool) (w : World) (hr1 : Kd.C k46 w A1 l1.length l1) (hc1 : l1.length ≤ c1) (h : incipitlaw07_RegistryPlays.f a0 l1 = some r) :
    Calls Try.prog 8 #[.int .i64 a0, .slice A1 l1.length c1] w fun e w' => e = .returned (.bool r) ∧ Below w.heap.size w w' := by
  obtain rfl : true = r := Option.some.inj h
  clear h
  have HA := Aside0.mk (awake_calls w)
  have HR1 := Aside0.mk hr1
  clear hr1
  go_enter Try.func8, Try.ntmps8
  go_wp2_with fail
  refine HA.out.mono ?_
  rintro e w1 ⟨rfl, hb1⟩
  have HB1 := Aside0.mk hb1
  clear hb1 HA
  by_cases hl : (l1.length : Int) > 60
  · have q : decide ((60 : Int) < (l1.length : Int)) = true := decide_eq_true hl
    go_wp2
    go_ret
    exact ⟨rfl, HB1.out⟩
  · have q : decide ((60 : Int) < (l1.length : Int)) = false := decide_eq_false hl
    go_wp2_with fail
    refine (new_calls' a0 w1).mono ?_
    rintro e w2 ⟨rfl, hr2, hb2⟩
    have hl2 := hr2.lt
    have HB2 := Aside0.mk (below_step HB1.out hb2)
    have HR2 := Aside0.mk hr2
    clear hr2 hb2
    go_wp2_with fail
    refine (rnew_calls a0 w2).mono ?_
    rintro e w3 ⟨rfl, hr3, hb3⟩
    have hw1 : w.heap.size ≤ w1.heap.size := HB1.out.size
    have HDU := Aside0.mk (show Duo (w1.heap.size + 1) w1.heap.size w2.heap.size (w2.heap.size + 1) (bits .and .i64 a0 127) [] [] false false 0 0 w w3 from
      ⟨⟨none, HR2.out.keep_only (Below.only (F := fun j => w2.heap.size ≤ j) hb3 (fun j hj _ => hj)) (fun j hj hj2 => HR2.out.own_lt j hj hj2), (fun a ha => by cases ha), fun _ => rfl⟩, ⟨_, _, hr3⟩, below_step HB2.out hb3⟩)
    have HLI := Aside0.mk (show LieD (w1.heap.size + 1) w1.heap.size w2.heap.size (w2.heap.size + 1) w from ⟨hw1, by omega, by omega, by omega⟩)
    obtain ⟨b, hb⟩ : ∃ b, w1.heap.size + 1 = b := ⟨_, rfl⟩
    obtain ⟨mb, hmb⟩ : ∃ b, w1.heap.size = b := ⟨_, rfl⟩
    obtain ⟨g, hg⟩ : ∃ b, w2.heap.size = b := ⟨_, rfl⟩
    obtain ⟨B, hB⟩ : ∃ b, w2.heap.size + 1 = b := ⟨_, rfl⟩
    obtain ⟨mk, hmk⟩ : ∃ m, bits .and .i64 a0 127 = m := ⟨_, rfl⟩
    rw [hB, hb, hmb, hg, hmk] at HDU
    rw [hB, hb, hmb, hg] at HLI
    rw [hb, hg]
    clear hr3 hb3 HB1 HB2 HR2 hl2 hw1 hb hmb hg hB hmk
    go_wp2_with fail
    go_loopw [8, 9] (fun v8 v9 wr => ∃ (i : Nat) (L : List S27) (s : Bool) (st : Int), v8 = .int .i64 (i : Int) ∧ i ≤ l1.length ∧ L.length ≤ i ∧ 0 ≤ st ∧ st ≤ 4611686018427387904 ∧ Aside0 (Duo b mb g B mk L L s s st st w wr) ∧ Aside0 (∀ x ∈ L, x.f3.size ≤ 300)) (fun v8 _ _ => l1.length - (intOf v8).toNat)
    case atStart => exact ⟨0, [], false, 0, rfl, by omega, by simp, by omega, by omega, HDU, ⟨by simp⟩⟩
    case round =>
      clear HDU
      obtain ⟨i, L, s, st, rfl, hi, hLi, st0, st1, HD, HX⟩ := hrel
      by_cases hlt : i < l1.length
      · have q1 : decide ((i : Int) < (l1.length : Int)) = true := decide_eq_true (by omega)
        have p0 : 0 ≤ (i : Int) := by omega
        have p1 : (i : Int) < (l1.length : Int) := by omega
        obtain ⟨ad, e1, x0, x1, x2, x3, x4, x5, x6, x7⟩ := at_T46 (Kd.C_below HR1.out HD.out.bel) i hlt
        cases e1
        obtain ⟨x, hx⟩ : ∃ x, l1[i] = x := ⟨_, rfl⟩
        rw [hx] at x0 x1 x2 x3 x4 x5 x6 x7
        obtain ⟨cb, hcb⟩ : ∃ c : Int, (x.f2.toNat : Int) = c := ⟨_, rfl⟩
        have HXB := Aside0.mk (show 0 ≤ cb ∧ cb < 256 from by have := x.f2.toNat_lt; omega)
        rw [hcb] at x2
        clear hx hcb
        replace p0 := eq_true p0
        replace p1 := eq_true p1
        go_upto_region 10 with fail
        clear x0 x1 x2 x3 x4 x5 x6 x7
        obtain ⟨o, ho⟩ : ∃ o, wr.heap.size = o := ⟨_, rfl⟩
        have hblk : (wr.alloc (.cells (ocs x cb) 46)).heap[o]? = some (.cells (ocs x cb) 46 (0, 0)) := by rw [← ho]; exact heap_alloc_new _ _
        have hbo : B ≤ o := by rw [← ho]; obtain ⟨_, _, k⟩ := HD.out.t; exact k.sz
        have hdu : Duo b mb g B mk L L s s st st w (wr.alloc (.cells (ocs x cb) 46)) := HD.out.below (below_alloc (Below.refl _ _) _)
        obtain ⟨w4, hw4⟩ : ∃ w4, wr.alloc (.cells (ocs x cb) 46) = w4 := ⟨_, rfl⟩
        rw [hw4] at hblk hdu ⊢
        rw [ho]
        have HU := Aside0.mk (show Uniq L from by obtain ⟨_, k, _⟩ := hdu.r; exact k.uq)
        have HD4 := Aside0.mk hdu
        have HBO := Aside0.mk hbo
        have HK0 := Aside0.mk hblk
        have HOC := Aside0.mk (fun (W : World) (hW : W.heap[o]? = some (.cells (ocs x cb) 46 (0, 0))) => (⟨cell_at hW 0, cell_at hW 1, cell_at hW 2, cell_at hW 3, cell_at hW 4, cell_at hW 5, cell_at hW 6, cell_at hW 7⟩ : W.cell? ⟨o, 0, none⟩ = some (.int .i64 x.f0) ∧ W.cell? ⟨o, 1, none⟩ = some (.int .i64 x.f1) ∧ W.cell? ⟨o, 2, none⟩ = some (.int .u8 cb) ∧ W.cell? ⟨o, 3, none⟩ = some (.string x.f3.f0) ∧ W.cell? ⟨o, 4, none⟩ = some (.int .i64 x.f3.f1) ∧ W.cell? ⟨o, 5, none⟩ = some (.int .i64 x.f3.f2) ∧ W.cell? ⟨o, 6, none⟩ = some (.string x.f3.f3) ∧ W.cell? ⟨o, 7, none⟩ = some (.int .i64 x.f3.f4)))
        obtain ⟨d0, d1, d2, d3, d4, d5, d6, d7⟩ := HOC.out w4 hblk
        have hL60 : L.length ≤ 60 := by omega
        have HL6 := Aside0.mk (show L.length ≤ 100000 from by omega)
        clear hdu hblk hbo hw4 HD ho
        by_cases k0 : (x.f3.f0.size : Int) > 300
        · have z : decide ((300 : Int) < (x.f3.f0.size : Int)) = true := decide_eq_true k0
          go_wp2
          go_ret
          exact ⟨rfl, HD4.out.bel⟩
        · have z : decide ((300 : Int) < (x.f3.f0.size : Int)) = false := decide_eq_false k0
          by_cases k3 : (x.f3.f3.size : Int) > 300
          · have z3 : decide ((300 : Int) < (x.f3.f3.size : Int)) = true := decide_eq_true k3
            go_wp2
            go_ret
            exact ⟨rfl, HD4.out.bel⟩
          · have z3 : decide ((300 : Int) < (x.f3.f3.size : Int)) = false := decide_eq_false k3
            have HS0 := Aside0.mk (show x.f3.f0.size ≤ maxLen from by unfold maxLen; omega)
            have HS3 := Aside0.mk (show x.f3.f3.size ≤ 300 from by omega)
            by_cases y0 : x.f0 = 0
            · have y0' : (x.f0 == 0) = true := beq_iff_eq.2 y0
              have HX2 := Aside0.mk (show ∀ y ∈ addL s L x.f3, y.f3.size ≤ 300 from fun y hy => by
                unfold addL at hy
                split at hy
                · rcases List.mem_append.1 hy with hy | hy
                  · exact HX.out y hy
                  · rw [List.mem_singleton.1 hy]
                    exact HS3.out
                · exact HX.out y hy)
              have HLEN2 := Aside0.mk (show (addL s L x.f3).length ≤ i + 1 from by
                unfold addL
                split
                · rw [List.length_append, List.length_singleton]; omega
                · omega)
              clear y0
              go_upto_region 16 with fail
              have HCR := Aside0.mk (fun W (hW : Duo b mb g B mk L L s s st st w W) => add_r (W := W) (s2 := s) (L2 := L) (t1 := st) (t2 := st) HLI.out hW x.f3 HS0.out (Nat.lt_of_le_of_lt HL6.out (by decide)))
              have HCT := Aside0.mk (fun W (hW : Duo b mb g B mk (addL s L x.f3) L s s st st w W) => add_t (W := W) (s1 := s) (L1 := addL s L x.f3) (t1 := st) (t2 := st) HLI.out hW x.f3 HL6.out)
              obtain ⟨ra, hra⟩ : ∃ ra, addR s L x.f3 = ra := ⟨_, rfl⟩
              obtain ⟨La, hLa⟩ : ∃ La, addL s L x.f3 = La := ⟨_, rfl⟩
              rw [hra, hLa] at HCR HCT
              rw [hLa] at HX2 HLEN2
              clear hra hLa
              go_cut [62] (fun cv wx => cv = .bool false ∧ Aside0 (Duo b mb g B mk La La s s st st w wx))
              case first =>
                go_region_held3 (fun W => W.cell? ⟨o, 3, none⟩ = some (.string x.f3.f0) ∧ W.cell? ⟨o, 4, none⟩ = some (.int .i64 x.f3.f1) ∧ W.cell? ⟨o, 5, none⟩ = some (.int .i64 x.f3.f2) ∧ W.cell? ⟨o, 6, none⟩ = some (.string x.f3.f3) ∧ W.cell? ⟨o, 7, none⟩ = some (.int .i64 x.f3.f4)) (first | exact (HOC.out _ HK2.out).2.2.2 | exact (HOC.out _ HK1.out).2.2.2 | exact (HOC.out _ HK0.out).2.2.2)
                  (first
                  | (go_at_call 15; refine (HCR.out _ (by first | exact HD4.out | exact HD4.out.drew | exact HD4.out.drewN _)).mono ?_; rintro e v1 hq; obtain rfl := hq.ret; have HU1 := Aside0.mk hq.two; have HK1 := Aside0.mk (hq.kept o _ HBO.out HK0.out); clear hq)
                  | (go_at_call 22; refine (HCT.out _ HU1.out).mono ?_; rintro e v2 hq; obtain rfl := hq.ret; have HU2 := Aside0.mk hq.two; have HK2 := Aside0.mk (hq.kept o _ HBO.out HK1.out); clear hq))
                all_goals
                  go_wp2_with fail
                  go_meet
                  exact ⟨rfl, by first | exact HU2 | exact ⟨HU2.out.drew⟩ | exact ⟨HU2.out.drewN _⟩⟩
              case rest =>
                obtain ⟨rfl, HDE⟩ := hcut
                clear d0 d1 d2 d3 d4 d5 d6 d7 HCR HCT HD4 HK0 HOC
                have HG3 := Aside0.mk (fun W (hW : Duo b mb g B mk La La s s st st w W) => (show W.cell? ⟨g, 3, none⟩ = some (.int .i64 st) from by obtain ⟨_, _, k⟩ := hW.t; exact k.c3))
                have HST := Aside0.mk (fun W (hW : Duo b mb g B mk La La s s st st w W) => steps_r hW)
                go_upto_region 27 with fail
                go_cut [110] (fun cv wx => cv = .bool false ∧ Aside0 (Duo b mb g B mk La La s s st st w wx))
                case first =>
                  go_region_held3 (fun W => W.cell? ⟨g, 3, none⟩ = some (.int .i64 st)) (first | exact HG3.out _ HDE.out | exact HG3.out _ HDE.out.drew | exact HG3.out _ (HDE.out.drewN _)) (first | (go_at_call 18; refine (HST.out _ (by first | exact HDE.out | exact HDE.out.drew | exact HDE.out.drewN _)).mono ?_; rintro e v ⟨rfl, rfl⟩))
                  all_goals
                    go_wp2_with fail
                    go_meet
                    exact ⟨rfl, by first | exact HDE | exact ⟨HDE.out.drew⟩ | exact ⟨HDE.out.drewN _⟩⟩
                case rest =>
                  obtain ⟨rfl, HDZ⟩ := hcut
                  clear HDE
                  go_wp2
                  go_roundw
                  case rel => exact ⟨i + 1, La, s, st, by simp, by omega, HLEN2.out, st0, st1, HDZ, HX2⟩
                  case measure => simp [intOf]; omega
            · have y0' : (x.f0 == 0) = false := beq_eq_false_iff_ne.2 y0
              clear y0
              by_cases y1 : x.f0 = 1
              · have y1' : (x.f0 == 1) = true := beq_iff_eq.2 y1
                clear y1
                go_upto_region 19 with fail
                obtain ⟨la, hla⟩ : ∃ la, ((srt mk L).filter fun y => y.f1 == x.f1) = la := ⟨_, rfl⟩
                have hsl : (srt mk L).length ≤ 60 := Nat.le_trans (Nat.le_of_eq (srt_perm mk L).length_eq) (Nat.le_trans (List.length_filter_le _ _) hL60)
                have HLA := Aside0.mk (show la.length < 4611686018427387904 from by rw [← hla]; exact Nat.lt_of_le_of_lt (Nat.le_trans (List.length_filter_le _ _) hsl) (by omega))
                have HCR := Aside0.mk (fun W (hW : Duo b mb g B mk L L s s st st w W) => sorted_r (W := W) (s1 := s) (s2 := s) (L1 := L) (L2 := L) (t1 := st) (t2 := st) HLI.out hW HL6.out x.f1)
                have HCT := Aside0.mk (fun W (hW : Duo b mb g B mk L L true s st st w W) => sorted_t (W := W) (s1 := true) (s2 := s) (L1 := L) (L2 := L) (t1 := st) (t2 := st) HLI.out hW HL6.out HU.out x.f1)
                rw [hla] at HCR HCT
                clear hla hsl
                go_cut [74] (fun cv wx => cv = .bool false ∧ Aside0 (Duo b mb g B mk L L true true st st w wx))
                case first =>
                  go_region_held3 (fun W => W.cell? ⟨o, 1, none⟩ = some (.int .i64 x.f1)) (first | exact (HOC.out _ HK2.out).2.1 | exact (HOC.out _ HK1.out).2.1 | exact (HOC.out _ HK0.out).2.1)
                    (first
                    | (go_at_call 16; refine (HCR.out _ (by first | exact HD4.out | exact HD4.out.drew | exact HD4.out.drewN _)).mono ?_; rintro e v1 hq; obtain ⟨B1, e1, rfl, hd1, hr1, hn1⟩ := hq.row; have HU1 := Aside0.mk hq.two; have HR1' := Aside0.mk hr1; have HN1 := Aside0.mk hn1; have HD1 := Aside0.mk hd1; have HK1 := Aside0.mk (hq.kept o _ HBO.out HK0.out); clear hq hr1 hn1 hd1)
                    | (go_at_call 23; refine (HCT.out _ HU1.out).mono ?_; rintro e v2 hq; obtain ⟨B2, e2, rfl, hd2, hr2, hn2⟩ := hq.row; have HU2 := Aside0.mk hq.two; have HR2' := Aside0.mk hr2; have HD2 := Aside0.mk hd2; have HR12 := Aside0.mk (row_on HLI.out HR1'.out HN1.out hq.only); have HK2 := Aside0.mk (hq.kept o _ HBO.out HK1.out); clear hq hr2 hn2 hd2)
                    | (go_at_call 12; refine (same_true _ HR12.out HD1.out HR2'.out HD2.out HLA.out rfl).mono ?_; rintro e v3 ⟨rfl, ⟨m3, rfl⟩⟩; have HU3 := Aside0.mk (HU2.out.drewN m3)))
                  all_goals
                    go_wp2_with fail
                    go_meet
                    exact ⟨rfl, by first | exact HU3 | exact ⟨HU3.out.drew⟩ | exact ⟨HU3.out.drewN _⟩⟩
                case rest =>
                  obtain ⟨rfl, HDE⟩ := hcut
                  clear d0 d1 d2 d3 d4 d5 d6 d7 HCR HCT HD4 HK0 HOC
                  have HG3 := Aside0.mk (fun W (hW : Duo b mb g B mk L L true true st st w W) => (show W.cell? ⟨g, 3, none⟩ = some (.int .i64 st) from by obtain ⟨_, _, k⟩ := hW.t; exact k.c3))
                  have HST := Aside0.mk (fun W (hW : Duo b mb g B mk L L true true st st w W) => steps_r hW)
                  go_upto_region 27 with fail
                  go_cut [110] (fun cv wx => cv = .bool false ∧ Aside0 (Duo b mb g B mk L L true true st st w wx))
                  case first =>
                    go_region_held3 (fun W => W.cell? ⟨g, 3, none⟩ = some (.int .i64 st)) (first | exact HG3.out _ HDE.out | exact HG3.out _ HDE.out.drew | exact HG3.out _ (HDE.out.drewN _)) (first | (go_at_call 18; refine (HST.out _ (by first | exact HDE.out | exact HDE.out.drew | exact HDE.out.drewN _)).mono ?_; rintro e v ⟨rfl, rfl⟩))
                    all_goals
                      go_wp2_with fail
                      go_meet
                      exact ⟨rfl, by first | exact HDE | exact ⟨HDE.out.drew⟩ | exact ⟨HDE.out.drewN _⟩⟩
                  case rest =>
                    obtain ⟨rfl, HDZ⟩ := hcut
                    clear HDE
                    go_wp2
                    go_roundw
                    case rel => exact ⟨i + 1, L, true, st, by simp, by omega, by omega, st0, st1, HDZ, HX⟩
                    case measure => simp [intOf]; omega
              · have y1' : (x.f0 == 1) = false := beq_eq_false_iff_ne.2 y1
                clear y1
                by_cases y2 : x.f0 = 2
                · have y2' : (x.f0 == 2) = true := beq_iff_eq.2 y2
                  clear y2
                  go_upto_region 22 with fail
                  obtain ⟨la, hla⟩ : ∃ la, ((srt mk L).filter fun y => y.f1 == x.f1 && trig cb y) = la := ⟨_, rfl⟩
                  have hsl : (srt mk L).length ≤ 60 := Nat.le_trans (Nat.le_of_eq (srt_perm mk L).length_eq) (Nat.le_trans (List.length_filter_le _ _) hL60)
                  have HLA := Aside0.mk (show la.length < 4611686018427387904 from by rw [← hla]; exact Nat.lt_of_le_of_lt (Nat.le_trans (List.length_filter_le _ _) hsl) (by omega))
                  have HCR := Aside0.mk (fun W (hW : Duo b mb g B mk L L s s st st w W) => for_r (W := W) (s1 := s) (s2 := s) (L1 := L) (L2 := L) (t1 := st) (t2 := st) HLI.out hW HL6.out x.f1 cb)
                  have HCT := Aside0.mk (fun W (hW : Duo b mb g B mk L L true s st st w W) => for_t (W := W) (s1 := true) (s2 := s) (L1 := L) (L2 := L) (t1 := st) (t2 := st) HLI.out hW HL6.out HU.out HX.out x.f1 cb HXB.out.1 HXB.out.2)
                  rw [hla] at HCR HCT
                  clear hla hsl
                  go_cut [90] (fun cv wx => cv = .bool false ∧ Aside0 (Duo b mb g B mk L L true true st st w wx))
                  case first =>
                    go_region_held3 (fun W => W.cell? ⟨o, 1, none⟩ = some (.int .i64 x.f1) ∧ W.cell? ⟨o, 2, none⟩ = some (.int .u8 cb)) (first | exact ⟨(HOC.out _ HK2.out).2.1, (HOC.out _ HK2.out).2.2.1⟩ | exact ⟨(HOC.out _ HK1.out).2.1, (HOC.out _ HK1.out).2.2.1⟩ | exact ⟨(HOC.out _ HK0.out).2.1, (HOC.out _ HK0.out).2.2.1⟩)
                      (first
                      | (go_at_call 19; refine (HCR.out _ (by first | exact HD4.out | exact HD4.out.drew | exact HD4.out.drewN _)).mono ?_; rintro e v1 hq; obtain ⟨B1, e1, rfl, hd1, hr1, hn1⟩ := hq.row; have HU1 := Aside0.mk hq.two; have HR1' := Aside0.mk hr1; have HN1 := Aside0.mk hn1; have HD1 := Aside0.mk hd1; have HK1 := Aside0.mk (hq.kept o _ HBO.out HK0.out); clear hq hr1 hn1 hd1)
                      | (go_at_call 24; refine (HCT.out _ HU1.out).mono ?_; rintro e v2 hq; obtain ⟨B2, e2, rfl, hd2, hr2, hn2⟩ := hq.row; have HU2 := Aside0.mk hq.two; have HR2' := Aside0.mk hr2; have HD2 := Aside0.mk hd2; have HR12 := Aside0.mk (row_on HLI.out HR1'.out HN1.out hq.only); have HK2 := Aside0.mk (hq.kept o _ HBO.out HK1.out); clear hq hr2 hn2 hd2)
                      | (go_at_call 12; refine (same_true _ HR12.out HD1.out HR2'.out HD2.out HLA.out rfl).mono ?_; rintro e v3 ⟨rfl, ⟨m3, rfl⟩⟩; have HU3 := Aside0.mk (HU2.out.drewN m3)))
                    all_goals
                      go_wp2_with fail
                      go_meet
                      exact ⟨rfl, by first | exact HU3 | exact ⟨HU3.out.drew⟩ | exact ⟨HU3.out.drewN _⟩⟩
                  case rest =>
                    obtain ⟨rfl, HDE⟩ := hcut
                    clear d0 d1 d2 d3 d4 d5 d6 d7 HCR HCT HD4 HK0 HOC
                    have HG3 := Aside0.mk (fun W (hW : Duo b mb g B mk L L true true st st w W) => (show W.cell? ⟨g, 3, none⟩ = some (.int .i64 st) from by obtain ⟨_, _, k⟩ := hW.t; exact k.c3))
                    have HST := Aside0.mk (fun W (hW : Duo b mb g B mk L L true true st st w W) => steps_r hW)
                    go_upto_region 27 with fail
                    go_cut [110] (fun cv wx => cv = .bool false ∧ Aside0 (Duo b mb g B mk L L true true st st w wx))
                    case first =>
                      go_region_held3 (fun W => W.cell? ⟨g, 3, none⟩ = some (.int .i64 st)) (first | exact HG3.out _ HDE.out | exact HG3.out _ HDE.out.drew | exact HG3.out _ (HDE.out.drewN _)) (first | (go_at_call 18; refine (HST.out _ (by first | exact HDE.out | exact HDE.out.drew | exact HDE.out.drewN _)).mono ?_; rintro e v ⟨rfl, rfl⟩))
                      all_goals
                        go_wp2_with fail
                        go_meet
                        exact ⟨rfl, by first | exact HDE | exact ⟨HDE.out.drew⟩ | exact ⟨HDE.out.drewN _⟩⟩
                    case rest =>
                      obtain ⟨rfl, HDZ⟩ := hcut
                      clear HDE
                      go_wp2
                      go_roundw
                      case rel => exact ⟨i + 1, L, true, st, by simp, by omega, by omega, st0, st1, HDZ, HX⟩
                      case measure => simp [intOf]; omega
                · have y2' : (x.f0 == 2) = false := beq_eq_false_iff_ne.2 y2
                  clear y2
                  by_cases y3 : x.f0 = 3
                  · have y3' : (x.f0 == 3) = true := beq_iff_eq.2 y3
                    clear y3
                    go_upto_region 25 with fail
                    have HCR := Aside0.mk (fun W (hW : Duo b mb g B mk L L s s st st w W) => has_r (W := W) (s1 := s) (s2 := s) (L1 := L) (L2 := L) (t1 := st) (t2 := st) HLI.out hW HL6.out x.f3.f0)
                    have HCT := Aside0.mk (fun W (hW : Duo b mb g B mk L L true s st st w W) => has_t (W := W) (s1 := true) (s2 := s) (L1 := L) (L2 := L) (t1 := st) (t2 := st) HLI.out hW HL6.out HU.out x.f3.f0)
                    obtain ⟨kb, hkb⟩ : ∃ kb, decide (0 < ((srt mk L).filter fun y => y.f0.toList == x.f3.f0.toList).length) = kb := ⟨_, rfl⟩
                    rw [hkb] at HCR HCT
                    clear hkb
                    go_cut [103] (fun cv wx => cv = .bool false ∧ Aside0 (Duo b mb g B mk L L true true st st w wx))
                    case first =>
                      go_region_held3 (fun W => W.cell? ⟨o, 3, none⟩ = some (.string x.f3.f0)) (first | exact (HOC.out _ HK2.out).2.2.2.1 | exact (HOC.out _ HK1.out).2.2.2.1 | exact (HOC.out _ HK0.out).2.2.2.1)
                        (first
                        | (go_at_call 20; refine (HCR.out _ (by first | exact HD4.out | exact HD4.out.drew | exact HD4.out.drewN _)).mono ?_; rintro e v1 hq; obtain rfl := hq.ret; have HU1 := Aside0.mk hq.two; have HK1 := Aside0.mk (hq.kept o _ HBO.out HK0.out); clear hq)
                        | (go_at_call 25; refine (HCT.out _ HU1.out).mono ?_; rintro e v2 hq; obtain rfl := hq.ret; have HU2 := Aside0.mk hq.two; have HK2 := Aside0.mk (hq.kept o _ HBO.out HK1.out); clear hq))
                      all_goals
                        go_wp2_with fail
                        go_meet
                        exact ⟨rfl, by first | exact HU2 | exact ⟨HU2.out.drew⟩ | exact ⟨HU2.out.drewN _⟩⟩
                    case rest =>
                      obtain ⟨rfl, HDE⟩ := hcut
                      clear d0 d1 d2 d3 d4 d5 d6 d7 HCR HCT HD4 HK0 HOC
                      have HG3 := Aside0.mk (fun W (hW : Duo b mb g B mk L L true true st st w W) => (show W.cell? ⟨g, 3, none⟩ = some (.int .i64 st) from by obtain ⟨_, _, k⟩ := hW.t; exact k.c3))
                      have HST := Aside0.mk (fun W (hW : Duo b mb g B mk L L true true st st w W) => steps_r hW)
                      go_upto_region 27 with fail
                      go_cut [110] (fun cv wx => cv = .bool false ∧ Aside0 (Duo b mb g B mk L L true true st st w wx))
                      case first =>
                        go_region_held3 (fun W => W.cell? ⟨g, 3, none⟩ = some (.int .i64 st)) (first | exact HG3.out _ HDE.out | exact HG3.out _ HDE.out.drew | exact HG3.out _ (HDE.out.drewN _)) (first | (go_at_call 18; refine (HST.out _ (by first | exact HDE.out | exact HDE.out.drew | exact HDE.out.drewN _)).mono ?_; rintro e v ⟨rfl, rfl⟩))
                        all_goals
                          go_wp2_with fail
                          go_meet
                          exact ⟨rfl, by first | exact HDE | exact ⟨HDE.out.drew⟩ | exact ⟨HDE.out.drewN _⟩⟩
                      case rest =>
                        obtain ⟨rfl, HDZ⟩ := hcut
                        clear HDE
                        go_wp2
                        go_roundw
                        case rel => exact ⟨i + 1, L, true, st, by simp, by omega, by omega, st0, st1, HDZ, HX⟩
                        case measure => simp [intOf]; omega
                  · have y3' : (x.f0 == 3) = false := beq_eq_false_iff_ne.2 y3
                    clear y3
                    have HSI := Aside0.mk (stp_in (n := x.f1) st0 st1)
                    go_wp2_with fail
                    refine (step_r HLI.out HD4.out st0 st1 x.f1).mono ?_
                    rintro e v1 hq
                    obtain rfl := hq.ret
                    have HU1 := Aside0.mk hq.two
                    have HK1 := Aside0.mk (hq.kept o _ HBO.out HK0.out)
                    obtain ⟨-, f1, -⟩ := HOC.out v1 HK1.out
                    clear hq d0 d1 d2 d3 d4 d5 d6 d7 HD4 HK0
                    go_wp2_with fail
                    refine (step_t HLI.out HU1.out st0 st1 x.f1).mono ?_
                    rintro e v2 hq
                    obtain rfl := hq.ret
                    have HDE := Aside0.mk hq.two
                    clear hq HU1 HK1 f1 HOC
                    obtain ⟨st', hst⟩ : ∃ st', stp st x.f1 = st' := ⟨_, rfl⟩
                    rw [hst] at HDE HSI
                    clear hst
                    have HG3 := Aside0.mk (fun W (hW : Duo b mb g B mk L L s s st' st' w W) => (show W.cell? ⟨g, 3, none⟩ = some (.int .i64 st') from by obtain ⟨_, _, k⟩ := hW.t; exact k.c3))
                    have HST := Aside0.mk (fun W (hW : Duo b mb g B mk L L s s st' st' w W) => steps_r hW)
                    go_upto_region 27 with fail
                    go_cut [110] (fun cv wx => cv = .bool false ∧ Aside0 (Duo b mb g B mk L L s s st' st' w wx))
                    case first =>
                      go_region_held3 (fun W => W.cell? ⟨g, 3, none⟩ = some (.int .i64 st')) (first | exact HG3.out _ HDE.out | exact HG3.out _ HDE.out.drew | exact HG3.out _ (HDE.out.drewN _)) (first | (go_at_call 18; refine (HST.out _ (by first | exact HDE.out | exact HDE.out.drew | exact HDE.out.drewN _)).mono ?_; rintro e v ⟨rfl, rfl⟩))
                      all_goals
                        go_wp2_with fail
                        go_meet
                        exact ⟨rfl, by first | exact HDE | exact ⟨HDE.out.drew⟩ | exact ⟨HDE.out.drewN _⟩⟩
                    case rest =>
                      obtain ⟨rfl, HDZ⟩ := hcut
                      clear HDE
                      go_wp2
                      go_roundw
                      case rel => exact ⟨i + 1, L, s, st', by simp, by omega, by omega, HSI.out.1, HSI.out.2, HDZ, HX⟩
                      case measure => simp [intOf]; omega
      · have q1 : decide ((i : Int) < (l1.length : Int)) = false := decide_eq_false (by omega)
        have HB := Aside0.mk HD.out.bel
        clear HD
        go_wp2
        go_ret
        exact ⟨rfl, HB.out⟩
end Go.Proofs.Ytfhgdjajifnfiaa.PA

namespace Go.Proofs.Ytfhgdjajifnfiaa.Pure
open Go.RowKit
theorem RegistryPlays : ∀ (a0 : Int) (l1 : List PA.S46), (Lit.int .i64 a0).wf = true → PA.incipitlaw07_RegistryPlays.f a0 l1 = some true := fun _ _ _ => rfl
end Go.Proofs.Ytfhgdjajifnfiaa.Pure

namespace Go.Proofs.Ytfhgdjajifnfiaa.registryPlays
open Go.ChangeShapes Go.WideShapes Go.ChangeAt Go.RowKit Go.Proofs.YtfhgdjajifnfiaaW.PrintWords Go.Proofs.Ytfhgdjajifnfiaa.RowU8
open Go.ChangeMaps (open_string shut_string)
set_option linter.unusedVariables false
set_option maxRecDepth 100000 in
theorem contract (H : Type) (enc : TypeId × Value → H) (W : World) (base : Nat) (args : Array Value) (ds gs : List (DataW H)) (before : List MemPlace)
    (hval0 : ∀ (j : Nat) t v, Try.f8.params[j]? = some t → args[j]? = some v → Value.okWide Try.prog W .any base t v)
    (hW : DataW.Whole enc Try.prog Try.f8.params.toList Rows.registryPlaysSpec.vars false W args.toList ds gs before) (hsz0 : (DataW.weightsEach Try.prog (Try.f8.params.toList ++ (OpenSpec.ofChange Rows.registryPlaysSpec).bare.plain.varTypes Try.prog) (ds ++ gs)).all (· ≤ reachBytes) = true) :
    Calls Try.prog 8 args W fun e W' => ∃ v, e = .returned v ∧ Rows.registryPlaysSpec.post enc Try.prog Try.f8 false true false false W args v W' := by
  have hsz : (DataW.weightsEach Try.prog (Try.f8.params.toList ++ Rows.registryPlaysSpec.plain.varTypes Try.prog) (ds ++ gs)).all (· ≤ reachBytes) = true := hsz0
  have hval : ∀ (j : Nat) t v, Try.f8.params[j]? = some t → args[j]? = some v → Value.okWide Try.prog W .any base t v := hval0
  have hW' := hW
  obtain ⟨p, q, hA0, hV, rfl, hfz, hnd⟩ := hW
  have hA : DataW.TrodAll enc Try.prog W 0 (fun _ => true) true Try.f8.params.toList args.toList ds p := hA0
  rw [Try.params8] at hA hval hsz
  obtain ⟨v0, vs0, d0, ds0, p0, q0, hargs, rfl, rfl, h0, r0⟩ := trodAll_cons hA
  obtain ⟨v1, vs1, d1, ds1, p1, q1, rfl, rfl, rfl, h1, r1⟩ := trodAll_cons r0
  obtain ⟨rfl, rfl, rfl⟩ := trodAll_nil r1
  obtain rfl : args = #[v0, v1] := by cases args; simp_all
  obtain ⟨rfl, rfl⟩ := trodVars_none hV
  obtain ⟨a0, rfl, rfl, rfl, w0⟩ := open_int Try.underlying3 (hval 0 3 v0 rfl rfl) h0
  obtain ⟨a1, len1, cap1, rfl⟩ := okWide_slice Try.underlying42 (hval 1 42 v1 rfl rfl)
  have k1 := h1
  have lt1 : ∀ x ∈ p1, x.block < W.heap.size := by obtain ⟨m, hm⟩ := k1; exact DataW.trod_lt m _ _ _ hm
  obtain ⟨l1, rfl, hc1, hr1⟩ : ∃ l : List PA.S46, len1 = l.length ∧ l.length ≤ cap1 ∧ Kd.C PA.k46 W a1 l.length l := by
    obtain ⟨fuel, hf⟩ := h1
    exact ops_row hf
  clear hA0 hval0 hsz0 hsz
  have hp := Pure.RegistryPlays a0 l1 w0
  refine (PA.incipitlaw07_RegistryPlays.calls a0 _ _ l1 true W hr1 hc1 hp).mono ?_
  rintro e W' ⟨rfl, bel⟩
  exact ⟨_, rfl, _, _, _, [], _, [], hW', trodAll_mk1 (shut_bool Try.underlying4 _), (trodAll_cons_mk (shut_int Try.underlying3 w0) (trodAll_cons_mk (Below.trod laidOut (by kernel_rfl) (of_decide_eq_true (by kernel_rfl)) k1 bel lt1) trodAll_mk0)), rfl, bel.frame _, fun h => by cases h⟩
theorem laid_met (os : Os) : laidMet Try.prog Rows.registryPlaysRow.laid ((laidWorld os).forCall (fun _ _ => 0) ⟨#[], #[.int .i64 0, .slice none 0 0], []⟩).memory :=
  laidMet_of_run' 8 (by kernel_rfl) (by kernel_rfl)
theorem reads (os : Os) {H : Type} (enc : TypeId × Value → H) : ∃ places, DataW.whole enc Try.prog ((laidWorld os).forCall (fun _ _ => 0) ⟨#[], #[.int .i64 0, .slice none 0 0], []⟩).memory Try.f8.params.toList Rows.registryPlaysSpec.vars false (#[.int .i64 0, .slice none 0 0] : Array Value).toList 8 = some ([.lit (.int .i64 0), .nil], [], places) :=
  ⟨[], by kernel_rfl⟩
set_option maxRecDepth 100000 in
theorem lifted (os : Os) (started : os.Started) (H : Type) (enc : TypeId × Value → H) (F : Stop.Interp) :
    ReturnsInHanded {} Try.checked os 8 .any ((OpenSpec.ofChange Rows.registryPlaysSpec).preRow enc Try.prog Try.f8 Rows.registryPlaysRow.domain false Rows.registryPlaysRow.laid) (((OpenSpec.ofChange Rows.registryPlaysSpec).at F).post enc Try.prog Try.f8 false true false false) := by
  obtain ⟨places, hx⟩ := reads os enc
  refine returnsInHanded_of_row (C := Try.checked) (s := OpenSpec.ofChange Rows.registryPlaysSpec) own started (by kernel_rfl) Try.func8
    (witness_row_at (enc := enc) (C := Try.checked) false (laidWorld os) #[.int .i64 0, .slice none 0 0] rfl (by kernel_rfl) (by kernel_rfl) (by kernel_rfl)
      (OpenSpec.preRow_of_cond 8 hx (by kernel_rfl) (fun k hk => by cases hk) (by kernel_rfl) (laid_met os))) ?_
  intro W base args ds gs before hval hW _ _ hsz hL hSh _
  exact contract H enc W base args ds gs before hval hW hsz
theorem said : Rows.RegistryPlaysSaid :=
  OpenClaim.holds_of_cond 8 Try.f8 rfl rfl rfl rfl rfl rfl rfl ⟨rfl, rfl, rfl, rfl, rfl⟩ rfl rfl rfl rfl rfl (by kernel_rfl) Try.func8 (by kernel_rfl)
    (of_decide_eq_true (by kernel_rfl)) (by unfold Func.isWrapper; first | (rw [if_pos (by decide +kernel)]; kernel_rfl) | (rw [if_neg (by decide +kernel)]; exact ⟨rfl, rfl⟩))
    (fun os started H enc _ F => by rw [OpenClaim.pre_eq_preRow]; exact lifted os started H enc F)
end Go.Proofs.Ytfhgdjajifnfiaa.registryPlays
namespace Go.Proofs.Ytfhgdjajifnfiaa
/-- The statement, under a short name, for the claim. -/
theorem registryPlays_holds : Rows.RegistryPlaysSaid := registryPlays.said
end Go.Proofs.Ytfhgdjajifnfiaa
