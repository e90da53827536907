/-
  Texts of the proof of RegistryOrder, part 5 of 6: contracts and plain laws. Conditions: see each statement.
-/
import Derived.Test.YtfhgdjajifnfiaaSRegistryOrder4
import Derived.Deep.DeepCutAuto
import Derived.Deep.RegionHeld3
import Derived.IntWalk
set_option linter.unusedVariables false
namespace Go.Proofs.Ytfhgdjajifnfiaa.PA
open Go.RowKit Go.Maps Go.ChangeMaps Go.WideShapes Go.WideMaps Go.MuLone Go.Conc.Locks Go.Sort Go.Proofs.YtfhgdjajifnfiaaW.PrintWords Go.Proofs.YtfhgdjajifnfiaaW.PrintLast Go.Proofs.YtfhgdjajifnfiaaW.PrintMore
set_option linter.unusedVariables false

theorem ord_drop {w4 w5 : World} {ad : Addr} {M : List S27} {pp c : Nat} {adr : Option Addr} (hC : k27.C w4 (some ad) M.length M) (hg : (w4.alloc (.cells #[] 27)).drew.grownBy w5 (Value.slice (some ⟨w4.heap.size, 0, none⟩) 0 0).ownBlock) (hlt : ad.block < w4.heap.size) (hp : pp < M.length) (hc : M.length ≤ c) (ha : (if c = pp + 1 then some ad else some (ad.add ((pp + 1) * 5))) = adr) :
    ReadsRow (k27.K w5) k27.sz w5 adr (M.length - (pp + 1)) (M.drop (pp + 1)) := by
  have hrow : Row w5 (some ad) M := Row.keep (w := w4) hC fun a e => by
    cases e
    refine (hg.block ad.block (Nat.lt_of_lt_of_le hlt (by simp)) fun e => ?_).trans (Below.heap_alloc _ _ _ hlt)
    have e2 : some ad.block = some w4.heap.size := e
    injection e2 with e2
    omega
  have h1 := Kd.C_drop (c := c) (m := pp + 1) hrow hp hc
  rw [List.length_drop] at h1
  have e : (if c = pp + 1 then some ad else (some ad).map (·.add ((pp + 1) * k27.sz))) = adr := ha
  rw [e] at h1
  exact h1
def lenOf : Value → Nat
  | .slice _ n _ => n
  | _ => 0
def incipitlaw07_RegistryOrder.f (a0 : Int) (l1 : List S27) (l2 : List Int) (a3 : Int) : Option Bool := some true
set_option maxHeartbeats 8000000 in
set_option maxRecDepth 100000 in
theorem incipitlaw07_RegistryOrder.calls (a0 : Int) (A1 : Option Addr) (c1 : Nat) (l1 : List S27) (A2 : Option Addr) (c2 : Nat) (l2 : List Int) (a3 : Int) (r : Bool) (w : World) (hr1 : Kd.C k27 w A1 l1.length l1) (hc1 : l1.length ≤ c1) (hr2 : Kd.C (Kd.int .i64) w A2 l2.length l2) (hc2 : l2.length ≤ c2) (h : incipitlaw07_RegistryOrder.f a0 l1 l2 a3 = some r) :
    Calls Try.prog 6 #[.int .i64 a0, .slice A1 l1.length c1, .slice A2 l2.length c2, .int .u8 a3] w fun e w' => e = .returned (.bool r) ∧ Below w.heap.size w w' := by
  obtain rfl : true = r := Option.some.inj h
  clear h
  have HA := Aside0.mk (awake_calls w)
  have HR1 := Aside0.mk hr1
  have HC1 := Aside0.mk hc1
  have HRp := Aside0.mk hr2
  have HCp := Aside0.mk hc2
  clear hr1 hc1 hr2 hc2
  go_enter Try.func6, Try.ntmps6
  go_wp2_with fail
  refine HA.out.mono ?_
  rintro e w1 ⟨rfl, hb1⟩
  have HB1 := Aside0.mk hb1
  clear hb1 HA
  by_cases hl : (l1.length : Int) > 40
  · have q : decide ((40 : Int) < (l1.length : Int)) = true := decide_eq_true hl
    go_wp2
    go_ret
    exact ⟨rfl, HB1.out⟩
  · have q : decide ((40 : Int) < (l1.length : Int)) = false := decide_eq_false hl
    go_wp2_with fail
    refine (new_calls' a0 w1).mono ?_
    rintro e w2 ⟨rfl, hr2, hb2⟩
    have hl2 := hr2.lt
    have HR2 := Aside0.mk hr2
    have HB2 := Aside0.mk (below_step HB1.out hb2)
    clear hr2 hb2
    go_wp2_with fail
    refine (new_calls' a0 w2).mono ?_
    rintro e w3 ⟨rfl, hr3, hb3⟩
    have hw1 : w.heap.size ≤ w1.heap.size := HB1.out.size
    have hl3 := hr3.lt
    have HR3 := Aside0.mk hr3
    have HB3 := Aside0.mk (below_step HB2.out hb3)
    have HR2' := Aside0.mk (HR2.out.keep_only (Below.only (F := fun j => w2.heap.size ≤ j) hb3 (fun j hj _ => hj)) (fun j hj hj2 => HR2.out.own_lt j hj hj2))
    obtain ⟨b, hb⟩ : ∃ b, w1.heap.size + 1 = b := ⟨_, rfl⟩
    obtain ⟨b2, hb2'⟩ : ∃ b, w2.heap.size + 1 = b := ⟨_, rfl⟩
    obtain ⟨mb, hmb⟩ : ∃ b, w1.heap.size = b := ⟨_, rfl⟩
    obtain ⟨mb2, hmb2⟩ : ∃ b, w2.heap.size = b := ⟨_, rfl⟩
    obtain ⟨B3, hB3⟩ : ∃ b, w3.heap.size = b := ⟨_, rfl⟩
    obtain ⟨mk, hmk⟩ : ∃ m, bits .and .i64 a0 127 = m := ⟨_, rfl⟩
    rw [hb, hmb, hmk] at HR2'
    rw [hb2', hmb2, hmk] at HR3
    rw [hb2'] at hl3
    rw [hb, hb2']
    have g1 : w.heap.size ≤ mb := by omega
    have g2 : mb < b := by omega
    have g3 : b < mb2 := by omega
    have g4 : mb2 < b2 := by omega
    have g5 : b2 < B3 := by omega
    have g6 : B3 ≤ w3.heap.size := by omega
    clear hr3 hb3 HB1 HB2 HR2 hl2 hw1 hb hb2' hmb hmb2 hB3 hl3 hmk
    go_wp2_with fail
    go_loopw [12, 13] (fun v12 v13 wr => ∃ (i : Nat) (L : List S27), v13 = .int .i64 (i : Int) ∧ i ≤ l1.length ∧ L.length ≤ i ∧ Aside0 (∀ x ∈ L, x.f0.toList.isEmpty = false) ∧ Aside0 (RegS b mb none mk L false 0 wr) ∧ Aside0 (RegS b2 mb2 none mk [] false 0 wr) ∧ Aside0 (Below w.heap.size w wr) ∧ Aside0 (k27.R 27 wr B3 (fun k => B3 ≤ k) v12 L) ∧ B3 ≤ wr.heap.size) (fun _ v13 _ => l1.length - (intOf v13).toNat)
    case atStart => exact ⟨0, [], rfl, by omega, by simp, ⟨by simp⟩, HR2', HR3, HB3, ⟨Kd.R_nil _ _ _ _ _⟩, g6⟩
    case round =>
      clear HR2' HR3 HB3 g6
      obtain ⟨i, L, rfl, hi, hLi, HX, HR, HT, HB, HO, g6⟩ := hrel
      by_cases hlt : i < l1.length
      · have q1 : decide ((i : Int) < (l1.length : Int)) = true := decide_eq_true (by omega)
        have p0 : 0 ≤ (i : Int) := by omega
        have p1 : (i : Int) < (l1.length : Int) := by omega
        obtain ⟨ad, e1, x0, x1, x2, x3, x4⟩ := at_T27 (Kd.C_below HR1.out HB.out) (i : Int) p0 p1
        cases e1
        obtain ⟨h, hh⟩ : ∃ h, rd_T27 l1 (i : Int) = h := ⟨_, rfl⟩
        have HHH := Aside0.mk hh
        rw [hh] at x0 x1 x2 x3 x4
        simp only [Int.toNat_natCast] at x0 x1 x2 x3 x4
        clear hh
        replace p0 := eq_true p0
        replace p1 := eq_true p1
        by_cases k0 : (h.f0.size : Int) > 300
        · have q2 : decide ((300 : Int) < (h.f0.size : Int)) = true := decide_eq_true k0
          go_wp2
          go_ret
          exact ⟨rfl, HB.out⟩
        · have q2 : decide ((300 : Int) < (h.f0.size : Int)) = false := decide_eq_false k0
          by_cases k3 : (h.f3.size : Int) > 300
          · have q3 : decide ((300 : Int) < (h.f3.size : Int)) = true := decide_eq_true k3
            go_wp2
            go_ret
            exact ⟨rfl, HB.out⟩
          · have q3 : decide ((300 : Int) < (h.f3.size : Int)) = false := decide_eq_false k3
            have HA1 := Aside0.mk (add_calls' h wr HR.out (by unfold maxLen; omega) (by unfold maxLen; omega))
            go_wp2_with fail
            refine HA1.out.mono ?_
            rintro e w4 ⟨rfl, hr4, ho4⟩
            have HT4 := Aside0.mk (HT.out.apart ho4 (by omega) (by omega) (by omega) (by omega) (fun a ha => by cases ha))
            have HB4 := Aside0.mk (Only.bel3 HB.out ho4 (by omega) (by omega) (Nat.le_refl _))
            have HO4 := Aside0.mk (R_only HO.out ho4 (fun j hj => by rcases hj with rfl | rfl | ⟨_, x, _⟩; omega; omega; cases x))
            have g7 : B3 ≤ w4.heap.size := Nat.le_trans g6 ho4.size
            obtain ⟨ad', e1', x0', x1', x2', x3', x4'⟩ := at_T27 (Kd.C_below HR1.out HB4.out) (i : Int) (by omega) (by omega)
            cases e1'
            rw [HHH.out] at x0' x1' x2' x3' x4'
            simp only [Int.toNat_natCast] at x0' x1' x2' x3' x4'
            have HR4 := Aside0.mk hr4
            have hLl : L.length ≤ 40 := by omega
            have HLL := Aside0.mk hLl
            clear hr4 ho4 HR HB HT HO HA1 x0 x1 x2 x3 x4 hLl
            cases hk : addOk L h with
            | false =>
              rw [hk] at HR4
              clear x0' x1' x2' x3' x4'
              go_wp2
              go_roundw
              case rel => exact ⟨i + 1, L, by simp, by omega, by omega, HX, HR4, HT4, HB4, HO4, g7⟩
              case measure => simp [intOf]; omega
            | true =>
              rw [hk, if_pos rfl] at HR4
              have HX5 := Aside0.mk (show ∀ x ∈ L ++ [h], x.f0.toList.isEmpty = false from fun x hx => by
                rcases List.mem_append.1 hx with hx | hx
                · exact HX.out x hx
                · rw [List.mem_singleton.1 hx]
                  unfold addOk at hk
                  cases hE : h.f0.toList.isEmpty with
                  | false => rfl
                  | true => rw [hE] at hk; cases hk)
              clear hk
              go_wp2_with (((with_reducible refine gate_builtin (b := .append) (xs := #[.tmp 55, .tmp 60]) rfl ?_); at_builtin; refine Kd.R_append k27 (w0 := w4) B3 rfl (.tmp 55) (.tmp 60) 23 27 (.agg #[(.string ⟨#[]⟩), (.int .i64 0), (.int .i64 0), (.string ⟨#[]⟩), (.int .i64 0)]) 56 rfl Try.underlying23 info27 rfl (by decide) (by omega) u12 L h (hcs h) (fun k => B3 ≤ k) (fun _ => False) rfl rfl ?aP (fun _ hk => hk.elim) ?aF ?aO ?aB ?aS ?aL ?_; (case aP => exact k27_mkM _ _ _ h); (case aB => exact Below.refl _ _); (case aF => exact (fun k hk => Nat.le_trans g7 hk)); (case aO => exact HO4.out); (case aS => exact g7); (case aL => have := HLL.out; omega); intro v6 w6 ho hb hg hat; have HO6 := Aside0.mk ho; have HW6 := Aside0.mk hb; clear ho hb hg hat))
              have hF : Only (fun j => B3 ≤ j) w4 w6 := Below.only HW6.out (fun j hj _ => hj)
              have HR6 := Aside0.mk (HR4.out.keep_only hF (fun j hj hj2 => by have h2 : B3 ≤ j := hj2; rcases hj with rfl | rfl | ⟨_, x, _⟩; omega; omega; cases x))
              have HT6 := Aside0.mk (HT4.out.keep_only hF (fun j hj hj2 => by have h2 : B3 ≤ j := hj2; rcases hj with rfl | rfl | ⟨_, x, _⟩; omega; omega; cases x))
              have HB6 := Aside0.mk (HB4.out.trans (HW6.out.mono (by omega)))
              have g8 : B3 ≤ w6.heap.size := Nat.le_trans g7 HW6.out.size
              clear hF x0' x1' x2' x3' x4' HR4 HT4 HB4 HO4 HW6 HX
              go_wp2
              go_roundw
              case rel => exact ⟨i + 1, L ++ [h], by simp, by omega, by rw [List.length_append, List.length_singleton]; omega, HX5, HR6, HT6, HB6, HO6, g8⟩
              case measure => simp [intOf]; omega
      · have q1 : decide ((i : Int) < (l1.length : Int)) = false := decide_eq_false (by omega)
        have hie : l1.length = i := by omega
        have HIE := Aside0.mk hie
        have hu := HR.out.uq
        have HU := Aside0.mk hu
        have hLl : L.length ≤ 40 := by omega
        obtain ⟨n12, c12, hv12, hc12⟩ : ∃ A c, u12 = .slice A L.length c ∧ L.length ≤ c := by
          obtain ⟨A, c, h1, h2, _⟩ := Kd.R_reads HO.out
          exact ⟨A, c, h1, h2⟩
        subst hv12
        clear hie hu
        go_wp2_with fail
        go_loopw [12, 14, 15] (fun v12 v14 v15 wq => ∃ (i : Nat) (A : Option Addr) (c : Nat) (Lt M : List S27), v12 = .slice A M.length c ∧ M.length ≤ c ∧ v14 = .int .i64 (i : Int) ∧ i + M.length ≤ 40 ∧ Aside0 ((Lt ++ M).Perm L) ∧ Aside0 (RegS b mb none mk L false 0 wq) ∧ Aside0 (RegS b2 mb2 none mk Lt false 0 wq) ∧ Aside0 (Below w.heap.size w wq) ∧ Aside0 (k27.R 27 wq B3 (fun k => B3 ≤ k) v12 M) ∧ B3 ≤ wq.heap.size) (fun v12 _ _ _ => lenOf v12)
        case atStart => exact ⟨0, n12, c12, [], L, rfl, hc12, rfl, by omega, ⟨List.Perm.refl _⟩, HR, HT, HB, HO, g6⟩
        case round =>
          clear HR HT HB HO g6 hc12
          obtain ⟨j, A, c, Lt, M, rfl, hc, rfl, hjM, HP, HR, HT, HB, HO, g6⟩ := hrel
          by_cases hM : 0 < M.length
          · have q2 : decide (0 < (M.length : Int)) = true := decide_eq_true (by omega)
            have q2' : decide (0 < M.length) = true := decide_eq_true hM
            have q3 : ((M.length : Int) == 0) = false := beq_eq_false_iff_ne.2 (by omega)
            go_upto_if 70 with fail
            go_cut [15] (fun cv wx => ∃ p : Nat, cv = .int .i64 (p : Int) ∧ p < M.length ∧ wx = wr)
            case first =>
              by_cases hjp : j < l2.length
              · have z1 : decide ((j : Int) < (l2.length : Int)) = true := decide_eq_true (by omega)
                have p0 : 0 ≤ (j : Int) := by omega
                have p1 : (j : Int) < (l2.length : Int) := by omega
                have hrow := Kd.C_below HRp.out HB.out
                obtain ⟨ad, cc, e1, _, hK, hcell⟩ := Kd.C_get hrow 0 (j : Int) p0 p1
                cases e1
                obtain ⟨x, hx⟩ : ∃ x, l2.getD j 0 = x := ⟨_, rfl⟩
                have hK2 : cc = [.int .i64 x] := by
                  have h2 : cc = [.int .i64 (l2.getD (j : Int).toNat 0)] := hK
                  rw [h2, Int.toNat_natCast, hx]
                subst hK2
                have hcl : wr.cell? (ad.add j) = some (.int .i64 x) := by
                  have h3 : wr.cell? (ad.add ((j : Int).toNat * 1 + 0)) = some (.int .i64 x) := hcell 0 _ rfl
                  rwa [show (j : Int).toNat * 1 + 0 = j by omega] at h3
                obtain ⟨k0, k1⟩ := bits_and_le x 65535 (by omega) (by omega)
                obtain ⟨k, hk⟩ : ∃ k, bits .and .i64 x 65535 = k := ⟨_, rfl⟩
                rw [hk] at k0 k1
                have hm1 : 0 ≤ k % (M.length : Int) := Int.emod_nonneg _ (by omega)
                have hm2 : k % (M.length : Int) < (M.length : Int) := Int.emod_lt_of_pos _ (by omega)
                obtain ⟨pp, hpp⟩ : ∃ pp : Nat, k % (M.length : Int) = (pp : Int) := ⟨(k % (M.length : Int)).toNat, by omega⟩
                have HPP := Aside0.mk hpp
                have hpl : pp < M.length := by omega
                clear hK hcell hrow hpp hm1 hm2 hx
                replace p0 := eq_true p0
                replace p1 := eq_true p1
                go_wp2
                go_meet
                exact ⟨pp, by rw [← HPP.out], hpl, rfl⟩
              · have z1 : decide ((j : Int) < (l2.length : Int)) = false := decide_eq_false (by omega)
                go_wp2
                go_meet
                exact ⟨0, rfl, hM, rfl⟩
            case rest =>
              obtain ⟨pp, rfl, hpl, rfl⟩ := hcut
              have p0 : 0 ≤ (pp : Int) := by omega
              have p1 : (pp : Int) < (M.length : Int) := by omega
              obtain ⟨_, _, hCM⟩ := Kd.R_reads' HO.out
              obtain ⟨ad, e1, x0, x1, x2, x3, x4⟩ := at_T27 hCM (pp : Int) p0 p1
              cases e1
              obtain ⟨h, hh⟩ : ∃ h, M[pp] = h := ⟨_, rfl⟩
              rw [rd_get hpl, hh] at x0 x1 x2 x3 x4
              simp only [Int.toNat_natCast] at x0 x1 x2 x3 x4
              have hmem : h ∈ L := HP.out.mem_iff.1 (List.mem_append.2 (.inr (hh ▸ List.getElem_mem hpl)))
              have hlt2 : Lt.length + M.length = L.length := by have := HP.out.length_eq; rwa [List.length_append] at this
              have ha := add_calls' h _ HT.out (HU.out.le h hmem) (by unfold maxLen; omega)
              have hok := addOk_next HU.out HX.out HP.out hpl
              rw [hh] at hok
              rw [hok, if_pos rfl] at ha
              have hpn := perm_next HP.out hpl
              rw [hh] at hpn
              have HAD := Aside0.mk ha
              have hm2 : (M.take pp ++ M.drop (pp + 1)).length + 1 = M.length := by rw [List.length_append, List.length_take, List.length_drop]; omega
              obtain ⟨M2, hMM⟩ : ∃ M2, M.take pp ++ M.drop (pp + 1) = M2 := ⟨_, rfl⟩
              rw [hMM] at hpn hm2
              have HMM := Aside0.mk hMM
              have HPN := Aside0.mk hpn
              clear hMM
              have HM2 := Aside0.mk hm2
              have HLT2 := Aside0.mk hlt2
              have hM40 : M.length ≤ 40 := by omega
              have HW1 := Aside0.mk (show IntKind.i64.wrap ((pp : Int) + 1) = (pp : Int) + 1 from IntWalk.i64_in _ (by omega))
              clear ha hok hpn hh hmem hCM hm2 hlt2
              replace p0 := eq_true p0
              replace p1 := eq_true p1
              go_upto_region 20 with fail
              go_wp2_with fail
              refine HAD.out.mono ?_
              rintro e w4 ⟨rfl, ht4, ho4⟩
              have HT4 := Aside0.mk ht4
              have HR4 := Aside0.mk (HR.out.apart ho4 (by omega) (by omega) (by omega) (by omega) (fun a ha => by cases ha))
              have HB4 := Aside0.mk (Only.bel3 HB.out ho4 (by omega) (by omega) (Nat.le_refl _))
              have HO4 := Aside0.mk (R_only HO.out ho4 (fun j hj => by rcases hj with rfl | rfl | ⟨_, x, _⟩; omega; omega; cases x))
              have g7 : B3 ≤ w4.heap.size := Nat.le_trans g6 ho4.size
              clear ht4 ho4 HT HR HB HO HAD x0 x1 x2 x3 x4 HP
              go_upto_region 22 with fail
              have hE : k27.R 27 (w4.alloc (.cells #[] 27)).drew B3 (fun k => B3 ≤ k) (.slice (some ⟨w4.heap.size, 0, none⟩) 0 0) [] := Kd.R_drew (by
                refine ⟨fun k hk => ?_, [], World.ownsRow_made w4 #[] 0 g7 (Nat.zero_le _) (by simp), Reps.none _ _⟩
                have : k = w4.heap.size := by simpa [Value.ownBlock] using hk.symm
                rw [this]
                exact g7)
              obtain ⟨_, _, hC4⟩ := Kd.R_reads' HO4.out
              have hT0 : ReadsRow (k27.K w4) k27.sz (w4.alloc (.cells #[] 27)).drew (some ad) pp (M.take pp) := by
                have h1 := Kd.C_take hC4 (Nat.le_of_lt hpl)
                have h2 : (M.take pp).length = pp := by rw [List.length_take]; omega
                rw [h2] at h1
                exact ReadsRow.imp_ h1 (below_drew (below_alloc (Below.refl _ _) _)) (fun _ _ hp => hp)
              have HE0 := Aside0.mk hE
              have HT0 := Aside0.mk hT0
              have HC4 := Aside0.mk hC4
              have HB0 := Aside0.mk (show Below B3 w4 (w4.alloc (.cells #[] 27)).drew from (below_drew (below_alloc (Below.refl w4.heap.size w4) _)).mono g7)
              have HS0 := Aside0.mk (show B3 ≤ (w4.alloc (.cells #[] 27)).drew.heap.size from Nat.le_trans g7 (below_drew (below_alloc (Below.refl w4.heap.size w4) (.cells #[] 27))).size)
              have HL0 := Aside0.mk (show (([] : List S27).length + pp) * 56 ≤ 140737488355328 from by simp; omega)
              have HADL := Aside0.mk (show ad.block < w4.heap.size from Kd.R_lt HO4.out ad.block rfl)
              have HL1 := Aside0.mk (show ((M.take pp).length + (M.length - (pp + 1))) * 56 ≤ 140737488355328 from by rw [List.length_take]; omega)
              clear hE hT0 hC4
              have z2 : (pp : Int) ≤ (c : Int) := Int.ofNat_le.2 (Nat.le_trans (Nat.le_of_lt hpl) hc)
              have z3 := eq_true (show (pp : Int) + 1 ≤ (M.length : Int) from Int.ofNat_le.2 hpl)
              have z4 := eq_true (show 0 ≤ (pp : Int) + 1 from Int.ofNat_le.2 (Nat.zero_le (pp + 1)))
              have z1 : IntKind.i64.wrap ((pp : Int) + 1) = (pp : Int) + 1 := HW1.out
              have z5 : ((pp : Int) + 1).toNat = pp + 1 := rfl
              obtain ⟨adr, hadr⟩ : ∃ adr, (if c = pp + 1 then some ad else some (ad.add ((pp + 1) * 5))) = adr := ⟨_, rfl⟩
              have HADR := Aside0.mk hadr
              go_region_law (first | (refine Kd.R_append_rows_step k27 (Rr := k27.K w4) (w0 := w4) (W := (w4.alloc (.cells #[] 27)).drew) B3 (by rfl) (.tmp 86) (.tmp 89) 23 27 (.agg #[(.string ⟨#[]⟩), (.int .i64 0), (.int .i64 0), (.string ⟨#[]⟩), (.int .i64 0)]) 56 (by rfl) Try.underlying23 info27 rfl (by decide) (by omega) (.slice (some ⟨w4.heap.size, 0, none⟩) 0 0) [] (M.take pp) (some ad) pp c (fun k => B3 ≤ k) (fun _ => False) (by rfl) (by rfl) ?aO ?aR ?aK (fun _ hk => hk.elim) ?aF ?aB ?aS ?aL ?_; (case aO => exact HE0.out); (case aR => exact HT0.out); (case aK => exact (fun x cs hx => by rw [k27_open hx]; exact k27_mkM _ _ _ _)); (case aF => exact (fun k hk => Nat.le_trans g7 (Nat.le_trans (by simp) hk))); (case aB => exact HB0.out); (case aS => exact HS0.out); (case aL => exact HL0.out); intro v5 w5 ho5 hb5 hg5 hat5; have HO5 := Aside0.mk ho5; have HB5 := Aside0.mk hb5; have HG5 := Aside0.mk hg5; have HS5 := Aside0.mk (show B3 ≤ w5.heap.size from Nat.le_trans HS0.out hg5.size); clear ho5 hb5 hg5 hat5) | (have HRD := ord_drop (adr := adr) HC4.out HG5.out HADL.out hpl hc HADR.out; refine Kd.R_append_rows_step k27 (Rr := k27.K w5) (w0 := w4) (W := w5) B3 (by rfl) (.tmp 90) (.tmp 94) 23 27 (.agg #[(.string ⟨#[]⟩), (.int .i64 0), (.int .i64 0), (.string ⟨#[]⟩), (.int .i64 0)]) 56 (by rfl) Try.underlying23 info27 rfl (by decide) (by omega) v5 (M.take pp) (M.drop (pp + 1)) adr (M.length - (pp + 1)) (c - (pp + 1)) (fun k => B3 ≤ k) (fun _ => False) (by rfl) (by rfl) ?aO ?aR ?aK (fun _ hk => hk.elim) ?aF ?aB ?aS ?aL ?_; (case aO => exact HO5.out); (case aR => exact HRD); (case aK => exact (fun x cs hx => by rw [k27_open hx]; exact k27_mkM _ _ _ _)); (case aF => exact (fun k hk => Nat.le_trans HS5.out hk)); (case aB => exact HB5.out); (case aS => exact HS5.out); (case aL => exact HL1.out); intro v6 w6 ho6 hb6 hg6 hat6; rw [HMM.out] at ho6; obtain ⟨A', c', rfl⟩ := Kd.R_slice ho6; have HO6 := Aside0.mk ho6; have HB6 := Aside0.mk hb6; clear ho6 hb6 hg6 hat6 HRD))
              all_goals
                clear hadr z1 z2 z3 z4 z5
                have hF : Only (fun j => B3 ≤ j) w4 w6 := Below.only HB6.out (fun j hj _ => by have := g7; omega)
                have HR6 := Aside0.mk (HR4.out.keep_only hF (fun j hj hj2 => by have h2 : B3 ≤ j := hj2; rcases hj with rfl | rfl | ⟨_, x, _⟩; omega; omega; cases x))
                have HT6 := Aside0.mk (HT4.out.keep_only hF (fun j hj hj2 => by have h2 : B3 ≤ j := hj2; rcases hj with rfl | rfl | ⟨_, x, _⟩; omega; omega; cases x))
                have HB7 := Aside0.mk (HB4.out.trans (HB6.out.mono (by omega)))
                have g8 : B3 ≤ w6.heap.size := Nat.le_trans g7 HB6.out.size
                obtain ⟨_, hlc, _⟩ := Kd.R_reads' HO6.out
                have HLC := Aside0.mk hlc
                have hms := HM2.out
                clear hF HR4 HT4 HB4 HO4 HB6 hlc
                go_wp2
                go_roundw
                case rel => exact ⟨j + 1, A', c', Lt ++ [h], M2, rfl, HLC.out, by simp, by omega, HPN, HR6, HT6, HB7, HO6, g8⟩
                case measure => simp [lenOf]; omega
          · have q2 : decide (0 < (M.length : Int)) = false := decide_eq_false (by omega)
            have q2' : decide (0 < M.length) = false := decide_eq_false hM
            have hM0 : M = [] := List.eq_nil_of_length_eq_zero (by omega)
            have hper : Lt.Perm L := by have := HP.out; rwa [hM0, List.append_nil] at this
            have hsame := srt_same (m := mk) HU.out hper
            have HSM := Aside0.mk hsame
            have hLtl : Lt.length ≤ 40 := by rw [hper.length_eq]; exact hLl
            clear hsame hper hM0
            go_wp2_with fail
            have HLIE := Aside0.mk (show Lie b mb b2 mb2 w from ⟨g1, g2, g3, g4⟩)
            have HTW := Aside0.mk (show Two b mb b2 mb2 mk L Lt false false w wr from ⟨⟨none, HR.out, fun a ha => by cases ha⟩, ⟨none, HT.out, fun a ha => by cases ha⟩, HB.out⟩)
            go_loopw [16] (fun v16 wz => ∃ (x : Nat) (sl : Bool), v16 = .int .i64 (x : Int) ∧ x ≤ l1.length ∧ (sl = false → x = 0) ∧ (sl = true → 0 < x) ∧ Aside0 (Two b mb b2 mb2 mk L Lt sl sl w wz)) (fun v16 _ => l1.length - (intOf v16).toNat)
            case atStart => exact ⟨0, false, rfl, by omega, fun _ => rfl, (fun e => by cases e), HTW⟩
            case round =>
              clear HR HT HB HO g6 HP HTW
              obtain ⟨x, sl, rfl, hx, hs0, hs1, HTW⟩ := hrel
              have HB := Aside0.mk HTW.out.bel
              by_cases hxl : x < l1.length
              · have q4 : decide ((x : Int) < (l1.length : Int)) = true := decide_eq_true (by omega)
                have p0 : 0 ≤ (x : Int) := by omega
                have p1 : (x : Int) < (l1.length : Int) := by omega
                obtain ⟨ad, e1, x0, x1, -⟩ := at_T27 (Kd.C_below HR1.out HB.out) (x : Int) p0 p1
                cases e1
                obtain ⟨h, hh⟩ : ∃ h, rd_T27 l1 (x : Int) = h := ⟨_, rfl⟩
                rw [hh] at x0 x1
                simp only [Int.toNat_natCast] at x0 x1
                have HAD := Aside0.mk (show ∀ W, Below w.heap.size w W → W.cell? (ad.add (x * 5)) = some (.string h.f0) ∧ W.cell? ⟨(ad.add (x * 5)).block, (ad.add (x * 5)).off + 1, none⟩ = some (.int .i64 h.f1) from fun W hW => by
                  obtain ⟨ad', e1, y0, y1, -⟩ := at_T27 (Kd.C_below HR1.out hW) (x : Int) p0 p1
                  cases e1
                  rw [hh] at y0 y1
                  simp only [Int.toNat_natCast] at y0 y1
                  exact ⟨y0, y1⟩)
                clear hh
                replace p0 := eq_true p0
                replace p1 := eq_true p1
                go_upto_region 26 with fail
                go_cut [154] (fun cv wx => cv = .bool false ∧ Aside0 (Two b mb b2 mb2 mk L Lt true true w wx))
                case first =>
                  obtain ⟨la, hla⟩ : ∃ la, ((srt mk L).filter fun y => y.f1 == h.f1) = la := ⟨_, rfl⟩
                  obtain ⟨lb, hlb⟩ : ∃ lb, ((srt mk L).filter fun y => y.f1 == h.f1 && trig a3 y) = lb := ⟨_, rfl⟩
                  obtain ⟨kb, hkb⟩ : ∃ kb, decide (0 < ((srt mk L).filter fun y => y.f0.toList == h.f0.toList).length) = kb := ⟨_, rfl⟩
                  have HL4 := Aside0.mk (show L.length ≤ 100000 from by omega)
                  have HT4 := Aside0.mk (show Lt.length ≤ 100000 from by omega)
                  have hsl : (srt mk L).length ≤ 40 := Nat.le_trans (Nat.le_of_eq (srt_perm mk L).length_eq) (Nat.le_trans (List.length_filter_le _ _) hLl)
                  have HLA := Aside0.mk (show la.length < 4611686018427387904 from by rw [← hla]; exact Nat.lt_of_le_of_lt (Nat.le_trans (List.length_filter_le _ _) hsl) (by omega))
                  have HLB := Aside0.mk (show lb.length < 4611686018427387904 from by rw [← hlb]; exact Nat.lt_of_le_of_lt (Nat.le_trans (List.length_filter_le _ _) hsl) (by omega))
                  have CR := Aside0.mk (fun s1 s2 W (hW : Two b mb b2 mb2 mk L Lt s1 s2 w W) => (show Calls Try.prog 16 #[.pointer (some ⟨b, 0, none⟩), .int .i64 h.f1] W (TwoA b mb b2 mb2 mk L Lt true s2 la w W) from by rw [← hla]; exact sorted_r HLIE.out hW HL4.out h.f1))
                  have CT := Aside0.mk (fun s1 s2 W (hW : Two b mb b2 mb2 mk L Lt s1 s2 w W) => (show Calls Try.prog 16 #[.pointer (some ⟨b2, 0, none⟩), .int .i64 h.f1] W (TwoA b mb b2 mb2 mk L Lt s1 true la w W) from by rw [← hla, ← HSM.out]; exact sorted_t HLIE.out hW HT4.out h.f1))
                  have FR := Aside0.mk (fun s1 s2 W (hW : Two b mb b2 mb2 mk L Lt s1 s2 w W) => (show Calls Try.prog 19 #[.pointer (some ⟨b, 0, none⟩), .int .i64 h.f1, .int .u8 a3] W (TwoA b mb b2 mb2 mk L Lt true s2 lb w W) from by rw [← hlb]; exact for_r HLIE.out hW HL4.out h.f1 a3))
                  have FT := Aside0.mk (fun s1 s2 W (hW : Two b mb b2 mb2 mk L Lt s1 s2 w W) => (show Calls Try.prog 19 #[.pointer (some ⟨b2, 0, none⟩), .int .i64 h.f1, .int .u8 a3] W (TwoA b mb b2 mb2 mk L Lt s1 true lb w W) from by rw [← hlb, ← HSM.out]; exact for_t HLIE.out hW HT4.out h.f1 a3))
                  have KR := Aside0.mk (fun s1 s2 W (hW : Two b mb b2 mb2 mk L Lt s1 s2 w W) => (show Calls Try.prog 20 #[.pointer (some ⟨b, 0, none⟩), .string h.f0] W (TwoB b mb b2 mb2 mk L Lt true s2 kb w W) from by rw [← hkb]; exact has_r HLIE.out hW HL4.out h.f0))
                  have KT := Aside0.mk (fun s1 s2 W (hW : Two b mb b2 mb2 mk L Lt s1 s2 w W) => (show Calls Try.prog 20 #[.pointer (some ⟨b2, 0, none⟩), .string h.f0] W (TwoB b mb b2 mb2 mk L Lt s1 true kb w W) from by rw [← hkb, ← HSM.out]; exact has_t HLIE.out hW HT4.out h.f0))
                  clear hla hlb hkb hsl hs0 hs1
                  go_region_held3 (fun W => W.cell? (ad.add (x * 5)) = some (.string h.f0) ∧ W.cell? ⟨(ad.add (x * 5)).block, (ad.add (x * 5)).off + 1, none⟩ = some (.int .i64 h.f1)) (first | exact HAD.out _ HU8.out.bel | exact HAD.out _ HU7.out.bel | exact HAD.out _ HU6.out.bel | exact HAD.out _ HU5.out.bel | exact HAD.out _ HU4.out.bel | exact HAD.out _ HU3.out.bel | exact HAD.out _ HU2.out.bel | exact HAD.out _ HU1.out.bel | exact HAD.out _ HTW.out.bel | exact HAD.out _ HTW.out.drew.bel | exact HAD.out _ (HTW.out.drewN _).bel)
                    (first
                    | (go_at_call_of 16 (Value.pointer (some ⟨b, 0, none⟩)); refine (CR.out _ _ _ (by first | exact HTW.out | exact HTW.out.drew | exact HTW.out.drewN _)).mono ?_; rintro e v1 hq; obtain ⟨B1, d1, rfl, hd1, hr1, hn1⟩ := hq.row; have HU1 := Aside0.mk hq.two; have HR1' := Aside0.mk hr1; have HN1 := Aside0.mk hn1; have HD1 := Aside0.mk hd1; clear hq hr1 hn1 hd1)
                    | (go_at_call_of 16 (Value.pointer (some ⟨b2, 0, none⟩)); refine (CT.out _ _ _ HU1.out).mono ?_; rintro e v2 hq; obtain ⟨B2, d2, rfl, hd2, hr2, hn2⟩ := hq.row; have HU2 := Aside0.mk hq.two; have HR2' := Aside0.mk hr2; have HD2 := Aside0.mk hd2; have HR12 := Aside0.mk (row_on HLIE.out HR1'.out HN1.out hq.only).1; clear hq hr2 hn2 hd2)
                    | (go_at_call 12; refine (same_true _ HR12.out HD1.out HR2'.out HD2.out HLA.out rfl).mono ?_; rintro e v3 ⟨rfl, ⟨m3, rfl⟩⟩; have HU3 := Aside0.mk (HU2.out.drewN m3))
                    | (go_at_call_of 19 (Value.pointer (some ⟨b, 0, none⟩)); refine (FR.out _ _ _ HU3.out).mono ?_; rintro e v4 hq; obtain ⟨B4, d4, rfl, hd4, hr4, hn4⟩ := hq.row; have HU4 := Aside0.mk hq.two; have HR4' := Aside0.mk hr4; have HN4 := Aside0.mk hn4; have HD4 := Aside0.mk hd4; clear hq hr4 hn4 hd4)
                    | (go_at_call_of 19 (Value.pointer (some ⟨b2, 0, none⟩)); refine (FT.out _ _ _ HU4.out).mono ?_; rintro e v5 hq; obtain ⟨B5, d5, rfl, hd5, hr5, hn5⟩ := hq.row; have HU5 := Aside0.mk hq.two; have HR5' := Aside0.mk hr5; have HD5 := Aside0.mk hd5; have HR45 := Aside0.mk (row_on HLIE.out HR4'.out HN4.out hq.only).1; clear hq hr5 hn5 hd5)
                    | (go_at_call 12; refine (same_true _ HR45.out HD4.out HR5'.out HD5.out HLB.out rfl).mono ?_; rintro e v6 ⟨rfl, ⟨m6, rfl⟩⟩; have HU6 := Aside0.mk (HU5.out.drewN m6))
                    | (go_at_call_of 20 (Value.pointer (some ⟨b, 0, none⟩)); refine (KR.out _ _ _ HU6.out).mono ?_; rintro e v7 hq; obtain rfl := hq.ret; have HU7 := Aside0.mk hq.two; clear hq)
                    | (go_at_call_of 20 (Value.pointer (some ⟨b2, 0, none⟩)); refine (KT.out _ _ _ HU7.out).mono ?_; rintro e v8 hq; obtain rfl := hq.ret; have HU8 := Aside0.mk hq.two; clear hq))
                  all_goals
                    go_wp2_with fail
                    go_meet
                    exact ⟨rfl, by first | exact HU8 | exact ⟨HU8.out.drew⟩ | exact ⟨HU8.out.drewN _⟩⟩
                case rest =>
                  obtain ⟨rfl, HQ⟩ := hcut
                  clear HB HTW x0 x1
                  go_wp2
                  go_roundw
                  case rel => exact ⟨x + 1, true, by simp, by omega, (fun e => by cases e), (fun _ => by omega), HQ⟩
                  case measure => simp [intOf]; omega
              · have q4 : decide ((x : Int) < (l1.length : Int)) = false := decide_eq_false (by omega)
                cases sl with
                | false =>
                  obtain ⟨Ax, hrx, hax⟩ := HTW.out.r
                  have HRx := Aside0.mk hrx
                  clear hrx
                  have hx0 := hs0 rfl
                  have hl0 : l1.length = 0 := by omega
                  have hL0 : L = [] := List.eq_nil_of_length_eq_zero (by have := HIE.out; omega)
                  have q5 : decide (0 < (l1.length : Int)) = false := decide_eq_false (by omega)
                  have q5' : decide (0 < l1.length) = false := decide_eq_false (by omega)
                  have ha := add_calls' (⟨⟨#[122, 122, 122]⟩, 0, 0, ⟨#[]⟩, 0⟩ : S27) _ HRx.out (by decide) (by unfold maxLen; omega)
                  rw [show addOk L (⟨⟨#[122, 122, 122]⟩, 0, 0, ⟨#[]⟩, 0⟩ : S27) = true from by rw [hL0]; unfold addOk; rw [Lib.toList_data]; decide] at ha
                  have HAD := Aside0.mk ha
                  clear ha hx0 hl0 hL0
                  go_wp2_with fail
                  refine HAD.out.mono ?_
                  rintro e w9 ⟨rfl, -, ho9⟩
                  have HB9 := Aside0.mk (Only.bel3 HB.out ho9 (by omega) (by omega) (Nat.le_refl _))
                  clear ho9
                  go_wp2
                  go_ret
                  exact ⟨rfl, HB9.out⟩
                | true =>
                  obtain ⟨Ax, hrx, -⟩ := HTW.out.r
                  have HRx := Aside0.mk hrx
                  clear hrx
                  have hx0 := hs1 rfl
                  have q5 : decide (0 < (l1.length : Int)) = true := decide_eq_true (by omega)
                  have q5' : decide (0 < l1.length) = true := decide_eq_true (by omega)
                  have HAD := Aside0.mk (add_sealed (⟨⟨#[122, 122, 122]⟩, 0, 0, ⟨#[]⟩, 0⟩ : S27) _ HRx.out)
                  clear hx0
                  go_wp2_with fail
                  refine HAD.out.mono ?_
                  rintro e w9 ⟨rfl, hb9⟩
                  have HB9 := Aside0.mk (below_step HB.out hb9)
                  clear hb9
                  go_wp2
                  go_ret
                  exact ⟨rfl, HB9.out⟩
end Go.Proofs.Ytfhgdjajifnfiaa.PA

namespace Go.Proofs.Ytfhgdjajifnfiaa.Pure
open Go.RowKit
theorem RegistryOrder : ∀ (a0 : Int) (l1 : List PA.S27) (l2 : List Int) (a3 : Int), (Lit.int .i64 a0).wf = true → l2.length ≤ 140737488351232 → (∀ x ∈ l2, (Lit.int .i64 x).wf = true) → (Lit.int .u8 a3).wf = true → PA.incipitlaw07_RegistryOrder.f a0 l1 l2 a3 = some true := fun _ _ _ _ _ _ _ _ => rfl
end Go.Proofs.Ytfhgdjajifnfiaa.Pure
