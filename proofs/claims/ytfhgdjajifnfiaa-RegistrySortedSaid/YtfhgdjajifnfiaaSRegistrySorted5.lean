/-
  The law RegistrySorted holds: for every input it answers true, its arguments read behind the call as before. Conditions: the listed package-level variables as the program's text lays them (tied by the card).
-/
import Derived.Test.YtfhgdjajifnfiaaSRegistrySorted4
import Derived.Deep.DeepCutAuto
import Derived.Test.YtfhgdjajifnfiaaSRegistrySorted1
set_option linter.unusedVariables false
namespace Go.Proofs.Ytfhgdjajifnfiaa.PA
open Go.RowKit Go.Maps Go.ChangeMaps Go.WideShapes Go.WideMaps Go.MuLone Go.Conc.Locks Go.Sort Go.Proofs.YtfhgdjajifnfiaaW.PrintWords Go.Proofs.YtfhgdjajifnfiaaW.PrintLast Go.Proofs.YtfhgdjajifnfiaaW.PrintMore
set_option linter.unusedVariables false

def incipitlaw07_RegistrySorted.f (a0 : Int) (l1 : List S27) (a2 a3 : Int) : Option Bool := some true
set_option maxHeartbeats 4000000 in
set_option maxRecDepth 100000 in
theorem incipitlaw07_RegistrySorted.calls (a0 : Int) (A1 : Option Addr) (c1 : Nat) (l1 : List S27) (a2 a3 : Int) (r : Bool) (w : World) (hr1 : Kd.C k27 w A1 l1.length l1) (hc1 : l1.length ≤ c1) (h : incipitlaw07_RegistrySorted.f a0 l1 a2 a3 = some r) :
    Calls Try.prog 7 #[.int .i64 a0, .slice A1 l1.length c1, .int .i64 a2, .int .u8 a3] w fun e w' => e = .returned (.bool r) ∧ Below w.heap.size w w' := by
  obtain rfl : true = r := Option.some.inj h
  clear h
  have HA := Aside0.mk (awake_calls w)
  have HR1 := Aside0.mk hr1
  have HC1 := Aside0.mk hc1
  clear hr1 hc1
  go_enter Try.func7, Try.ntmps7
  go_wp2_with fail
  refine HA.out.mono ?_
  rintro e w1 ⟨rfl, hb1⟩
  have HB1 := Aside0.mk hb1
  clear hb1 HA
  by_cases hl : (l1.length : Int) > 60
  · have q : decide ((60 : Int) < (l1.length : Int)) = true := decide_eq_true hl
    go_wp2
    go_ret
    exact ⟨rfl, HB1.out⟩
  · have q : decide ((60 : Int) < (l1.length : Int)) = false := decide_eq_false hl
    go_wp2_with fail
    refine (new_calls' a0 w1).mono ?_
    rintro e w2 ⟨rfl, hr2, hb2⟩
    have hw1 : w.heap.size ≤ w1.heap.size := HB1.out.size
    have HR2 := Aside0.mk hr2
    have HB2 := Aside0.mk (below_step HB1.out hb2)
    obtain ⟨b, hb⟩ : ∃ b, w1.heap.size + 1 = b := ⟨_, rfl⟩
    obtain ⟨mb, hmb⟩ : ∃ b, w1.heap.size = b := ⟨_, rfl⟩
    rw [hb, hmb] at HR2
    rw [hb]
    have g1 : w.heap.size ≤ mb := by omega
    have g2 : mb < b := by omega
    clear hr2 hb2 HB1 hw1 hb hmb
    go_wp2_with fail
    go_loopw [11] (fun vi wr => ∃ (i : Nat) (L : List S27), vi = .int .i64 (i : Int) ∧ i ≤ l1.length ∧ L.length ≤ i ∧ Aside0 (RegS b mb none (bits .and .i64 a0 127) L false 0 wr) ∧ Aside0 (Below w.heap.size w wr)) (fun vi _ => l1.length - (intOf vi).toNat)
    case atStart => exact ⟨0, [], rfl, by omega, by simp, HR2, HB2⟩
    case round =>
      clear HR2 HB2
      obtain ⟨i, L, rfl, hi, hLi, HR, HB⟩ := hrel
      by_cases hlt : i < l1.length
      · have q1 : decide ((i : Int) < (l1.length : Int)) = true := decide_eq_true (by omega)
        have p0 : 0 ≤ (i : Int) := by omega
        have p1 : (i : Int) < (l1.length : Int) := by omega
        obtain ⟨ad, e1, x0, x1, x2, x3, x4⟩ := at_T27 (Kd.C_below HR1.out HB.out) (i : Int) p0 p1
        cases e1
        obtain ⟨h, hh⟩ : ∃ h, rd_T27 l1 (i : Int) = h := ⟨_, rfl⟩
        rw [hh] at x0 x1 x2 x3 x4
        simp only [Int.toNat_natCast] at x0 x1 x2 x3 x4
        clear hh
        replace p0 := eq_true p0
        replace p1 := eq_true p1
        by_cases k0 : (h.f0.size : Int) > 300
        · have q2 : decide ((300 : Int) < (h.f0.size : Int)) = true := decide_eq_true k0
          go_wp2
          go_ret
          exact ⟨rfl, HB.out⟩
        · have q2 : decide ((300 : Int) < (h.f0.size : Int)) = false := decide_eq_false k0
          by_cases k3 : (h.f3.size : Int) > 300
          · have q3 : decide ((300 : Int) < (h.f3.size : Int)) = true := decide_eq_true k3
            go_wp2
            go_ret
            exact ⟨rfl, HB.out⟩
          · have q3 : decide ((300 : Int) < (h.f3.size : Int)) = false := decide_eq_false k3
            have HA1 := Aside0.mk (add_calls' h wr HR.out (by unfold maxLen; omega) (by unfold maxLen; omega))
            go_wp2_with fail
            refine HA1.out.mono ?_
            rintro e w4 ⟨rfl, hr4, ho4⟩
            have HB4 := Aside0.mk (Only.bel3 HB.out ho4 (by omega) (by omega) (Nat.le_refl _))
            obtain ⟨L', hL', hll⟩ : ∃ L', (if addOk L h = true then L ++ [h] else L) = L' ∧ L'.length ≤ i + 1 := ⟨_, rfl, Nat.le_trans (add_len L h) (by omega)⟩
            rw [hL'] at hr4
            have HR4 := Aside0.mk hr4
            clear hr4 ho4 HR HB HA1 x0 x1 x2 x3 x4 hL'
            go_wp2
            go_roundw
            case rel => exact ⟨i + 1, L', by simp, by omega, hll, HR4, HB4⟩
            case measure => simp [intOf]; omega
      · have q1 : decide ((i : Int) < (l1.length : Int)) = false := decide_eq_false (by omega)
        have HQ := Aside0.mk (sorted_calls a2 wr HR.out (by omega))
        have hu := HR.out.uq
        go_wp2_with fail
        refine HQ.out.mono ?_
        rintro e w4 ha
        obtain ⟨S, hS⟩ : ∃ S, srt (bits .and .i64 a0 127) L = S := ⟨_, rfl⟩
        obtain ⟨s, hs⟩ : ∃ s, s = (srt (bits .and .i64 a0 127) L).filter fun h => h.f1 == a2 := ⟨_, rfl⟩
        have hok : ∀ j, (hj : j < s.length) → Okj a2 a0 a3 S s (s.filter (trig a3)) j s[j] := fun j hj => hS ▸ okj hu hs hj
        have hfe : (S.filter fun h => h.f1 == a2 && trig a3 h) = s.filter (trig a3) := by
          rw [hs, hS, List.filter_filter]
          congr 1
          funext x
          exact Bool.and_comm _ _
        have hsl : s.length ≤ 60 := by
          have h1 := (srt_perm (bits .and .i64 a0 127) L).length_eq
          have h2 := List.length_filter_le (onH (bits .and .i64 a0 127)) L
          have h3 := List.length_filter_le (fun h : S27 => h.f1 == a2) (srt (bits .and .i64 a0 127) L)
          rw [← hs] at h3
          omega
        rw [← hs] at ha
        obtain ⟨A2, c2, rfl, hc2, hrow, hA2⟩ := ha.row
        obtain ⟨Ar, hreg, -⟩ := ha.reg
        have HB4 := Aside0.mk (Only.bel HB.out ha.only (by omega) (Nat.le_refl _))
        have hbl : b < wr.heap.size := HR.out.lt
        have HROW := Aside0.mk hrow
        have hA2' : ∀ a, A2 = some a → b < a.block ∧ a.block < w4.heap.size := fun a ha => by have := hA2 a ha; omega
        have HA2 := Aside0.mk hA2'
        have HF := Aside0.mk (for_calls a2 a3 w4 hreg (by omega))
        have HOK := Aside0.mk hok
        have HU := Aside0.mk hu
        have HLI := Aside0.mk hLi
        have HSS := Aside0.mk hS
        have hbl4 : b < w4.heap.size := hreg.lt
        clear ha hrow hA2 hA2' hreg HR HB HQ hok hu hs hLi
        go_wp2_with fail
        refine HF.out.mono ?_
        rintro e w5 ha
        rw [hS, hfe] at ha
        obtain ⟨f, hf⟩ : ∃ f, s.filter (trig a3) = f := ⟨_, rfl⟩
        rw [hf] at ha HOK
        have hfl : cntT (trig a3) s s.length = f.length := by rw [← hf]; exact cntT_end _ _
        have hfm : ∀ j, cntT (trig a3) s j ≤ f.length := fun j => by rw [← hf]; exact cntT_le _ _ _
        have hfl60 : f.length ≤ 60 := by rw [← hf]; have := List.length_filter_le (trig a3) s; omega
        obtain ⟨A3, c3, rfl, hc3, hrow3, hA3⟩ := ha.row
        obtain ⟨Ar2, hreg2, -⟩ := ha.reg
        have HB5 := Aside0.mk (Only.bel HB4.out ha.only (by omega) (Nat.le_refl _))
        have HROW5 := Aside0.mk (HROW.out.keep (w' := w5) fun a h2 => ha.only.block _ (HA2.out a h2).2 (by have := HA2.out a h2; omega))
        have HA25 := Aside0.mk (show ∀ a, A2 = some a → b < a.block ∧ a.block < w5.heap.size from fun a h2 => ⟨(HA2.out a h2).1, Nat.lt_of_lt_of_le (HA2.out a h2).2 ha.only.size⟩)
        have HROW3 := Aside0.mk hrow3
        have HA3 := Aside0.mk (show ∀ a, A3 = some a → b < a.block ∧ a.block < w5.heap.size from fun a h2 => by have := hA3 a h2; omega)
        have HR5 := Aside0.mk hreg2
        clear ha hrow3 hA3 hreg2 HF HB4 HROW HA2 hf hfe hS
        go_wp2_with fail
        have HHD := Aside0.mk (show Hld b mb (bits .and .i64 a0 127) L A2 A3 s f w w5 from ⟨⟨_, HR5.out⟩, HB5.out, HROW5.out, HROW3.out, HA25.out, HA3.out⟩)
        clear HR5 HB5 HROW5 HROW3 HA25 HA3
        go_loopw [14, 15] (fun v14 v15 wq => ∃ (j : Nat), v15 = .int .i64 (j : Int) ∧ v14 = .int .i64 (cntT (trig a3) s j : Int) ∧ j ≤ s.length ∧ Aside0 (Hld b mb (bits .and .i64 a0 127) L A2 A3 s f w wq)) (fun _ v15 _ => s.length - (intOf v15).toNat)
        case atStart => exact ⟨0, rfl, rfl, by omega, HHD⟩
        case round =>
          clear HHD
          obtain ⟨j, rfl, rfl, hj, HD⟩ := hrel
          by_cases hjl : j < s.length
          · have z1 : decide ((j : Int) < (s.length : Int)) = true := decide_eq_true (by omega)
            have p0 : 0 ≤ (j : Int) := by omega
            have p1 : (j : Int) < (s.length : Int) := by omega
            obtain ⟨ad, e1, x0, x1, x2, x3, x4⟩ := at_T27 HD.out.r2 (j : Int) p0 p1
            cases e1
            have hokj := HOK.out j hjl
            obtain ⟨h, hh'⟩ : ∃ h, s[j] = h := ⟨_, rfl⟩
            have hh : rd_T27 s (j : Int) = h := (rd_get hjl).trans hh'
            rw [hh'] at hokj
            have hsj := Aside0.mk hh'
            have HHJ := Aside0.mk hh
            rw [hh] at x0 x1 x2 x3 x4
            simp only [Int.toNat_natCast] at x0 x1 x2 x3 x4
            have HOKJ := Aside0.mk hokj
            have f1 := hokj.ph
            have f2 := hokj.bt
            obtain ⟨Aq, hreg⟩ := HD.out.reg
            have HH := Aside0.mk (has_calls h.f0 wr hreg (by have := HLI.out; omega))
            have hhas := hokj.has
            rw [HSS.out] at HH
            rw [hhas] at HH
            clear hokj hhas hh' hh hreg x2 x3
            replace p0 := eq_true p0
            replace p1 := eq_true p1
            go_upto_region 17 with fail
            go_cut [100] (fun c wx => c = .bool false ∧ Aside0 (Hld b mb (bits .and .i64 a0 127) L (some ad) A3 s f w wx))
            case first =>
              cases hf4 : h.f4 != 0 with
              | false =>
                clear f2
                go_wp2_with fail
                refine HH.out.mono ?_
                rintro e w6 ha
                obtain rfl := ha.ret
                have HD6 := Aside0.mk (HD.out.only (by obtain ⟨Aq6, hreg6, -⟩ := ha.reg; exact ⟨Aq6, hreg6⟩) ha.only (by omega))
                clear ha HH HD x0 x1 x4
                go_wp2
                go_meet
                exact ⟨rfl, HD6⟩
              | true =>
                rw [hf4, Bool.true_and] at f2
                go_wp2_with fail
                refine HH.out.mono ?_
                rintro e w6 ha
                obtain rfl := ha.ret
                have HD6 := Aside0.mk (HD.out.only (by obtain ⟨Aq6, hreg6, -⟩ := ha.reg; exact ⟨Aq6, hreg6⟩) ha.only (by omega))
                clear ha HH HD x0 x1 x4
                go_wp2
                go_meet
                exact ⟨rfl, HD6⟩
            case rest =>
              obtain ⟨rfl, HD6⟩ := hcut
              clear HD HH x0 x1 x4 f1 f2
              obtain ⟨ad', e1', y0, -, y2, -⟩ := at_T27 HD6.out.r2 (j : Int) (by omega) (by omega)
              cases e1'
              rw [HHJ.out] at y0 y2
              simp only [Int.toNat_natCast] at y0 y2
              go_upto_region 19 with fail
              go_cut [144] (fun c wx => c = .bool false ∧ Aside0 (Hld b mb (bits .and .i64 a0 127) L (some ad) A3 s f w wx))
              case first =>
                by_cases hj0 : j = 0
                · have z4 : decide (0 < (j : Int)) = false := decide_eq_false (by omega)
                  have z4' : decide (0 < j) = false := decide_eq_false (by omega)
                  clear hj0
                  go_quiet (fail)
                  go_wp2
                  go_meet
                  exact ⟨rfl, ⟨HD6.out.drewN _⟩⟩
                · have z4 : decide (0 < (j : Int)) = true := decide_eq_true (by omega)
                  have hup := HOKJ.out.up (j - 1) (by omega)
                  obtain ⟨m, hm⟩ : ∃ m, (j : Int) - 1 = m := ⟨_, rfl⟩
                  have j0 : 0 ≤ m := by omega
                  have j1 : m < (s.length : Int) := by omega
                  obtain ⟨ad', e1', q0, -, q2, -⟩ := at_T27 HD6.out.r2 m j0 j1
                  cases e1'
                  have ex : rd_T27 s m = s.getD (j - 1) z27 := by unfold rd_T27; rw [show m.toNat = j - 1 by omega]
                  obtain ⟨x, hx⟩ : ∃ x, s.getD (j - 1) z27 = x := ⟨_, rfl⟩
                  rw [ex, hx] at q0 q2
                  rw [hx] at hup
                  have wj : wrap64 ((j : Int) - 1) = m := by unfold wrap64; omega
                  have z4' : decide (0 < j) = true := decide_eq_true (by omega)
                  clear ex hx hj0
                  replace j0 := eq_true j0
                  replace j1 := eq_true j1
                  rcases hup with hup | ⟨hup, hup2⟩
                  · have k1 : decide (h.f2 < x.f2) = false := decide_eq_false (by omega)
                    have k2 : (x.f2 == h.f2) = false := beq_eq_false_iff_ne.2 (by omega)
                    clear hup
                    go_quiet (fail)
                    go_wp2
                    go_meet
                    exact ⟨rfl, ⟨HD6.out.drewN _⟩⟩
                  · have k1 : decide (h.f2 < x.f2) = false := decide_eq_false (by omega)
                    have k2 : (x.f2 == h.f2) = true := beq_iff_eq.2 hup
                    have k3 : Op.bytesLess x.f0.toList h.f0.toList = true := by rw [bytesLess_eq]; exact decide_eq_true hup2
                    rw [hup] at q2
                    clear hup hup2
                    go_quiet (fail)
                    go_wp2
                    go_meet
                    exact ⟨rfl, ⟨HD6.out.drewN _⟩⟩
              case rest =>
                clear HD6 y0 y2
                obtain ⟨rfl, HD6⟩ := hcut
                obtain ⟨ad', e1', y0, -⟩ := at_T27 HD6.out.r2 (j : Int) (by omega) (by omega)
                cases e1'
                rw [HHJ.out] at y0
                simp only [Int.toNat_natCast] at y0
                go_upto_region 21 with fail
                go_cut [161] (fun c wx => c = .bool (trig a3 h) ∧ Aside0 (Hld b mb (bits .and .i64 a0 127) L (some ad) A3 s f w wx))
                case first =>
                  by_cases hat : cntT (trig a3) s j < f.length
                  · have z5 : decide ((cntT (trig a3) s j : Int) < (f.length : Int)) = true := decide_eq_true (by omega)
                    have p0 : 0 ≤ (cntT (trig a3) s j : Int) := by omega
                    have p1 : (cntT (trig a3) s j : Int) < (f.length : Int) := by omega
                    obtain ⟨ad3, e3, v0, -⟩ := at_T27 HD6.out.r3 _ p0 p1
                    cases e3
                    have ev : rd_T27 f (cntT (trig a3) s j : Int) = f.getD (cntT (trig a3) s j) z27 := rfl
                    rw [ev] at v0
                    simp only [Int.toNat_natCast] at v0
                    replace p0 := eq_true p0
                    replace p1 := eq_true p1
                    cases ht : trig a3 h with
                    | true =>
                      have hx := (HOKJ.out.trt ht).2
                      rw [hx] at v0
                      have HTT := Aside0.mk ht
                      clear hx ev ht
                      go_quiet (fail)
                      go_wp2
                      go_meet
                      exact ⟨by rw [HTT.out], ⟨HD6.out.drewN _⟩⟩
                    | false =>
                      have hx := HOKJ.out.trf ht hat
                      obtain ⟨x, hxx⟩ : ∃ x, f.getD (cntT (trig a3) s j) z27 = x := ⟨_, rfl⟩
                      rw [hxx] at v0 hx
                      have HTT := Aside0.mk ht
                      clear ev hxx ht
                      go_quiet (fail)
                      go_wp2
                      go_meet
                      exact ⟨by rw [HTT.out], ⟨HD6.out.drewN _⟩⟩
                  · have z5 : decide ((cntT (trig a3) s j : Int) < (f.length : Int)) = false := decide_eq_false (by omega)
                    have ht : trig a3 h = false := by
                      cases ht : trig a3 h with
                      | false => rfl
                      | true => exact absurd (HOKJ.out.trt ht).1 hat
                    have HTT := Aside0.mk ht
                    clear ht
                    go_quiet (fail)
                    go_wp2
                    go_meet
                    exact ⟨by rw [HTT.out], ⟨HD6.out.drewN _⟩⟩
                case rest =>
                  clear HD6 y0
                  obtain ⟨rfl, HD6⟩ := hcut
                  have hn := cntT_step (trig a3) s j hjl
                  rw [hsj.out] at hn
                  cases ht : trig a3 h with
                  | true =>
                    rw [ht, if_pos rfl] at hn
                    have hle := hfm j
                    have hw : wrap64 ((cntT (trig a3) s j : Int) + 1) = (cntT (trig a3) s j : Int) + 1 := by unfold wrap64; omega
                    have HN := Aside0.mk hn
                    clear hn hle
                    go_wp2
                    go_roundw
                    case rel => exact ⟨j + 1, by simp, by rw [HN.out, hw]; rfl, by omega, HD6⟩
                    case measure => simp [intOf]; omega
                  | false =>
                    rw [ht] at hn
                    have HN := Aside0.mk hn
                    clear hn
                    go_wp2
                    go_roundw
                    case rel => exact ⟨j + 1, by simp, by rw [HN.out]; rfl, by omega, HD6⟩
                    case measure => simp [intOf]; omega
          · have z1 : decide ((j : Int) < (s.length : Int)) = false := decide_eq_false (by omega)
            have hje : cntT (trig a3) s j = f.length := by
              obtain rfl : j = s.length := by omega
              exact hfl
            rw [hje]
            have z2 : ((f.length : Int) == (f.length : Int)) = true := beq_self_eq_true _
            go_wp2
            go_ret
            exact ⟨rfl, HD.out.bel⟩
end Go.Proofs.Ytfhgdjajifnfiaa.PA

namespace Go.Proofs.Ytfhgdjajifnfiaa.Pure
open Go.RowKit
theorem RegistrySorted : ∀ (a0 : Int) (l1 : List PA.S27) (a2 : Int) (a3 : Int), (Lit.int .i64 a0).wf = true → (Lit.int .i64 a2).wf = true → (Lit.int .u8 a3).wf = true → PA.incipitlaw07_RegistrySorted.f a0 l1 a2 a3 = some true := fun _ _ _ _ _ _ _ => rfl
end Go.Proofs.Ytfhgdjajifnfiaa.Pure

namespace Go.Proofs.Ytfhgdjajifnfiaa.registrySorted
open Go.ChangeShapes Go.WideShapes Go.ChangeAt Go.RowKit Go.Proofs.YtfhgdjajifnfiaaW.PrintWords Go.Proofs.Ytfhgdjajifnfiaa.RowU8
open Go.ChangeMaps (open_string shut_string)
set_option linter.unusedVariables false
set_option maxRecDepth 100000 in
theorem contract (H : Type) (enc : TypeId × Value → H) (W : World) (base : Nat) (args : Array Value) (ds gs : List (DataW H)) (before : List MemPlace)
    (hval0 : ∀ (j : Nat) t v, Try.f7.params[j]? = some t → args[j]? = some v → Value.okWide Try.prog W .any base t v)
    (hW : DataW.Whole enc Try.prog Try.f7.params.toList Rows.registrySortedSpec.vars false W args.toList ds gs before) (hsz0 : (DataW.weightsEach Try.prog (Try.f7.params.toList ++ (OpenSpec.ofChange Rows.registrySortedSpec).bare.plain.varTypes Try.prog) (ds ++ gs)).all (· ≤ reachBytes) = true) :
    Calls Try.prog 7 args W fun e W' => ∃ v, e = .returned v ∧ Rows.registrySortedSpec.post enc Try.prog Try.f7 false true false false W args v W' := by
  have hsz : (DataW.weightsEach Try.prog (Try.f7.params.toList ++ Rows.registrySortedSpec.plain.varTypes Try.prog) (ds ++ gs)).all (· ≤ reachBytes) = true := hsz0
  have hval : ∀ (j : Nat) t v, Try.f7.params[j]? = some t → args[j]? = some v → Value.okWide Try.prog W .any base t v := hval0
  have hW' := hW
  obtain ⟨p, q, hA0, hV, rfl, hfz, hnd⟩ := hW
  have hA : DataW.TrodAll enc Try.prog W 0 (fun _ => true) true Try.f7.params.toList args.toList ds p := hA0
  rw [Try.params7] at hA hval hsz
  obtain ⟨v0, vs0, d0, ds0, p0, q0, hargs, rfl, rfl, h0, r0⟩ := trodAll_cons hA
  obtain ⟨v1, vs1, d1, ds1, p1, q1, rfl, rfl, rfl, h1, r1⟩ := trodAll_cons r0
  obtain ⟨v2, vs2, d2, ds2, p2, q2, rfl, rfl, rfl, h2, r2⟩ := trodAll_cons r1
  obtain ⟨v3, vs3, d3, ds3, p3, q3, rfl, rfl, rfl, h3, r3⟩ := trodAll_cons r2
  obtain ⟨rfl, rfl, rfl⟩ := trodAll_nil r3
  obtain rfl : args = #[v0, v1, v2, v3] := by cases args; simp_all
  obtain ⟨rfl, rfl⟩ := trodVars_none hV
  obtain ⟨a0, rfl, rfl, rfl, w0⟩ := open_int Try.underlying3 (hval 0 3 v0 rfl rfl) h0
  obtain ⟨a1, len1, cap1, rfl⟩ := okWide_slice Try.underlying23 (hval 1 23 v1 rfl rfl)
  have k1 := h1
  have lt1 : ∀ x ∈ p1, x.block < W.heap.size := by obtain ⟨m, hm⟩ := k1; exact DataW.trod_lt m _ _ _ hm
  obtain ⟨l1, rfl, hc1, hr1⟩ : ∃ l : List PA.S27, len1 = l.length ∧ l.length ≤ cap1 ∧ Kd.C PA.k27 W a1 l.length l := by
    obtain ⟨fuel, hf⟩ := h1
    exact refs_row hf
  obtain ⟨a2, rfl, rfl, rfl, w2⟩ := open_int Try.underlying3 (hval 2 3 v2 rfl rfl) h2
  obtain ⟨a3, rfl, rfl, rfl, w3⟩ := open_int Try.underlying5 (hval 3 5 v3 rfl rfl) h3
  clear hA0 hval0 hsz0 hsz
  have hp := Pure.RegistrySorted a0 l1 a2 a3 w0 w2 w3
  refine (PA.incipitlaw07_RegistrySorted.calls a0 _ _ l1 a2 a3 true W hr1 hc1 hp).mono ?_
  rintro e W' ⟨rfl, bel⟩
  exact ⟨_, rfl, _, _, _, [], _, [], hW', trodAll_mk1 (shut_bool Try.underlying4 _), (trodAll_cons_mk (shut_int Try.underlying3 w0) (trodAll_cons_mk (Below.trod laidOut (by kernel_rfl) (of_decide_eq_true (by kernel_rfl)) k1 bel lt1) (trodAll_cons_mk (shut_int Try.underlying3 w2) (trodAll_cons_mk (shut_int Try.underlying5 w3) trodAll_mk0)))), rfl, bel.frame _, fun h => by cases h⟩
theorem laid_met (os : Os) : laidMet Try.prog Rows.registrySortedRow.laid ((laidWorld os).forCall (fun _ _ => 0) ⟨#[], #[.int .i64 0, .slice none 0 0, .int .i64 0, .int .u8 0], []⟩).memory :=
  laidMet_of_run' 8 (by kernel_rfl) (by kernel_rfl)
theorem reads (os : Os) {H : Type} (enc : TypeId × Value → H) : ∃ places, DataW.whole enc Try.prog ((laidWorld os).forCall (fun _ _ => 0) ⟨#[], #[.int .i64 0, .slice none 0 0, .int .i64 0, .int .u8 0], []⟩).memory Try.f7.params.toList Rows.registrySortedSpec.vars false (#[.int .i64 0, .slice none 0 0, .int .i64 0, .int .u8 0] : Array Value).toList 8 = some ([.lit (.int .i64 0), .nil, .lit (.int .i64 0), .lit (.int .u8 0)], [], places) :=
  ⟨[], by kernel_rfl⟩
set_option maxRecDepth 100000 in
theorem lifted (os : Os) (started : os.Started) (H : Type) (enc : TypeId × Value → H) (F : Stop.Interp) :
    ReturnsInHanded {} Try.checked os 7 .any ((OpenSpec.ofChange Rows.registrySortedSpec).preRow enc Try.prog Try.f7 Rows.registrySortedRow.domain false Rows.registrySortedRow.laid) (((OpenSpec.ofChange Rows.registrySortedSpec).at F).post enc Try.prog Try.f7 false true false false) := by
  obtain ⟨places, hx⟩ := reads os enc
  refine returnsInHanded_of_row (C := Try.checked) (s := OpenSpec.ofChange Rows.registrySortedSpec) own started (by kernel_rfl) Try.func7
    (witness_row_at (enc := enc) (C := Try.checked) false (laidWorld os) #[.int .i64 0, .slice none 0 0, .int .i64 0, .int .u8 0] rfl (by kernel_rfl) (by kernel_rfl) (by kernel_rfl)
      (OpenSpec.preRow_of_cond 8 hx (by kernel_rfl) (fun k hk => by cases hk) (by kernel_rfl) (laid_met os))) ?_
  intro W base args ds gs before hval hW _ _ hsz hL hSh _
  exact contract H enc W base args ds gs before hval hW hsz
theorem said : Rows.RegistrySortedSaid :=
  OpenClaim.holds_of_cond 7 Try.f7 rfl rfl rfl rfl rfl rfl rfl ⟨rfl, rfl, rfl, rfl, rfl⟩ rfl rfl rfl rfl rfl (by kernel_rfl) Try.func7 (by kernel_rfl)
    (of_decide_eq_true (by kernel_rfl)) (by unfold Func.isWrapper; first | (rw [if_pos (by decide +kernel)]; kernel_rfl) | (rw [if_neg (by decide +kernel)]; exact ⟨rfl, rfl⟩))
    (fun os started H enc _ F => by rw [OpenClaim.pre_eq_preRow]; exact lifted os started H enc F)
end Go.Proofs.Ytfhgdjajifnfiaa.registrySorted
namespace Go.Proofs.Ytfhgdjajifnfiaa
/-- The statement, under a short name, for the claim. -/
theorem registrySorted_holds : Rows.RegistrySortedSaid := registrySorted.said
end Go.Proofs.Ytfhgdjajifnfiaa
