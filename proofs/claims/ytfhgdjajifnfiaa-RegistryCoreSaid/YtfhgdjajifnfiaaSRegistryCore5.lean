/-
  Texts of the proof of RegistryCore, part 5 of 6: contracts and plain laws. Conditions: see each statement.
-/
import Derived.Test.YtfhgdjajifnfiaaSRegistryCore4
set_option linter.unusedVariables false
namespace Go.Proofs.Ytfhgdjajifnfiaa.PA
open Go.RowKit Go.Maps Go.ChangeMaps Go.WideShapes Go.WideMaps Go.MuLone Go.Conc.Locks Go.Sort Go.Proofs.YtfhgdjajifnfiaaW.PrintWords Go.Proofs.YtfhgdjajifnfiaaW.PrintLast Go.Proofs.YtfhgdjajifnfiaaW.PrintMore
set_option linter.unusedVariables false

theorem Only.bel {B b : Nat} {w0 w w' : World} (h : Below B w0 w) (ho : Only (fun j => j = b) w w') (hb : B ≤ b) (hB : B ≤ w0.heap.size) : Below B w0 w' :=
  h.trans (ho.below (Nat.le_trans hB h.size) (fun j hj => by rw [hj]; exact hb))
theorem Drawn0.bel {B : Nat} {w0 w w' : World} (h : Below B w0 w) (hd : Drawn0 w w') : Below B w0 w' := by
  obtain ⟨m, rfl⟩ := hd
  exact ⟨h.os, h.tape, h.output, h.size, h.block⟩
def coreL : List S27 := (registry_Core.f).getD []
theorem core_f : registry_Core.f = some coreL := rfl
theorem rcore_f : incipitref07_Core.f = some coreL := rfl
theorem core_len : coreL.length = 25 := rfl
/-- addOk, its text as bytes. -/
def addOk' (L : List S27) (h : S27) : Bool := !h.f0.data.toList.isEmpty && !(L.any fun x => decide (x.f0 = h.f0))
theorem addOk_eq (L : List S27) (h : S27) : addOk L h = addOk' L h := by unfold addOk addOk'; rw [Lib.toList_data]
theorem core_all : ∀ i, i < 25 → addOk' (coreL.take i) (coreL.getD i z27) = true ∧ (coreL.getD i z27).f0.size ≤ 300 := by decide +kernel
theorem core_on (h : S27) (hh : h ∈ coreL) : onH 127 h = true := by
  have : ∀ h ∈ coreL, onH 127 h = true := by decide +kernel
  exact this h hh
theorem core_count (p : Int) : ((srt 127 coreL).filter fun h => h.f1 == p).length = (coreL.filter fun h => h.f1 == p).length := by
  have h1 : coreL.filter (onH 127) = coreL := List.filter_eq_self.2 core_on
  have h2 := srt_perm 127 coreL
  rw [h1] at h2
  exact (h2.filter _).length_eq
def cnt (p : Int) : Nat := (coreL.filter fun h => h.f1 == p).length
def csum : Nat → Nat
  | 0 => 0
  | j + 1 => csum j + cnt ((j : Int) + 1)
theorem csum_le : ∀ j, j < 4 → csum j + cnt ((j : Int) + 1) ≤ 25 := by decide +kernel
theorem csum_4 : csum 4 = 25 := by decide +kernel
def incipitlaw07_RegistryCore.f (a0 : Int) : Option Bool := some true
set_option maxHeartbeats 4000000 in
set_option maxRecDepth 100000 in
theorem incipitlaw07_RegistryCore.calls (a0 : Int) (r : Bool) (w : World) (h : incipitlaw07_RegistryCore.f a0 = some r) :
    Calls Try.prog 3 #[.int .i64 a0] w fun e w' => e = .returned (.bool r) ∧ Below w.heap.size w w' := by
  obtain rfl : true = r := Option.some.inj h
  clear h
  have HA := Aside0.mk (awake_calls w)
  have HC := Aside0.mk (fun W => registry_Core.calls _ W core_f)
  have HD := Aside0.mk (fun W => incipitref07_Core.calls _ W rcore_f)
  obtain ⟨k0, k1⟩ := bits_and_le a0 65535 (by omega) (by omega)
  obtain ⟨k, hk⟩ : ∃ k, bits .and .i64 a0 65535 = k := ⟨_, rfl⟩
  rw [hk] at k0 k1
  go_enter Try.func3, Try.ntmps3
  go_wp2_with fail
  refine HA.out.mono ?_
  rintro e w1 ⟨rfl, hb1⟩
  have HB1 := Aside0.mk hb1
  have HW1 := Aside0.mk (show w.heap.size ≤ w1.heap.size from hb1.size)
  clear hb1 HA
  go_wp2_with fail
  refine (HC.out w1).mono ?_
  rintro e w2 ⟨v2, rfl, hR2, hb2⟩
  have HB2 := Aside0.mk (below_step HB1.out hb2)
  obtain ⟨A2, c2, rfl, hc2, hC2⟩ := Kd.R_reads hR2
  have HR2 := Aside0.mk hR2
  have HC2 := Aside0.mk hC2
  clear hR2 hC2 hb2 HB1
  go_wp2_with fail
  refine (HD.out w2).mono ?_
  rintro e w3 ⟨v3, rfl, hR3, hb3⟩
  have HB3 := Aside0.mk (below_step HB2.out hb3)
  obtain ⟨A3, c3, rfl, hc3, hC3⟩ := Kd.R_reads hR3
  have HS := Aside0.mk (same_true w3 (Kd.C_below HC2.out hb3) hc2 hC3 hc3 (by rw [core_len]; omega) rfl)
  have HR2' := Aside0.mk (Kd.R_below HR2.out hb3)
  clear hR3 hC3 hb3 HB2 HC2 HR2
  have hcl := core_len
  rw [hcl] at hc2 hc3
  simp only [hcl] at HS ⊢
  clear hcl
  go_wp2_with fail
  refine HS.out.mono ?_
  rintro e w4 ⟨rfl, hd4⟩
  have HB4 := Aside0.mk (Drawn0.bel HB3.out hd4)
  obtain ⟨m4, rfl⟩ := hd4
  have HR4 := Aside0.mk (Kd.R_drewN HR2'.out m4)
  clear HB3 HS HR2'
  obtain ⟨inner, hown⟩ := Kd.R_own HR4.out
  obtain ⟨_, h2⟩ := hown
  rcases h2 with ⟨h2, _⟩ | ⟨g, cap, cur, h2, hg, hh, hn, hcap, hsz, _⟩
  · cases h2
  injection h2 with e1 e2 e3
  subst e1 e3
  have q0 : 0 ≤ k % 25 := by omega
  have q1 : k % 25 < 25 := by omega
  obtain ⟨u, hu⟩ : ∃ u, cur[(k % 25).toNat * 5]? = some u := ⟨_, Array.getElem?_eq_getElem (by have h3 : 25 ≤ c2 := hn; have h4 : cur.size = c2 * 5 := hsz; omega)⟩
  have hcell : (w3.drewN m4).cell? ⟨g, (k % 25).toNat * 5, none⟩ = some u := (cell_at hh _).trans hu
  have hfz : (w3.drewN m4).frozen? ⟨g, (k % 25).toNat * 5, none⟩ = false := frozen_at hh _
  have HG := Aside0.mk (show w.heap.size ≤ g from Nat.le_trans HW1.out hg)
  clear hh hsz hg hcap
  replace q0 := eq_true q0
  replace q1 := eq_true q1
  obtain ⟨w4, hw4⟩ : ∃ w4, w3.drewN m4 = w4 := ⟨_, rfl⟩
  rw [hw4] at HB4 HR4 hcell hfz ⊢
  go_wp2_with fail
  obtain ⟨w5, hw5⟩ : ∃ w5, w4.setCell ⟨g, (k % 25).toNat * 5, none⟩ (.string ⟨#[120]⟩) = w5 := ⟨_, rfl⟩
  have HB5 := Aside0.mk (show Below w.heap.size w w5 from by rw [← hw5]; exact HB4.out.setCell (show w.heap.size ≤ (⟨g, (k % 25).toNat * 5, none⟩ : Addr).block from HG.out) _)
  rw [hw5]
  clear hw5 hw4 hcell hfz hu HB4 HR4
  have HN := Aside0.mk (new_calls' 127 w5)
  refine HN.out.mono ?_
  rintro e w6 ⟨rfl, hr6, hb6⟩
  have hb127 : bits .and .i64 127 127 = 127 := by decide
  rw [hb127] at hr6
  obtain ⟨b, hb⟩ : ∃ b, w5.heap.size + 1 = b := ⟨_, rfl⟩
  rw [hb] at hr6 ⊢
  have hB5 : w.heap.size ≤ w5.heap.size := HB5.out.size
  have hB : w.heap.size ≤ b := by omega
  have HR6 := Aside0.mk hr6
  have HB6 := Aside0.mk (below_step HB5.out hb6)
  have hbw : b < w6.heap.size := hr6.lt
  have hmw : w5.heap.size < w6.heap.size := by omega
  clear hr6 hb6 HN HB5 hb127
  go_wp2_with fail
  refine (HC.out w6).mono ?_
  rintro e w7 ⟨v7, rfl, hR7, hb7⟩
  have HB7 := Aside0.mk (below_step HB6.out hb7)
  have HR7 := Aside0.mk (HR6.out.keep_only (Below.only (F := fun j => w6.heap.size ≤ j) hb7 (fun j hj _ => hj)) (fun j hj hj2 => HR6.out.own_lt j hj hj2))
  have hown7 : ∀ a, v7.ownBlock = some a → w6.heap.size ≤ a ∧ a < w7.heap.size := by
    intro a ha
    obtain ⟨inner, ho⟩ := Kd.R_own hR7
    exact ho.lt a ha
  obtain ⟨A7, c7, rfl, hc7, hC7⟩ := Kd.R_reads hR7
  have HO7 := Aside0.mk hown7
  have HC7 := Aside0.mk hC7
  clear hR7 hC7 hb7 HB6 HR6 hown7
  have hcl := core_len
  rw [hcl] at hc7
  simp only [hcl] at HO7 ⊢
  clear hcl
  go_wp2_with fail
  go_loopw [7] (fun vi wr => ∃ i : Nat, vi = .int .i64 (i : Int) ∧ i ≤ 25 ∧ Aside0 (RegS b w5.heap.size none 127 (coreL.take i) false 0 wr) ∧ Aside0 (Below w.heap.size w wr) ∧ Aside0 (Row wr A7 coreL) ∧ Aside0 (∀ a, A7 = some a → w6.heap.size ≤ a.block ∧ a.block < wr.heap.size)) (fun vi _ => 25 - (intOf vi).toNat)
  case atStart =>
    refine ⟨0, rfl, by omega, HR7, HB7, HC7, ⟨fun a ha => ?_⟩⟩
    exact HO7.out a.block (by rw [ha]; rfl)
  case round =>
    obtain ⟨i, rfl, hi, HR, HB, HM, HO⟩ := hrel
    by_cases hlt : i < 25
    · have q1 : decide ((i : Int) < 25) = true := decide_eq_true (by omega)
      have p0 : 0 ≤ (i : Int) := by omega
      have p1 : (i : Int) < 25 := by omega
      obtain ⟨ad, e1, x0, x1, x2, x3, x4⟩ := at_T27 HM.out (i : Int) p0 (by rw [core_len]; exact p1)
      cases e1
      obtain ⟨h, hh⟩ : ∃ h, rd_T27 coreL (i : Int) = h := ⟨_, rfl⟩
      rw [hh] at x0 x1 x2 x3 x4
      simp only [Int.toNat_natCast] at x0 x1 x2 x3 x4
      have hc := core_all i hlt
      have hh2 : coreL.getD i z27 = h := hh
      rw [hh2] at hc
      have ha := add_calls' h wr HR.out (by have := hc.2; unfold maxLen; omega) (by rw [List.length_take, core_len]; unfold maxLen; omega)
      rw [addOk_eq, hc.1, if_pos rfl] at ha
      have hts : coreL.take i ++ [h] = coreL.take (i + 1) := by
        rw [List.take_add_one, List.getElem?_eq_getElem (by rw [core_len]; exact hlt)]
        rw [List.getD_eq_getElem?_getD, List.getElem?_eq_getElem (by rw [core_len]; exact hlt)] at hh2
        simp only [Option.getD_some] at hh2
        rw [hh2]
        rfl
      rw [hts] at ha
      have HAd := Aside0.mk ha
      clear ha hh hh2 hc hts
      replace p0 := eq_true p0
      replace p1 := eq_true p1
      go_wp2_with fail
      refine HAd.out.mono ?_
      rintro e w8 ⟨rfl, hr8, ho8⟩
      have HR8 := Aside0.mk hr8
      have hbm : ∀ a, some ad = some a → w6.heap.size ≤ a.block ∧ a.block < wr.heap.size := HO.out
      have HM8 := Aside0.mk (HM.out.keep (w' := w8) fun a ha => ho8.block a.block (hbm a ha).2 (fun x => by
        have h1 := hbm a ha
        rcases x with x | x | ⟨_, x, _⟩
        · omega
        · omega
        · cases x))
      have HB8 := Aside0.mk (HB.out.trans (ho8.below (B := w.heap.size) HB.out.size (fun j hj => by rcases hj with rfl | rfl | ⟨_, x, _⟩; omega; omega; cases x)))
      have HO8 := Aside0.mk (show ∀ a, some ad = some a → w6.heap.size ≤ a.block ∧ a.block < w8.heap.size from fun a ha => ⟨(hbm a ha).1, Nat.lt_of_lt_of_le (hbm a ha).2 ho8.size⟩)
      clear hr8 ho8 hbm HR HB HM HO HAd x0 x1 x2 x3 x4
      go_wp2
      go_roundw
      case rel => exact ⟨i + 1, by simp, by omega, HR8, HB8, HM8, HO8⟩
      case measure => simp [intOf]; omega
    · have q1 : decide ((i : Int) < 25) = false := decide_eq_false (by omega)
      have htk : coreL.take i = coreL := List.take_of_length_le (by rw [core_len]; omega)
      rw [htk] at HR
      go_wp2_with fail
      clear HR7 HB7 HC7 HO7
      go_loopw [8, 9] (fun v8 v9 wq => ∃ (j : Nat) (sl : Bool) (A' : Option Addr), v8 = .int .i64 (csum j : Int) ∧ v9 = .int .i64 ((j : Int) + 1) ∧ j ≤ 4 ∧ Aside0 (RegS b w5.heap.size A' 127 coreL sl 0 wq) ∧ Aside0 (Below w.heap.size w wq) ∧ Aside0 (Row wq A7 coreL) ∧ Aside0 (∀ a, A7 = some a → w6.heap.size ≤ a.block ∧ a.block < wq.heap.size)) (fun _ v9 _ => 5 - (intOf v9).toNat)
      case atStart => exact ⟨0, false, none, rfl, rfl, by omega, HR, HB, HM, HO⟩
      case round =>
        clear HR HB HM HO
        obtain ⟨j, sl, A', rfl, rfl, hj, HR, HB, HM, HO⟩ := hrel
        by_cases hlt : j < 4
        · have q1 : decide ((j : Int) + 1 ≤ 4) = true := decide_eq_true (by omega)
          have hs := sorted_calls ((j : Int) + 1) wr HR.out (by rw [core_len]; omega)
          obtain ⟨s, hs'⟩ : ∃ s : Nat, csum j = s := ⟨_, rfl⟩
          have hle := csum_le j hlt
          rw [hs'] at hle
          have hcs : csum (j + 1) = s + cnt ((j : Int) + 1) := by rw [csum, hs']
          have hcn := core_count ((j : Int) + 1)
          obtain ⟨l, hl⟩ : ∃ l, ((srt 127 coreL).filter fun h => h.f1 == (j : Int) + 1) = l := ⟨_, rfl⟩
          rw [hl] at hs hcn
          have hcn2 : l.length = cnt ((j : Int) + 1) := hcn
          rw [← hcn2] at hle hcs
          have HS := Aside0.mk hs
          have HCS := Aside0.mk hcs
          rw [hs']
          have hw : wrap64 ((s : Int) + (l.length : Int)) = ((s + l.length : Nat) : Int) := by unfold wrap64; omega
          clear hs hcn hcn2 hl hcs hs'
          go_wp2_with fail
          refine HS.out.mono ?_
          rintro e w8 ha
          obtain ⟨A2', c2', rfl, hc2', hrow2, -⟩ := ha.row
          obtain ⟨A'', hreg, -⟩ := ha.reg
          have hbm : ∀ a, A7 = some a → w6.heap.size ≤ a.block ∧ a.block < wr.heap.size := HO.out
          have HR8 := Aside0.mk hreg
          have HM8 := Aside0.mk (HM.out.keep (w' := w8) fun a ha2 => ha.only.block a.block (hbm a ha2).2 (by have := hbm a ha2; omega))
          have HB8 := Aside0.mk (Only.bel HB.out ha.only hB (Nat.le_refl _))
          have HO8 := Aside0.mk (show ∀ a, A7 = some a → w6.heap.size ≤ a.block ∧ a.block < w8.heap.size from fun a ha2 => ⟨(hbm a ha2).1, Nat.lt_of_lt_of_le (hbm a ha2).2 ha.only.size⟩)
          clear ha hreg hbm hrow2 HR HB HM HO HS
          go_wp2
          go_roundw
          case rel => exact ⟨j + 1, true, A'', by rw [HCS.out, hw], by simp, by omega, HR8, HB8, HM8, HO8⟩
          case measure => simp [intOf]; omega
        · have q1 : decide ((j : Int) + 1 ≤ 4) = false := decide_eq_false (by omega)
          have hc4 : csum j = 25 := by obtain rfl : j = 4 := by omega
                                       exact csum_4
          rw [hc4]
          go_wp2_with fail
          refine (HD.out wr).mono ?_
          rintro e w9 ⟨v9, rfl, hR9, hb9⟩
          have HB9 := Aside0.mk (below_step HB.out hb9)
          obtain ⟨A9, c9, rfl, hc9, hC9⟩ := Kd.R_reads hR9
          have HS := Aside0.mk (same_true w9 (Kd.C_below HM.out hb9) hc7 hC9 hc9 (by rw [core_len]; omega) rfl)
          have hcl := core_len
          rw [hcl] at hc9
          simp only [hcl] at HS ⊢
          clear hR9 hC9 hb9 HB HM HO HR hcl
          go_wp2_with fail
          refine HS.out.mono ?_
          rintro e w10 ⟨rfl, hd⟩
          have HB10 := Aside0.mk (Drawn0.bel HB9.out hd)
          clear hd HS HB9
          go_wp2
          go_ret
          exact ⟨rfl, HB10.out⟩
end Go.Proofs.Ytfhgdjajifnfiaa.PA

namespace Go.Proofs.Ytfhgdjajifnfiaa.Pure
open Go.RowKit
theorem RegistryCore : ∀ (a0 : Int), (Lit.int .i64 a0).wf = true → PA.incipitlaw07_RegistryCore.f a0 = some true := fun _ _ => rfl
end Go.Proofs.Ytfhgdjajifnfiaa.Pure
