/-
  Texts of the proof of RegistryBits, part 5 of 6: contracts and plain laws. Conditions: see each statement.
-/
import Derived.Test.YtfhgdjajifnfiaaSRegistryBits4
set_option linter.unusedVariables false
namespace Go.Proofs.Ytfhgdjajifnfiaa.PA
open Go.RowKit Go.Maps Go.ChangeMaps Go.WideShapes Go.WideMaps Go.MuLone Go.Conc.Locks Go.Sort Go.Proofs.YtfhgdjajifnfiaaW.PrintWords Go.Proofs.YtfhgdjajifnfiaaW.PrintLast Go.Proofs.YtfhgdjajifnfiaaW.PrintMore
set_option linter.unusedVariables false

theorem bits_on {m : Int} {h : S27} (ho : onH (bits .and .i64 m 127) h = true) : (h.f4 != 0 && bits .and .i64 h.f4 m == 0) = false := by
  cases h0 : h.f4 != 0 with
  | false => rfl
  | true =>
    cases h1 : bits .and .i64 h.f4 m == 0 with
    | false => rfl
    | true =>
      exfalso
      unfold onH at ho
      have e0 : (h.f4 == 0) = false := by simpa [bne] using h0
      rw [e0, Bool.false_or, ← bits_and_assoc, beq_iff_eq.1 h1, bits_and_zero] at ho
      exact absurd ho (by decide)
theorem cut_on (h : S27) : onH 127 (cutH h) = true := by
  unfold onH
  show (bits .and .i64 h.f4 127 == 0 || bits .and .i64 (bits .and .i64 h.f4 127) 127 != 0) = true
  rw [bits_and_self]
  cases hb : bits .and .i64 h.f4 127 == 0 <;> simp_all [bne]
def incipitlaw07_RegistryBits.f (a0 : Int) (l1 : List S27) : Option Bool := some true
set_option maxHeartbeats 4000000 in
set_option maxRecDepth 100000 in
theorem incipitlaw07_RegistryBits.calls (a0 : Int) (A1 : Option Addr) (c1 : Nat) (l1 : List S27) (r : Bool) (w : World) (hr1 : Kd.C k27 w A1 l1.length l1) (hc1 : l1.length ≤ c1) (h : incipitlaw07_RegistryBits.f a0 l1 = some r) :
    Calls Try.prog 4 #[.int .i64 a0, .slice A1 l1.length c1] w fun e w' => e = .returned (.bool r) ∧ Below w.heap.size w w' := by
  obtain rfl : true = r := Option.some.inj h
  clear h
  have HA := Aside0.mk (awake_calls w)
  have HR1 := Aside0.mk hr1
  have HC1 := Aside0.mk hc1
  clear hr1 hc1
  go_enter Try.func4, Try.ntmps4
  go_wp2_with fail
  refine HA.out.mono ?_
  rintro e w1 ⟨rfl, hb1⟩
  have HB1 := Aside0.mk hb1
  clear hb1 HA
  by_cases hl : (l1.length : Int) > 40
  · have q : decide ((40 : Int) < (l1.length : Int)) = true := decide_eq_true hl
    go_wp2
    go_ret
    exact ⟨rfl, HB1.out⟩
  · have q : decide ((40 : Int) < (l1.length : Int)) = false := decide_eq_false hl
    go_wp2_with fail
    refine (new_calls' a0 w1).mono ?_
    rintro e w2 ⟨rfl, hr2, hb2⟩
    have hl2 := hr2.lt
    have HR2 := Aside0.mk hr2
    have HB2 := Aside0.mk (below_step HB1.out hb2)
    clear hr2 hb2
    go_wp2_with fail
    refine (new_calls' 127 w2).mono ?_
    rintro e w3 ⟨rfl, hr3, hb3⟩
    rw [show bits .and .i64 127 127 = 127 from by decide] at hr3
    have hw1 : w.heap.size ≤ w1.heap.size := HB1.out.size
    have HR3 := Aside0.mk hr3
    have HB3 := Aside0.mk (below_step HB2.out hb3)
    have HR2' := Aside0.mk (HR2.out.keep_only (Below.only (F := fun j => w2.heap.size ≤ j) hb3 (fun j hj _ => hj)) (fun j hj hj2 => HR2.out.own_lt j hj hj2))
    obtain ⟨b, hb⟩ : ∃ b, w1.heap.size + 1 = b := ⟨_, rfl⟩
    obtain ⟨b2, hb2'⟩ : ∃ b, w2.heap.size + 1 = b := ⟨_, rfl⟩
    obtain ⟨mb, hmb⟩ : ∃ b, w1.heap.size = b := ⟨_, rfl⟩
    obtain ⟨mb2, hmb2⟩ : ∃ b, w2.heap.size = b := ⟨_, rfl⟩
    rw [hb, hmb] at HR2'
    rw [hb2', hmb2] at HR3
    rw [hb, hb2']
    have g1 : w.heap.size ≤ mb := by omega
    have g2 : mb < b := by omega
    have g3 : b < mb2 := by omega
    have g4 : mb2 < b2 := by omega
    clear hr3 hb3 HB1 HB2 HR2 hl2 hw1 hb hb2' hmb hmb2
    go_wp2_with fail
    go_loopw [8, 9] (fun v8 v9 wr => ∃ (i : Nat) (L : List S27), v8 = .int .i64 (L.length : Int) ∧ v9 = .int .i64 (i : Int) ∧ i ≤ l1.length ∧ L.length ≤ i ∧ Aside0 (∀ x ∈ L, ∃ y, x = cutH y) ∧ Aside0 (RegS b mb none (bits .and .i64 a0 127) L false 0 wr) ∧ Aside0 (RegS b2 mb2 none 127 L false 0 wr) ∧ Aside0 (Below w.heap.size w wr)) (fun _ v9 _ => l1.length - (intOf v9).toNat)
    case atStart => exact ⟨0, [], rfl, rfl, by omega, by simp, ⟨by simp⟩, HR2', HR3, HB3⟩
    case round =>
      clear HR2' HR3 HB3
      obtain ⟨i, L, rfl, rfl, hi, hLi, HX, HR, HS, HB⟩ := hrel
      by_cases hlt : i < l1.length
      · have q1 : decide ((i : Int) < (l1.length : Int)) = true := decide_eq_true (by omega)
        have p0 : 0 ≤ (i : Int) := by omega
        have p1 : (i : Int) < (l1.length : Int) := by omega
        obtain ⟨ad, e1, x0, x1, x2, x3, x4⟩ := at_T27 (Kd.C_below HR1.out HB.out) (i : Int) p0 p1
        cases e1
        obtain ⟨h, hh⟩ : ∃ h, rd_T27 l1 (i : Int) = h := ⟨_, rfl⟩
        rw [hh] at x0 x1 x2 x3 x4
        simp only [Int.toNat_natCast] at x0 x1 x2 x3 x4
        clear hh
        replace p0 := eq_true p0
        replace p1 := eq_true p1
        by_cases k0 : (h.f0.size : Int) > 300
        · have q2 : decide ((300 : Int) < (h.f0.size : Int)) = true := decide_eq_true k0
          go_wp2
          go_ret
          exact ⟨rfl, below_alloc HB.out _⟩
        · have q2 : decide ((300 : Int) < (h.f0.size : Int)) = false := decide_eq_false k0
          by_cases k3 : (h.f3.size : Int) > 300
          · have q3 : decide ((300 : Int) < (h.f3.size : Int)) = true := decide_eq_true k3
            go_wp2
            go_ret
            exact ⟨rfl, below_alloc HB.out _⟩
          · have q3 : decide ((300 : Int) < (h.f3.size : Int)) = false := decide_eq_false k3
            go_wp2_with fail
            obtain ⟨wa, hwa⟩ : ∃ wa, wr.alloc (.cells #[.string h.f0, .int .i64 1, .int .i64 h.f2, .string h.f3, .int .i64 (bits .and .i64 h.f4 127)] 27) = wa := ⟨_, rfl⟩
            have hra := HR.out.keep_only (hwa ▸ Only.alloc (F := fun _ => False) wr _ : Only (fun _ => False) wr wa) (fun _ _ x => x)
            have hsa := HS.out.keep_only (hwa ▸ Only.alloc (F := fun _ => False) wr _ : Only (fun _ => False) wr wa) (fun _ _ x => x)
            have hga : wa.heap[wr.heap.size]? = some (.cells #[.string h.f0, .int .i64 1, .int .i64 h.f2, .string h.f3, .int .i64 (bits .and .i64 h.f4 127)] 27 (0, 0)) := by rw [← hwa]; exact heap_alloc_new _ _
            have hwl : wr.heap.size < wa.heap.size := by rw [← hwa]; simp
            have hb2l : b2 < wr.heap.size := HS.out.lt
            have hLm : L.length < maxLen := by unfold maxLen; omega
            have hhm : (cutH h).f0.size ≤ maxLen := by unfold maxLen; show h.f0.size ≤ _; omega
            have HBa := Aside0.mk (show Below w.heap.size w wa from hwa ▸ below_alloc HB.out _)
            have HGA := Aside0.mk hga
            have HSA := Aside0.mk hsa
            have HA1 := Aside0.mk (add_calls' (cutH h) wa hra hhm hLm)
            rw [hwa]
            clear hga hra hsa hwa HR HS HB
            refine HA1.out.mono ?_
            rintro e w4 ⟨rfl, hr4, ho4⟩
            have hs4 := HSA.out.apart ho4 (by omega) (by omega) (by omega) (by omega) (fun a ha => by cases ha)
            have hg4 := (ho4.block wr.heap.size hwl (fun x => by rcases x with x | x | ⟨_, x, _⟩; omega; omega; cases x)).trans HGA.out
            have y0 : w4.cell? ⟨wr.heap.size, 0, none⟩ = some (.string h.f0) := cell_at hg4 0
            have y1 : w4.cell? ⟨wr.heap.size, 1, none⟩ = some (.int .i64 1) := cell_at hg4 1
            have y2 : w4.cell? ⟨wr.heap.size, 2, none⟩ = some (.int .i64 h.f2) := cell_at hg4 2
            have y3 : w4.cell? ⟨wr.heap.size, 3, none⟩ = some (.string h.f3) := cell_at hg4 3
            have y4 : w4.cell? ⟨wr.heap.size, 4, none⟩ = some (.int .i64 (bits .and .i64 h.f4 127)) := cell_at hg4 4
            have HB4 := Aside0.mk (Only.bel3 HBa.out ho4 (by omega) (by omega) (Nat.le_refl _))
            have HR4 := Aside0.mk hr4
            have HA2 := Aside0.mk (add_calls' (cutH h) w4 hs4 hhm hLm)
            clear hr4 ho4 hs4 hg4 HSA HGA HA1 HBa x0 x1 x2 x3 x4
            go_wp2_with fail
            refine HA2.out.mono ?_
            rintro e w5 ⟨rfl, hs5, ho5⟩
            have HR5 := Aside0.mk (HR4.out.apart ho5 (by omega) (by omega) (by omega) (by omega) (fun a ha => by cases ha))
            have HS5 := Aside0.mk hs5
            have HB5 := Aside0.mk (Only.bel3 HB4.out ho5 (by omega) (by omega) (Nat.le_refl _))
            clear hs5 ho5 HR4 HB4 HA2 y0 y1 y2 y3 y4
            cases hk : addOk L (cutH h) with
            | true =>
              rw [hk, if_pos rfl] at HR5 HS5
              have hw : wrap64 ((L.length : Int) + 1) = (L.length : Int) + 1 := by unfold wrap64; omega
              have HX5 := Aside0.mk (show ∀ x ∈ L ++ [cutH h], ∃ y, x = cutH y from fun x hx => by
                rcases List.mem_append.1 hx with hx | hx
                · exact HX.out x hx
                · exact ⟨h, List.mem_singleton.1 hx⟩)
              go_wp2
              go_roundw
              case rel => exact ⟨i + 1, L ++ [cutH h], by rw [hw]; simp, by simp, by omega, by simp; omega, HX5, HR5, HS5, HB5⟩
              case measure => simp [intOf]; omega
            | false =>
              rw [hk] at HR5 HS5
              go_wp2
              go_roundw
              case rel => exact ⟨i + 1, L, rfl, by simp, by omega, by omega, HX, HR5, HS5, HB5⟩
              case measure => simp [intOf]; omega
      · have q1 : decide ((i : Int) < (l1.length : Int)) = false := decide_eq_false (by omega)
        have hs := sorted_calls 1 wr HR.out (by omega)
        have hon : ∀ x ∈ (srt (bits .and .i64 a0 127) L).filter (fun h => h.f1 == 1), (x.f4 != 0 && bits .and .i64 x.f4 a0 == 0) = false := fun x hx => by
          have h1 := (List.mem_filter.1 hx).1
          exact bits_on (List.mem_filter.1 ((srt_perm _ L).mem_iff.1 h1)).2
        have hlen : ((srt (bits .and .i64 a0 127) L).filter (fun h => h.f1 == 1)).length ≤ L.length := by
          have h1 := (srt_perm (bits .and .i64 a0 127) L).length_eq
          have h2 := List.length_filter_le (onH (bits .and .i64 a0 127)) L
          have h3 := List.length_filter_le (fun h : S27 => h.f1 == 1) (srt (bits .and .i64 a0 127) L)
          omega
        obtain ⟨s, hs'⟩ : ∃ s, (srt (bits .and .i64 a0 127) L).filter (fun h => h.f1 == 1) = s := ⟨_, rfl⟩
        rw [hs'] at hs hon hlen
        have HQ := Aside0.mk hs
        have HON := Aside0.mk hon
        clear hs hon hs'
        go_wp2_with fail
        refine HQ.out.mono ?_
        rintro e w4 ha
        obtain ⟨A2, c2, rfl, hc2, hrow, hA2⟩ := ha.row
        have HS4 := Aside0.mk (HS.out.apart1 ha.only (by omega) (by omega) (fun a ha => by cases ha))
        have HB4 := Aside0.mk (Only.bel HB.out ha.only (by omega) (Nat.le_refl _))
        have HROW := Aside0.mk hrow
        clear ha hrow hA2 HR HS HB HQ
        go_wp2_with fail
        go_loopw [12] (fun v12 wq => ∃ j : Nat, v12 = .int .i64 (j : Int) ∧ j ≤ s.length ∧ wq = w4) (fun v12 _ => s.length - (intOf v12).toNat)
        case atStart => exact ⟨0, rfl, by omega, rfl⟩
        case round =>
          obtain ⟨j, rfl, hj, rfl⟩ := hrel
          by_cases hjl : j < s.length
          · have z1 : decide ((j : Int) < (s.length : Int)) = true := decide_eq_true (by omega)
            have p0 : 0 ≤ (j : Int) := by omega
            have p1 : (j : Int) < (s.length : Int) := by omega
            obtain ⟨ad, e1, x0, x1, x2, x3, x4⟩ := at_T27 HROW.out (j : Int) p0 p1
            cases e1
            obtain ⟨h, hh⟩ : ∃ h, rd_T27 s (j : Int) = h := ⟨_, rfl⟩
            have hmem : h ∈ s := by
              rw [← hh]
              unfold rd_T27
              rw [Int.toNat_natCast, List.getD_eq_getElem?_getD, List.getElem?_eq_getElem hjl]
              exact List.getElem_mem hjl
            have hon := HON.out h hmem
            rw [hh] at x4
            simp only [Int.toNat_natCast] at x4
            clear hh x0 x1 x2 x3 hmem
            replace p0 := eq_true p0
            replace p1 := eq_true p1
            cases hf : h.f4 != 0 with
            | false =>
              go_wp2
              go_roundw
              case rel => exact ⟨j + 1, by simp, by omega, by simp⟩
              case measure => simp [intOf]; omega
            | true =>
              rw [hf, Bool.true_and] at hon
              go_wp2
              go_roundw
              case rel => exact ⟨j + 1, by simp, by omega, by simp⟩
              case measure => simp [intOf]; omega
          · have z1 : decide ((j : Int) < (s.length : Int)) = false := decide_eq_false (by omega)
            have hq := sorted_calls 1 _ HS4.out (by omega)
            have hall : ((srt 127 L).filter (fun h => h.f1 == 1)).length = L.length := by
              have h1 : L.filter (onH 127) = L := List.filter_eq_self.2 fun x hx => by obtain ⟨y, rfl⟩ := HX.out x hx; exact cut_on y
              have h2 := srt_perm 127 L
              rw [h1] at h2
              rw [(h2.filter _).length_eq, List.filter_eq_self.2 fun x hx => by obtain ⟨y, rfl⟩ := HX.out x hx; rfl]
            obtain ⟨s2, hs2⟩ : ∃ s, (srt 127 L).filter (fun h => h.f1 == 1) = s := ⟨_, rfl⟩
            rw [hs2] at hq hall
            have HQ := Aside0.mk hq
            have HB5 := HB4
            clear hq hs2
            go_wp2_with fail
            refine HQ.out.mono ?_
            rintro e w9 ha
            obtain ⟨A9, c9, rfl, -⟩ := ha.row
            have HB9 := Aside0.mk (Only.bel HB5.out ha.only (by omega) (Nat.le_refl _))
            have z2 : ((s2.length : Int) == (L.length : Int)) = true := by rw [hall]; exact beq_self_eq_true _
            have z3 : decide ((s.length : Int) ≤ (L.length : Int)) = true := decide_eq_true (by omega)
            clear ha HQ
            go_wp2
            go_ret
            exact ⟨rfl, HB9.out⟩
end Go.Proofs.Ytfhgdjajifnfiaa.PA

namespace Go.Proofs.Ytfhgdjajifnfiaa.Pure
open Go.RowKit
theorem RegistryBits : ∀ (a0 : Int) (l1 : List PA.S27), (Lit.int .i64 a0).wf = true → PA.incipitlaw07_RegistryBits.f a0 l1 = some true := fun _ _ _ => rfl
end Go.Proofs.Ytfhgdjajifnfiaa.Pure
