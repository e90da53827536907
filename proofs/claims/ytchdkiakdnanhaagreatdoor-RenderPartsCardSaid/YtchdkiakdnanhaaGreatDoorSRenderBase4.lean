/-
  Texts of the proof of RenderBase, part 4 of 4: contracts and plain laws. Conditions: see each statement.
-/
import Derived.Test.YtchdkiakdnanhaaGreatDoorSRenderBase3
import Derived.Test.YtchdkiakdnanhaaGreatDoorCards
import Derived.Test.YtchdkiakdnanhaaGreatDoorTie
import Derived.Test.YtchdkiakdnanhaaGreatDoorSRenderBase1
import Derived.WalkKit
import Derived.ProofKit
import Derived.OpenShut
import Derived.ShutString
import Derived.ChangeOld
import Derived.Below
import Derived.SizedLaws
import Derived.Deep.DeepHandedRow
import Derived.Lib.LaidTab
import Derived.Lib.LaidU8
import Derived.Shelf.Vars
import Derived.Test.YtchdkiakdnanhaaGreatDoorWSized
import Derived.LaidByText
import Derived.Deep.DeepWitnessRowRef
set_option linter.unusedVariables false
set_option linter.unusedSimpArgs false
namespace Go.Proofs.YtchdkiakdnanhaaGreatDoor.PA
open Go.RowKit Go.Sort Go.Proofs.YtchdkiakdnanhaaGreatDoor.Pl Go.Proofs.YtchdkiakdnanhaaGreatDoorW.PrintWords Go.Proofs.YtchdkiakdnanhaaGreatDoorW.PrintLast Go.Proofs.YtchdkiakdnanhaaGreatDoorW.PrintMore
set_option linter.unusedVariables false

theorem blk1_eta (m : Int) (x : Nd) : blk1 m x =
    if x.f0 = 7 then tagd [112] [] (inl m x.f6) ++ [10]
    else if x.f0 = 8 then tagd ([104] ++ Lib.itoa (min (max x.f3 1) 6)) (atr [105, 100] (htm x.f2.data.toList)) (inl m x.f6) ++ [10]
    else if x.f0 = 9 then [60, 104, 114, 32, 47, 62, 10]
    else if x.f0 = 5 then codT x.f1.data.toList x.f2.data.toList
    else if x.f0 = 6 then rawT m x.f1.data.toList
    else if x.f0 = 2 then [60, 98, 108, 111, 99, 107, 113, 117, 111, 116, 101, 62, 10] ++ (blk m x.f6 ++ [60, 47, 98, 108, 111, 99, 107, 113, 117, 111, 116, 101, 62, 10])
    else if x.f0 = 3 then lstO x.f3 x.f4 ++ (itms m x.f5 x.f6 ++ lstC x.f4)
    else if x.f0 = 10 then tblT m x.f6
    else blk m x.f6 := by cases x; rw [blk1]
set_option maxHeartbeats 8000000 in
set_option maxRecDepth 100000 in
theorem blk_step (N : Nat) (IH : BlkC N) : BlkC (N + 1) := by
  intro l hwl w0 b m X w A c hLd hq hwt0 hl
  have HLD := Aside0.mk hLd
  have HQ := Aside0.mk hq
  have HW := Aside0.mk hwt0
  have HIH := Aside0.mk IH
  have hlen := hq.len
  obtain ⟨R, hR⟩ : ∃ R, Wrote w0 b m X (blk m l) w = R := ⟨_, rfl⟩
  have HR := Aside0.mk hR
  have HL := Aside0.mk hl
  have HWL := Aside0.mk hwl
  rw [hR]
  clear hq hwt0 IH hR hl hwl hLd
  go_enter Tryz.func25, Tryz.ntmps25
  go_wp2_with fail
  go_loopw [5, 8] (fun v5 v8 wr => ∃ i : Nat, v8 = .int .i64 (i : Int) ∧ i ≤ l.length ∧ Aside0 (Wt w0 b m (X ++ blk m (l.take i)) wr) ∧ Aside0 (Lib.OthersKept 5 (some b) w wr)) (fun _ v8 _ => l.length - (intOf v8).toNat)
  case atStart => exact ⟨0, rfl, by omega, ⟨by rw [List.take_zero, blk, List.append_nil]; exact HW.out⟩, ⟨Lib.OthersKept.refl _ _ _⟩⟩
  case round =>
    obtain ⟨i, rfl, hi, HB, HO⟩ := hrel
    by_cases hlt : i < l.length
    · have q1 : decide ((i : Int) < (l.length : Int)) = true := decide_eq_true (by omega)
      have p0 := eq_true (show 0 ≤ (i : Int) from by omega)
      have p1 := eq_true (show (i : Int) < (l.length : Int) from by omega)
      obtain ⟨ad, A6, c6, e1, hq6, hel⟩ := HQ.out.at' hlt
      cases e1
      have hwt := HQ.out.wt_lt hlt
      have hsum := wt_take_at hlt
      have hr1 := blk_len m (l.take i) (okl_take HQ.out.ok i)
      have hst := blk_take m hlt
      have hok := okl_mem HQ.out.ok (List.getElem_mem hlt)
      obtain ⟨x, hx⟩ : ∃ x, l[i] = x := ⟨_, rfl⟩
      rw [hx] at hq6 hel hwt hst hsum hok
      have hwx := wt1_eta x
      obtain ⟨⟨hn, hm, hs1, hs2⟩, hok6⟩ := ok1_eta hok
      obtain ⟨x0, x1, x2, x3, x4, x5, x6⟩ := hel wr HB.out.bel
      obtain ⟨X1, hX1⟩ : ∃ X1, X ++ blk m (l.take i) = X1 := ⟨_, rfl⟩
      have hlb : X1.length + 300 * (1 + x.f1.size + x.f2.size + wt x.f6) ≤ 70368744177664 := by
        have := HL.out
        rw [← hX1, List.length_append]
        omega
      rw [hX1] at HB
      have HLB := Aside0.mk hlb
      have HQ6 := Aside0.mk hq6
      have HWT6 := Aside0.mk (show wt x.f6 < N from by have := HWL.out; omega)
      have HST := Aside0.mk (show X ++ blk m (l.take (i + 1)) = X1 ++ blk1 m x from by rw [hst, ← hX1, List.append_assoc])
      have HN := Aside0.mk hn
      have HM := Aside0.mk hm
      have HS1 := Aside0.mk hs1
      have HS2 := Aside0.mk hs2
      clear hx hel hwt hsum hr1 hst hq6 hwx hlb hX1 hok hok6 hn hm hs1 hs2
      obtain ⟨o, ho⟩ : ∃ o, wr.heap.size = o := ⟨_, rfl⟩
      have hbk := heap_alloc_new wr (.cells (ncs x A6 c6) 29)
      have hcx : Cx w0 w b m X1 wr.heap.size x A6 c6 (wr.alloc (.cells (ncs x A6 c6) 29)) := ⟨HB.out.step (below_alloc (Below.refl _ _) _), hbk, HO.out.alloc _⟩
      obtain ⟨w1, hw1⟩ : ∃ w1, wr.alloc (.cells (ncs x A6 c6) 29) = w1 := ⟨_, rfl⟩
      rw [hw1, ho] at hcx
      have HC1 := Aside0.mk hcx
      obtain ⟨d0, d1, d2, d3, d4, d5, d6⟩ := hcx.nd
      clear hbk hcx HB HO
      have HE := Aside0.mk (blk1_eta m x)
      have HIN := Aside0.mk (fun (X' : List UInt8) (W : World) (hW : Wt w0 b m X' W) (tag attrs : List UInt8) (hl' : X'.length + (5 + 2 * tag.length + attrs.length + 300 * wt x.f6) ≤ 70368744177664) => in_any HLD.out HQ6.out hW tag attrs hl')
      have HIL := Aside0.mk (inl_len m x.f6 HQ6.out.ok)
      have HBL := Aside0.mk (blk_len m x.f6 HQ6.out.ok)
      have HWX := Aside0.mk (show wt x.f6 < N from HWT6.out)
      by_cases k7 : x.f0 = 7
      · have z7 : (x.f0 == 7) = true := beq_iff_eq.2 k7
        have HT := Aside0.mk (show blk1 m x = tagd [112] [] (inl m x.f6) ++ [10] from by rw [HE.out, if_pos k7])
        clear k7
        have HP := Aside0.mk (HIN.out X1 w1 HC1.out.wt [112] [] (by have := HLB.out; simp only [List.length_cons, List.length_nil]; omega))
        go_wp2_with fail
        refine HP.out.mono ?_
        rintro e w2 hq
        have HC2 := Aside0.mk (HC1.out.wrote hq)
        obtain rfl := hq.ret
        clear hq
        clear d0 d1 d2 d3 d4 d5 d6
        have HP2 := Aside0.mk (put_l HC2.out.wt [[10]] [10] rfl (by have := HLB.out; have := HIL.out; rw [List.length_append, tagd_len]; simp only [List.length_cons, List.length_nil]; omega) (by simp))
        go_wp2_with fail
        refine HP2.out.mono ?_
        rintro e w3 hq
        have HC3 := Aside0.mk (HC2.out.wrote hq)
        obtain rfl := hq.ret
        clear hq
        have HF := Aside0.mk (show Cx w0 w b m (X ++ blk m (l.take (i + 1))) o x A6 c6 w3 from by rw [HST.out, HT.out]; have := HC3.out; simpa only [List.append_assoc] using this)
        go_wp2
        go_roundw
        case rel => exact ⟨i + 1, by simp, by omega, ⟨HF.out.wt⟩, ⟨HF.out.oth⟩⟩
        case measure => simp [intOf]; omega
      · have z7 : (x.f0 == 7) = false := beq_eq_false_iff_ne.2 k7
        by_cases k8 : x.f0 = 8
        · have z8 : (x.f0 == 8) = true := beq_iff_eq.2 k8
          have hHt := (htm_len x.f2.data.toList).2
          have hAt := atr_len [105, 100] (htm x.f2.data.toList)
          have hx2 : x.f2.data.toList.length = x.f2.size := by rw [Array.length_toList]; rfl
          have hIt := itoa_len (n := min (max x.f3 1) 6) (by omega) (by omega)
          have hT := HE.out
          rw [if_neg k7, if_pos k8] at hT
          have HHT := Aside0.mk (fun W => html_b x.f2 (Nat.le_trans HS2.out (by decide)) W)
          have HIT := Aside0.mk (fun (W : World) (hW : Below w0.heap.size w0 W) => itoa_any (min (max x.f3 1) 6) (by omega) (by omega) W (HLD.out.go hW))
          obtain ⟨it, hit⟩ : ∃ a, Lib.itoa (min (max x.f3 1) 6) = a := ⟨_, rfl⟩
          obtain ⟨ht, hht⟩ : ∃ a, htm x.f2.data.toList = a := ⟨_, rfl⟩
          rw [hit] at hIt hT
          rw [hht] at hHt hAt hT
          simp only [hit] at HIT
          simp only [hht] at HHT
          have HAT := Aside0.mk (fun W => attr_calls [105, 100] ht (by decide) (by have := HS2.out; omega) W)
          obtain ⟨at', hat⟩ : ∃ a, atr [105, 100] ht = a := ⟨_, rfl⟩
          rw [hat] at hAt hT
          simp only [hat] at HAT
          simp only [List.length_cons, List.length_nil] at hAt
          have hcat : (⟨#[104]⟩ : ByteArray) ++ B it = B ([104] ++ it) := by
            show B [104] ++ B it = _
            simp only [B_ap]
          have HT := Aside0.mk hT
          have HIN8 := Aside0.mk (fun (W : World) (hW : Wt w0 b m X1 W) => (show Calls Tryz.prog 37 #[.pointer (some ⟨b, 0, none⟩), .string ((⟨#[104]⟩ : ByteArray) ++ B it), .string (B at'), .slice A6 x.f6.length c6] W (Wrote w0 b m X1 (tagd ([104] ++ it) at' (inl m x.f6)) W) from by
            rw [hcat]
            exact HIN.out X1 W hW ([104] ++ it) at' (by have := HLB.out; have := HS2.out; simp only [List.length_append, List.length_cons, List.length_nil]; omega)))
          have HSZ := Aside0.mk (show X1.length + (tagd ([104] ++ it) at' (inl m x.f6)).length + 1 ≤ 70368744177664 from by
            have := HLB.out
            have := HIL.out
            rw [tagd_len]
            simp only [List.length_append, List.length_cons, List.length_nil]
            omega)
          have si := B_size it
          have y1 : ¬ 9223372036854775807 < 1 + (B it).size := by omega
          clear k7 k8 hHt hAt hIt hx2 hT hit hht hat hcat si
          go_upto_region 9 with fail
          go_region_held3 (fun W => W.cell? ⟨o, 2, none⟩ = some (.string x.f2) ∧ W.cell? ⟨o, 3, none⟩ = some (.int .i64 x.f3) ∧ W.cell? ⟨o, 6, none⟩ = some (.slice A6 x.f6.length c6)) (first | exact ⟨HC5.out.nd.d2, HC5.out.nd.d3, HC5.out.nd.d6⟩ | exact ⟨HC4.out.nd.d2, HC4.out.nd.d3, HC4.out.nd.d6⟩ | exact ⟨HC3.out.nd.d2, HC3.out.nd.d3, HC3.out.nd.d6⟩ | exact ⟨HC2.out.nd.d2, HC2.out.nd.d3, HC2.out.nd.d6⟩ | exact ⟨HC1.out.nd.d2, HC1.out.nd.d3, HC1.out.nd.d6⟩ | exact ⟨HC1.out.drew.nd.d2, HC1.out.drew.nd.d3, HC1.out.drew.nd.d6⟩ | exact ⟨(HC1.out.drewN _).nd.d2, (HC1.out.drewN _).nd.d3, (HC1.out.drewN _).nd.d6⟩)
            (first
            | (go_at_call 29; refine (HIT.out _ (by first | exact HC1.out.wt.bel | exact HC1.out.drew.wt.bel | exact (HC1.out.drewN _).wt.bel)).mono ?_; rintro e v1 ⟨rfl, hb⟩; have HC2 := Aside0.mk (show Cx w0 w b m X1 o x A6 c6 v1 from by first | exact HC1.out.step hb | exact HC1.out.drew.step hb | exact (HC1.out.drewN _).step hb); clear hb)
            | (go_at_call 39; refine (HHT.out _).mono ?_; rintro e v2 ⟨rfl, hb⟩; have HC3 := Aside0.mk (HC2.out.step hb); clear hb)
            | (go_at_call 38; refine (HAT.out _).mono ?_; rintro e v3 ⟨rfl, rfl⟩; have HC4 := HC3)
            | (go_at_call 37; refine (HIN8.out _ HC4.out.wt).mono ?_; rintro e v5 hq; have HC5 := Aside0.mk (HC4.out.wrote hq); obtain rfl := hq.ret; clear hq))
          all_goals
            have HC6 := Aside0.mk (show Cx w0 w b m (X1 ++ tagd ([104] ++ it) at' (inl m x.f6)) o x A6 c6 _ from by first | exact HC5.out | exact HC5.out.drew)
            clear HC1 HC2 HC3 HC4 HC5 d0 d1 d2 d3 d4 d5 d6
            have HP2 := Aside0.mk (put_l HC6.out.wt [[10]] [10] rfl (by have := HSZ.out; rw [List.length_append]; simp only [List.length_cons, List.length_nil]; omega) (by simp))
            go_wp2_with fail
            refine HP2.out.mono ?_
            rintro e w7 hq
            have HC7 := Aside0.mk (HC6.out.wrote hq)
            obtain rfl := hq.ret
            clear hq
            have HF := Aside0.mk (show Cx w0 w b m (X ++ blk m (l.take (i + 1))) o x A6 c6 w7 from by rw [HST.out, HT.out]; have := HC7.out; simpa only [List.append_assoc] using this)
            go_wp2
            go_roundw
            case rel => exact ⟨i + 1, by simp, by omega, ⟨HF.out.wt⟩, ⟨HF.out.oth⟩⟩
            case measure => simp [intOf]; omega
        · have z8 : (x.f0 == 8) = false := beq_eq_false_iff_ne.2 k8
          by_cases k9 : x.f0 = 9
          · have z9 : (x.f0 == 9) = true := beq_iff_eq.2 k9
            have HT := Aside0.mk (show blk1 m x = [60, 104, 114, 32, 47, 62, 10] from by rw [HE.out, if_neg k7, if_neg k8, if_pos k9])
            clear k7 k8 k9
            have HP := Aside0.mk (put_l HC1.out.wt [[60, 104, 114, 32, 47, 62, 10]] [60, 104, 114, 32, 47, 62, 10] rfl (by have := HLB.out; simp only [List.length_cons, List.length_nil]; omega) (by simp))
            go_wp2_with fail
            refine HP.out.mono ?_
            rintro e w2 hq
            have HC2 := Aside0.mk (HC1.out.wrote hq)
            obtain rfl := hq.ret
            clear hq
            clear d0 d1 d2 d3 d4 d5 d6
            have HF := Aside0.mk (show Cx w0 w b m (X ++ blk m (l.take (i + 1))) o x A6 c6 w2 from by rw [HST.out, HT.out]; exact HC2.out)
            go_wp2
            go_roundw
            case rel => exact ⟨i + 1, by simp, by omega, ⟨HF.out.wt⟩, ⟨HF.out.oth⟩⟩
            case measure => simp [intOf]; omega
          · have z9 : (x.f0 == 9) = false := beq_eq_false_iff_ne.2 k9
            by_cases k5 : x.f0 = 5
            · have z5 : (x.f0 == 5) = true := beq_iff_eq.2 k5
              have HT := Aside0.mk (show blk1 m x = codT x.f1.data.toList x.f2.data.toList from by rw [HE.out, if_neg k7, if_neg k8, if_neg k9, if_pos k5])
              clear k7 k8 k9 k5
              have HP := Aside0.mk (code_calls HC1.out.wt x A6 c6 HS1.out HS2.out (by have h1 := codT_len x.f1.data.toList x.f2.data.toList; have hx1 : x.f1.data.toList.length = x.f1.size := (by rw [Array.length_toList]; rfl); have hx2 : x.f2.data.toList.length = x.f2.size := (by rw [Array.length_toList]; rfl); have := HLB.out; omega))
              go_wp2_with fail
              refine HP.out.mono ?_
              rintro e w2 hq
              have HC2 := Aside0.mk (HC1.out.wrote hq)
              obtain rfl := hq.ret
              clear hq
              clear d0 d1 d2 d3 d4 d5 d6
              have HF := Aside0.mk (show Cx w0 w b m (X ++ blk m (l.take (i + 1))) o x A6 c6 w2 from by rw [HST.out, HT.out]; exact HC2.out)
              go_wp2
              go_roundw
              case rel => exact ⟨i + 1, by simp, by omega, ⟨HF.out.wt⟩, ⟨HF.out.oth⟩⟩
              case measure => simp [intOf]; omega
            · have z5 : (x.f0 == 5) = false := beq_eq_false_iff_ne.2 k5
              by_cases k6 : x.f0 = 6
              · have z6 : (x.f0 == 6) = true := beq_iff_eq.2 k6
                have HT := Aside0.mk (show blk1 m x = rawT m x.f1.data.toList from by rw [HE.out, if_neg k7, if_neg k8, if_neg k9, if_neg k5, if_pos k6])
                clear k7 k8 k9 k5 k6
                have HP := Aside0.mk (show Calls Tryz.prog 41 #[.pointer (some ⟨b, 0, none⟩), .string x.f1] w1 (Wrote w0 b m X1 (rawT m x.f1.data.toList) w1) from raw_calls HC1.out.wt HLD.out x.f1.data.toList (by rw [Array.length_toList]; exact Nat.le_trans HS1.out (by decide)) (by have h1 := rawT_len m x.f1.data.toList; have hx1 : x.f1.data.toList.length = x.f1.size := (by rw [Array.length_toList]; rfl); have := HLB.out; omega))
                go_wp2_with fail
                refine HP.out.mono ?_
                rintro e w2 hq
                have HC2 := Aside0.mk (HC1.out.wrote hq)
                obtain rfl := hq.ret
                clear hq
                clear d0 d1 d2 d3 d4 d5 d6
                have HF := Aside0.mk (show Cx w0 w b m (X ++ blk m (l.take (i + 1))) o x A6 c6 w2 from by rw [HST.out, HT.out]; exact HC2.out)
                go_wp2
                go_roundw
                case rel => exact ⟨i + 1, by simp, by omega, ⟨HF.out.wt⟩, ⟨HF.out.oth⟩⟩
                case measure => simp [intOf]; omega
              · have z6 : (x.f0 == 6) = false := beq_eq_false_iff_ne.2 k6
                by_cases k2 : x.f0 = 2
                · have z2 : (x.f0 == 2) = true := beq_iff_eq.2 k2
                  have HT := Aside0.mk (show blk1 m x = [60, 98, 108, 111, 99, 107, 113, 117, 111, 116, 101, 62, 10] ++ (blk m x.f6 ++ [60, 47, 98, 108, 111, 99, 107, 113, 117, 111, 116, 101, 62, 10]) from by rw [HE.out, if_neg k7, if_neg k8, if_neg k9, if_neg k5, if_neg k6, if_pos k2])
                  clear k7 k8 k9 k5 k6 k2
                  have HP := Aside0.mk (put_l HC1.out.wt [[60, 98, 108, 111, 99, 107, 113, 117, 111, 116, 101, 62, 10]] [60, 98, 108, 111, 99, 107, 113, 117, 111, 116, 101, 62, 10] rfl (by have := HLB.out; simp only [List.length_cons, List.length_nil]; omega) (by simp))
                  go_wp2_with fail
                  refine HP.out.mono ?_
                  rintro e w2 hq
                  have HC2 := Aside0.mk (HC1.out.wrote hq)
                  obtain rfl := hq.ret
                  clear hq
                  clear d0 d1 d2 d3 d4 d5 d6
                  obtain ⟨d0, d1, d2, d3, d4, d5, d6⟩ := HC2.out.nd
                  have HP2 := Aside0.mk (HIH.out x.f6 HWX.out w0 b m _ w2 A6 c6 HLD.out HQ6.out HC2.out.wt (by have := HLB.out; simp only [List.length_append, List.length_cons, List.length_nil]; omega))
                  go_wp2_with fail
                  refine HP2.out.mono ?_
                  rintro e w3 hq
                  have HC3 := Aside0.mk (HC2.out.wrote hq)
                  obtain rfl := hq.ret
                  clear hq
                  clear d0 d1 d2 d3 d4 d5 d6
                  have HP3 := Aside0.mk (put_l HC3.out.wt [[60, 47, 98, 108, 111, 99, 107, 113, 117, 111, 116, 101, 62, 10]] [60, 47, 98, 108, 111, 99, 107, 113, 117, 111, 116, 101, 62, 10] rfl (by have := HLB.out; have := HBL.out; simp only [List.length_append, List.length_cons, List.length_nil]; omega) (by simp))
                  go_wp2_with fail
                  refine HP3.out.mono ?_
                  rintro e w4 hq
                  have HC4 := Aside0.mk (HC3.out.wrote hq)
                  obtain rfl := hq.ret
                  clear hq
                  have HF := Aside0.mk (show Cx w0 w b m (X ++ blk m (l.take (i + 1))) o x A6 c6 w4 from by rw [HST.out, HT.out]; have := HC4.out; simpa only [List.append_assoc] using this)
                  go_wp2
                  go_roundw
                  case rel => exact ⟨i + 1, by simp, by omega, ⟨HF.out.wt⟩, ⟨HF.out.oth⟩⟩
                  case measure => simp [intOf]; omega
                · have z2 : (x.f0 == 2) = false := beq_eq_false_iff_ne.2 k2
                  by_cases k3 : x.f0 = 3
                  · have z3 : (x.f0 == 3) = true := beq_iff_eq.2 k3
                    have HT := Aside0.mk (show blk1 m x = lstO x.f3 x.f4 ++ (itms m x.f5 x.f6 ++ lstC x.f4) from by rw [HE.out, if_neg k7, if_neg k8, if_neg k9, if_neg k5, if_neg k6, if_neg k2, if_pos k3])
                    clear k7 k8 k9 k5 k6 k2 k3
                    have HP := Aside0.mk (list_calls N HIH.out HC1.out.wt HLD.out x A6 c6 HQ6.out HWX.out HN.out (by have := HLB.out; omega))
                    go_wp2_with fail
                    refine HP.out.mono ?_
                    rintro e w2 hq
                    have HC2 := Aside0.mk (HC1.out.wrote hq)
                    obtain rfl := hq.ret
                    clear hq
                    clear d0 d1 d2 d3 d4 d5 d6
                    have HF := Aside0.mk (show Cx w0 w b m (X ++ blk m (l.take (i + 1))) o x A6 c6 w2 from by rw [HST.out, HT.out]; exact HC2.out)
                    go_wp2
                    go_roundw
                    case rel => exact ⟨i + 1, by simp, by omega, ⟨HF.out.wt⟩, ⟨HF.out.oth⟩⟩
                    case measure => simp [intOf]; omega
                  · have z3 : (x.f0 == 3) = false := beq_eq_false_iff_ne.2 k3
                    by_cases k10 : x.f0 = 10
                    · have z10 : (x.f0 == 10) = true := beq_iff_eq.2 k10
                      have HT := Aside0.mk (show blk1 m x = tblT m x.f6 from by rw [HE.out, if_neg k7, if_neg k8, if_neg k9, if_neg k5, if_neg k6, if_neg k2, if_neg k3, if_pos k10])
                      clear k7 k8 k9 k5 k6 k2 k3 k10
                      have HP := Aside0.mk (table_calls (m := m) HLD.out HQ6.out HC1.out.wt (by have := HLB.out; omega))
                      go_wp2_with fail
                      refine HP.out.mono ?_
                      rintro e w2 hq
                      have HC2 := Aside0.mk (HC1.out.wrote hq)
                      obtain rfl := hq.ret
                      clear hq
                      clear d0 d1 d2 d3 d4 d5 d6
                      have HF := Aside0.mk (show Cx w0 w b m (X ++ blk m (l.take (i + 1))) o x A6 c6 w2 from by rw [HST.out, HT.out]; exact HC2.out)
                      go_wp2
                      go_roundw
                      case rel => exact ⟨i + 1, by simp, by omega, ⟨HF.out.wt⟩, ⟨HF.out.oth⟩⟩
                      case measure => simp [intOf]; omega
                    · have z10 : (x.f0 == 10) = false := beq_eq_false_iff_ne.2 k10
                      have HT := Aside0.mk (show blk1 m x = blk m x.f6 from by rw [HE.out, if_neg k7, if_neg k8, if_neg k9, if_neg k5, if_neg k6, if_neg k2, if_neg k3, if_neg k10])
                      clear k7 k8 k9 k5 k6 k2 k3 k10
                      have HP := Aside0.mk (HIH.out x.f6 HWX.out w0 b m X1 w1 A6 c6 HLD.out HQ6.out HC1.out.wt (by have := HLB.out; omega))
                      go_wp2_with fail
                      refine HP.out.mono ?_
                      rintro e w2 hq
                      have HC2 := Aside0.mk (HC1.out.wrote hq)
                      obtain rfl := hq.ret
                      clear hq
                      clear d0 d1 d2 d3 d4 d5 d6
                      have HF := Aside0.mk (show Cx w0 w b m (X ++ blk m (l.take (i + 1))) o x A6 c6 w2 from by rw [HST.out, HT.out]; exact HC2.out)
                      go_wp2
                      go_roundw
                      case rel => exact ⟨i + 1, by simp, by omega, ⟨HF.out.wt⟩, ⟨HF.out.oth⟩⟩
                      case measure => simp [intOf]; omega
    · have q1 : decide ((i : Int) < (l.length : Int)) = false := decide_eq_false (by omega)
      have htk : l.take i = l := List.take_of_length_le (by omega)
      rw [htk] at HB
      clear htk
      go_wp2
      go_end0
      rw [← HR.out]
      exact ⟨rfl, HB.out, HO.out⟩
theorem blk_all : ∀ N, BlkC N := by
  intro N
  induction N with
  | zero => exact fun l h => absurd h (Nat.not_lt_zero _)
  | succ N ih => exact blk_step N ih
theorem wt_new (m : Int) (w : World) : Wt w w.heap.size m [] (w.alloc (.cells #[.pointer none, .slice none 0 0, .int .i64 m] 50)) :=
  ⟨(Below.refl _ w).alloc (Nat.le_refl _) _, Nat.le_refl _, _, _, .inl rfl, heap_alloc_new w _, by
    refine ⟨rfl, .inl ⟨rfl, rfl⟩⟩⟩
set_option maxHeartbeats 1000000 in
set_option maxRecDepth 100000 in
theorem Blocks_calls {w : World} {A : Option Addr} {c : Nat} {l : List Nd} (m : Int) (hLd : LaidW w) (hq : Rq w A c l) :
    Calls Tryz.prog 13 #[.slice A l.length c, .int .i64 m] w fun e w' => e = .returned (.string (B (blk m l))) ∧ Below w.heap.size w w' := by
  have HP := Aside0.mk (blk_all (wt l + 1) l (Nat.lt_succ_self _) w w.heap.size m [] _ A c hLd hq (wt_new m w) (by have := hq.lim; simp; omega))
  clear hq hLd
  go_enter Tryz.func13, Tryz.ntmps13
  go_wp2_with fail
  refine HP.out.mono ?_
  rintro e w2 hq
  have hw := hq.wt
  rw [List.nil_append] at hw
  have HO := Aside0.mk (wout hw)
  obtain rfl := hq.ret
  clear hq hw HP
  go_wp2_with fail
  refine HO.out.mono ?_
  rintro e w3 ⟨rfl, hb3⟩
  have HB3 := Aside0.mk hb3
  clear hb3
  go_wp2
  go_ret
  exact ⟨rfl, HB3.out⟩
set_option maxHeartbeats 1000000 in
set_option maxRecDepth 100000 in
theorem Inlines_calls {w : World} {A : Option Addr} {c : Nat} {l : List Nd} (m : Int) (hLd : LaidW w) (hq : Rq w A c l) :
    Calls Tryz.prog 14 #[.slice A l.length c, .int .i64 m] w fun e w' => e = .returned (.string (B (inl m l))) ∧ Below w.heap.size w w' := by
  have HP := Aside0.mk (inl_calls hLd hq (wt_new m w) (by have := hq.lim; simp; omega))
  clear hq hLd
  go_enter Tryz.func14, Tryz.ntmps14
  go_wp2_with fail
  refine HP.out.mono ?_
  rintro e w2 hq
  have hw := hq.wt
  rw [List.nil_append] at hw
  have HO := Aside0.mk (wout hw)
  obtain rfl := hq.ret
  clear hq hw HP
  go_wp2_with fail
  refine HO.out.mono ?_
  rintro e w3 ⟨rfl, hb3⟩
  have HB3 := Aside0.mk hb3
  clear hb3
  go_wp2
  go_ret
  exact ⟨rfl, HB3.out⟩
end Go.Proofs.YtchdkiakdnanhaaGreatDoor.PA

namespace Go.Proofs.YtchdkiakdnanhaaGreatDoor.PA
open Go.RowKit Go.Sort Go.Proofs.YtchdkiakdnanhaaGreatDoor.Pl Go.Proofs.YtchdkiakdnanhaaGreatDoorW.PrintWords Go.Proofs.YtchdkiakdnanhaaGreatDoorW.PrintLast Go.Proofs.YtchdkiakdnanhaaGreatDoorW.PrintMore
set_option linter.unusedVariables false

theorem Rq.made {w : World} {A6 : Option Addr} {c6 : Nat} {x : Nd} (hq : Rq w A6 c6 x.f6) (hx : i64 x.f3 ∧ i64 x.f4 ∧ x.f1.size ≤ 1048576 ∧ x.f2.size ≤ 1048576) (hw : wt1 x ≤ 268435456) :
    Rq (w.alloc (.cells (ncs x A6 c6) 29)) (some ⟨w.heap.size, 0, none⟩) 1 [x] := by
  have hd := ndAt (heap_alloc_new w (.cells (ncs x A6 c6) 29))
  refine ⟨⟨rfl, by simp, fun _ => ⟨⟨w.heap.size, 0, none⟩, rfl, fun j p hj => ?_⟩⟩, Nat.le_refl _, ?_, ?_⟩
  · have hj0 : j = 0 := by
      have := (List.getElem?_eq_some_iff.1 hj).1
      simpa using this
    subst hj0
    obtain rfl : x = p := by simpa using hj
    refine ⟨_, rfl, k29_mk _ x hq.cap (Kd.C_below hq.row (below_alloc (Below.refl _ _) _)), fun i u hu => ?_⟩
    match i, hu with
    | 0, hu => simp at hu; subst hu; exact hd.d0
    | 1, hu => simp at hu; subst hu; exact hd.d1
    | 2, hu => simp at hu; subst hu; exact hd.d2
    | 3, hu => simp at hu; subst hu; exact hd.d3
    | 4, hu => simp at hu; subst hu; exact hd.d4
    | 5, hu => simp at hu; subst hu; exact hd.d5
    | 6, hu => simp at hu; subst hu; exact hd.d6
  · rw [okl, okl]
    refine ⟨?_, trivial⟩
    have ho := hq.ok
    cases x
    rw [ok1]
    exact ⟨hx, ho⟩
  · rw [wt, wt]
    exact hw
theorem Rq.nil (w : World) : Rq w none 0 [] := ⟨⟨rfl, by decide, fun h => absurd h (by decide)⟩, Nat.le_refl _, by rw [okl]; trivial, by rw [wt]; decide⟩
theorem notes_nil (m : Int) (w : World) : Calls Tryz.prog 17 #[.slice none 0 0, .int .i64 m] w fun e w' => e = .returned (.string ⟨#[]⟩) ∧ w' = w := by
  go_enter Tryz.func17, Tryz.ntmps17
  go_wp2
  go_ret
  exact ⟨rfl, rfl⟩
abbrev aw1 : Nd := ⟨14, ⟨#[97, 60, 98]⟩, ⟨#[]⟩, 0, 0, false, []⟩
abbrev aw2 : Nd := ⟨7, ⟨#[]⟩, ⟨#[]⟩, 0, 0, false, [aw1]⟩
abbrev aw3 : Nd := ⟨4, ⟨#[]⟩, ⟨#[]⟩, 0, 0, false, [aw2]⟩
abbrev aw4 : Nd := ⟨3, ⟨#[]⟩, ⟨#[]⟩, 0, 0, true, [aw3]⟩
theorem aw_t1 : blk 0 [aw2] = [60, 112, 62, 97, 38, 108, 116, 59, 98, 60, 47, 112, 62, 10] := by decide +kernel
theorem aw_t2 : blk 0 [aw4] = [60, 117, 108, 62, 10, 60, 108, 105, 62, 97, 38, 108, 116, 59, 98, 60, 47, 108, 105, 62, 10, 60, 47, 117, 108, 62, 10] := by decide +kernel
theorem aw_t3 : flt [60, 83, 99, 114, 105, 112, 116, 62] = [38, 108, 116, 59, 83, 99, 114, 105, 112, 116, 62] := by decide +kernel
theorem aw_w1 : wt1 aw1 ≤ 268435456 := by decide +kernel
theorem aw_w2 : wt1 aw2 ≤ 268435456 := by decide +kernel
theorem aw_w3 : wt1 aw3 ≤ 268435456 := by decide +kernel
theorem aw_w4 : wt1 aw4 ≤ 268435456 := by decide +kernel
theorem aw_o1 : i64 aw1.f3 ∧ i64 aw1.f4 ∧ aw1.f1.size ≤ 1048576 ∧ aw1.f2.size ≤ 1048576 := ⟨by unfold i64; decide, by unfold i64; decide, by decide +kernel, by decide +kernel⟩
theorem aw_o2 : i64 aw2.f3 ∧ i64 aw2.f4 ∧ aw2.f1.size ≤ 1048576 ∧ aw2.f2.size ≤ 1048576 := ⟨by unfold i64; decide, by unfold i64; decide, by decide +kernel, by decide +kernel⟩
theorem aw_o3 : i64 aw3.f3 ∧ i64 aw3.f4 ∧ aw3.f1.size ≤ 1048576 ∧ aw3.f2.size ≤ 1048576 := ⟨by unfold i64; decide, by unfold i64; decide, by decide +kernel, by decide +kernel⟩
theorem aw_o4 : i64 aw4.f3 ∧ i64 aw4.f4 ∧ aw4.f1.size ≤ 1048576 ∧ aw4.f2.size ≤ 1048576 := ⟨by unfold i64; decide, by unfold i64; decide, by decide +kernel, by decide +kernel⟩
theorem i64_0 : i64 0 := by unfold i64; decide
set_option maxHeartbeats 400000 in
set_option maxRecDepth 100000 in
theorem awake_calls (w : World) (hLd : LaidW w) : Calls Tryz.prog 7 #[] w fun e w' => e = .returned (.bool true) ∧ Below w.heap.size w w' := by
  obtain ⟨w1, hw1⟩ : ∃ w1, w.alloc (.cells (ncs aw1 none 0) 29) = w1 := ⟨_, rfl⟩
  have q1 : Rq w1 (some ⟨w.heap.size, 0, none⟩) 1 [aw1] := by rw [← hw1]; exact Rq.made (x := aw1) (Rq.nil w) aw_o1 aw_w1
  obtain ⟨w2, hw2⟩ : ∃ w2, w1.alloc (.cells (ncs aw2 (some ⟨w.heap.size, 0, none⟩) 1) 29) = w2 := ⟨_, rfl⟩
  have q2 : Rq w2 (some ⟨w1.heap.size, 0, none⟩) 1 [aw2] := by rw [← hw2]; exact Rq.made (x := aw2) q1 aw_o2 aw_w2
  obtain ⟨w3, hw3⟩ : ∃ w3, w2.alloc (.cells (ncs aw3 (some ⟨w1.heap.size, 0, none⟩) 1) 29) = w3 := ⟨_, rfl⟩
  have q3 : Rq w3 (some ⟨w2.heap.size, 0, none⟩) 1 [aw3] := by rw [← hw3]; exact Rq.made (x := aw3) q2 aw_o3 aw_w3
  obtain ⟨w4, hw4⟩ : ∃ w4, w3.alloc (.cells (ncs aw4 (some ⟨w2.heap.size, 0, none⟩) 1) 29) = w4 := ⟨_, rfl⟩
  have q4 : Rq w4 (some ⟨w3.heap.size, 0, none⟩) 1 [aw4] := by rw [← hw4]; exact Rq.made (x := aw4) q3 aw_o4 aw_w4
  have b1 : Below w.heap.size w w1 := by rw [← hw1]; exact below_alloc (Below.refl _ _) _
  have b2 : Below w1.heap.size w1 w2 := by rw [← hw2]; exact below_alloc (Below.refl _ _) _
  have b3 : Below w2.heap.size w2 w3 := by rw [← hw3]; exact below_alloc (Below.refl _ _) _
  have b4 : Below w3.heap.size w3 w4 := by rw [← hw4]; exact below_alloc (Below.refl _ _) _
  have HB4 := Aside0.mk (below_step (below_step (below_step b1 b2) b3) b4)
  have HL4 := Aside0.mk (hLd.go HB4.out)
  have HP := Aside0.mk (Blocks_calls 0 HL4.out (q2.go (below_step b3 b4)))
  have HLI := Aside0.mk (fun (W : World) (hW : Below w4.heap.size w4 W) => Blocks_calls 0 (HL4.out.go hW) (q4.go hW))
  have HF := Aside0.mk (fun (W : World) (hW : Below w4.heap.size w4 W) => filter_calls [60, 83, 99, 114, 105, 112, 116, 62] (by decide) W (HL4.out.go hW))
  have HN := Aside0.mk (fun W => notes_nil 0 W)
  rw [aw_t1] at HP
  simp only [aw_t2] at HLI
  simp only [aw_t3] at HF
  obtain ⟨s1, hs1⟩ : ∃ s, B [60, 112, 62, 97, 38, 108, 116, 59, 98, 60, 47, 112, 62, 10] = s := ⟨_, rfl⟩
  obtain ⟨s2, hs2⟩ : ∃ s, B [60, 117, 108, 62, 10, 60, 108, 105, 62, 97, 38, 108, 116, 59, 98, 60, 47, 108, 105, 62, 10, 60, 47, 117, 108, 62, 10] = s := ⟨_, rfl⟩
  obtain ⟨s3, hs3⟩ : ∃ s, B [38, 108, 116, 59, 83, 99, 114, 105, 112, 116, 62] = s := ⟨_, rfl⟩
  rw [hs1] at HP
  simp only [hs2] at HLI
  simp only [hs3] at HF
  have z1 : (s1.toList == [60, 112, 62, 97, 38, 108, 116, 59, 98, 60, 47, 112, 62, 10]) = true := by rw [← hs1, B_toList]; rfl
  have z2 : (s2.toList == [60, 117, 108, 62, 10, 60, 108, 105, 62, 97, 38, 108, 116, 59, 98, 60, 47, 108, 105, 62, 10, 60, 47, 117, 108, 62, 10]) = true := by rw [← hs2, B_toList]; rfl
  have z3 : (s3.toList == [38, 108, 116, 59, 83, 99, 114, 105, 112, 116, 62]) = true := by rw [← hs3, B_toList]; rfl
  have HST := Aside0.mk (fun (W W' : World) (h : Below w4.heap.size w4 W) (k : Below W.heap.size W W') => below_step h k)
  have HEND := Aside0.mk (fun (W : World) (h : Below w4.heap.size w4 W) => below_step HB4.out h)
  obtain ⟨n4, hn4⟩ : ∃ n, w4.heap.size = n := ⟨_, rfl⟩
  rw [hn4] at HP HLI HF HST HEND
  clear q1 q2 q3 q4 b1 b2 b3 b4 hs1 hs2 hs3 hLd HL4 HB4 hn4
  subst hw4 hw3 hw2 hw1
  simp only [World.size_alloc] at HP HLI HF HST HEND
  go_enter Tryz.func7, Tryz.ntmps7
  go_wp2_with fail
  refine HP.out.mono ?_
  rintro e w5 ⟨rfl, hb5⟩
  have HB5 := Aside0.mk hb5
  clear hb5
  go_wp2_with fail
  refine (HLI.out _ HB5.out).mono ?_
  rintro e w6 ⟨rfl, hb6⟩
  have HB6 := Aside0.mk (HST.out _ _ HB5.out hb6)
  clear hb6
  go_wp2_with fail
  refine (HF.out _ HB6.out).mono ?_
  rintro e w7 ⟨rfl, hb7⟩
  have HB7 := Aside0.mk (HST.out _ _ HB6.out hb7)
  clear hb7
  go_wp2_with fail
  refine (HN.out _).mono ?_
  rintro e w8 ⟨rfl, rfl⟩
  go_wp2
  go_ret
  exact ⟨rfl, HEND.out _ HB7.out⟩
end Go.Proofs.YtchdkiakdnanhaaGreatDoor.PA

namespace Go.Proofs.YtchdkiakdnanhaaGreatDoor.RowU8
open Go.ChangeShapes Go.WideShapes Go.ChangeAt Go.RowKit Go.Lib

theorem own : ownKnob Tryz.prog.godebug = none := by kernel_rfl
theorem laidOut : laidOutB Tryz.prog = true := by kernel_rfl
theorem pow_eq : (Rows.laid_internal_strconv_uint64pow10 : DataW Unit) = tabData .u64 pow10Tab := by kernel_rfl
theorem laidOf {L : List (String × DataW Unit)} {W : World} (h : W.ShapedOpen Tryz.prog) (hL : laidMetH Tryz.prog L W) (hp : (L.all fun x => x.2.handleName?.isNone) = true)
    (h1 : ("internal/strconv.uint64pow10", (Rows.laid_internal_strconv_uint64pow10 : DataW Unit)) ∈ L) (_h2 : ("internal/strconv.uint64pow10", (Rows.laid_internal_strconv_uint64pow10 : DataW Unit)) ∈ L) : PA.LaidW W := by
  have hm : ∃ m : Int, W.cell? ⟨0, 0, none⟩ = some (.int .i64 m) :=
    cell_of_shapedOpen_int (t := 3) (zero := #[.int .i64 0]) h (of_decide_eq_true (by kernel_rfl)) (by kernel_rfl) rfl (by kernel_rfl) (by kernel_rfl) Tryz.underlying3
  obtain ⟨m, hm'⟩ := hm
  rw [MakeChecks.laidMetH_plain _ _ _ hp] at hL
  obtain ⟨g, t, cs, fuel, p, hg, hty, hvar, hd⟩ := laidMet.reads hL h1
  rw [pow_eq] at hd
  obtain rfl := Option.some.inj ((show Tryz.prog.globalNamed "internal/strconv.uint64pow10" = some 1 by kernel_rfl).symm.trans hg)
  obtain rfl := Option.some.inj ((show (Tryz.prog.globals[1]?).map (·.type) = some 112 by kernel_rfl).symm.trans hty)
  have hcs := cells_of_tab Tryz.underlying112 Tryz.underlying102 (by kernel_rfl) (by kernel_rfl) hd
  refine ⟨?_, ⟨m, hm'⟩, ?_⟩
  · unfold Lib.TabIs
    rw [hvar, ← hcs]
  · rcases Nat.lt_or_ge 0 W.heap.size with h' | h'
    · exact h'
    · simp [World.cell?, Array.getElem?_eq_none h'] at hm'
def layCells (a : Array Value) : Obj → Obj
  | .cells _ t frozen => .cells a t frozen
  | o => o
def firstCells : Array Value := ((List.range 256).map fun c => Value.int .u8 (firstT c)).toArray
/-- A world for the witness: what the dump's own initialisers leave (where unicode/utf8.first is listed: it holds what its row says). -/
noncomputable def laidWorld (os : Os) : World := varsWorld Tryz.prog 200 (varsId Tryz.prog) os (fun _ _ => 0)
theorem laidWorld_os (os : Os) : (laidWorld os).os = os := by kernel_rfl
/-- A slice of texts that came in: what is read. -/
theorem strs_row {H : Type} {enc : TypeId × Value → H} {P : Program} {W : World} {base : Nat} {spare : Nat → Bool} {held : Bool} {t e : TypeId} {a : Option Addr} {len cap fuel : Nat} {x : DataW H × List MemPlace}
    (ht : P.underlying t = some (.slice e)) (he : P.underlying e = some .string) (hc : P.cellsOf e = 1) (h : DataW.trod enc P W base spare held fuel t [.slice a len cap] = some x) :
    ∃ l : List ByteArray, len = l.length ∧ l.length ≤ cap ∧ YtchdkiakdnanhaaGreatDoorW.PrintWords.Kd.C YtchdkiakdnanhaaGreatDoorW.PrintWords.Kd.string W a l.length l ∧ ∀ x ∈ l, x.size ≤ maxLen := by
  rcases open_strings ht he hc h with ⟨hcs, _⟩ | ⟨ad, l, c, ss, hcs, _, hl, hm, hz, _, hcell, hw⟩
  · simp at hcs
    obtain ⟨rfl, rfl, rfl⟩ := hcs
    exact ⟨[], rfl, by simp, ⟨rfl, by simp, fun h => absurd h (by simp)⟩, by simp⟩
  · simp at hcs
    obtain ⟨rfl, rfl, rfl⟩ := hcs
    have hl2 : len ≤ ss.length := by
      rw [hz]
      split
      · exact hl
      · exact Nat.le_refl _
    have hlen : (ss.take len).length = len := by rw [List.length_take]; omega
    refine ⟨ss.take len, hlen.symm, by rw [hlen]; exact hl, ⟨rfl, by rw [hlen]; unfold maxLen at hm; omega, fun _ => ⟨ad, rfl, fun j p hj => ?_⟩⟩, fun x hx => hw x (List.mem_of_mem_take hx)⟩
    rw [List.getElem?_take] at hj
    split at hj
    · rename_i hjl
      refine ⟨[.string p], rfl, rfl, fun i u hi => ?_⟩
      have h0 := hcell j (by omega)
      have e1 : ss.getD j ByteArray.empty = p := by rw [List.getD_eq_getElem?_getD, hj]; rfl
      rw [e1] at h0
      match i, hi with
      | 0, hi =>
        simp at hi
        subst hi
        simpa [YtchdkiakdnanhaaGreatDoorW.PrintWords.Kd.string, YtchdkiakdnanhaaGreatDoorW.PrintWords.Kd.scalar] using h0
    · cases hj
/-- A slice that came in is no longer than its weight allows. -/
theorem sized_any {H : Type} {enc : TypeId × Value → H} {P : Program} {W : World} {base : Nat} {spare : Nat → Bool} {held : Bool} {t e : TypeId} {a : Option Addr} {len cap : Nat} {d : DataW H} {ps : List MemPlace} {ts : List TypeId} {ds : List (DataW H)} {j : Nat}
    (hsz : (DataW.weightsEach P ts ds).all (· ≤ reachBytes) = true) (ht : ts[j]? = some t) (hd : ds[j]? = some d) (hu : P.underlying t = some (.slice e)) {B : Nat} (hB : P.bytesOf e = B)
    (h : DataW.Trod enc P W base spare held t (.slice a len cap) d ps) : len * B ≤ 140737488351232 := by
  obtain ⟨fuel, hf⟩ := h
  rcases DataW.trod_slice hu hf with h0 | ⟨ad, l, c, elems, rest, n, _, hcs, hx, hb, hl, hm, hlen, hel, hsp, hns⟩
  · have := h0.1
    simp [Value.cells] at this
    obtain ⟨rfl, rfl, rfl⟩ := this
    simp
  · simp [Value.cells] at hcs
    obtain ⟨rfl, rfl, rfl⟩ := hcs
    obtain ⟨rfl, _⟩ := Prod.mk.inj hx
    have z := sized_slice hsz ht hd hu
    rw [hB, List.length_map, List.length_map, hlen] at z
    exact Nat.le_trans (Nat.mul_le_mul_right _ (Nat.le_add_right _ _)) z
/-- What the row of a slice that came in says of whole numbers. -/
def IsRow (k : IntKind) (w : World) (a : Option Addr) (len cap : Nat) (zs : List Int) : Prop :=
  (a = none ∧ len = 0 ∧ cap = 0 ∧ zs = []) ∨
  ∃ x, a = some x ∧ len ≤ cap ∧ cap ≤ maxLen ∧ zs.length = cap ∧ (∀ i, i < zs.length → w.cell? (x.add i) = some (.int k (zs.getD i 0))) ∧ ∀ n ∈ zs, (Lit.int k n).wf = true
end Go.Proofs.YtchdkiakdnanhaaGreatDoor.RowU8
