/-
  The law RenderSafe holds: for every input it answers true, its arguments read behind the call as before. Conditions: the listed package-level variables as the program's text lays them (tied by the card).
-/
import Derived.Test.YtchdkiakdnanhaaGreatDoorSRenderBase1
import Derived.Test.YtchdkiakdnanhaaGreatDoorSRenderBase4
set_option linter.unusedVariables false
set_option linter.unusedSimpArgs false
namespace Go.Proofs.YtchdkiakdnanhaaGreatDoor.PA
open Go.RowKit Go.Sort Go.Proofs.YtchdkiakdnanhaaGreatDoor.Pl Go.Proofs.YtchdkiakdnanhaaGreatDoorW.PrintWords Go.Proofs.YtchdkiakdnanhaaGreatDoorW.PrintLast Go.Proofs.YtchdkiakdnanhaaGreatDoorW.PrintMore
set_option linter.unusedVariables false

set_option maxHeartbeats 2000000 in
set_option maxRecDepth 100000 in
theorem lower8_calls (s : List UInt8) (hs : s.length ≤ 4294967296) (w : World) :
    Calls Tryz.prog 10 #[.string (B s)] w fun e w' => e = .returned (.string (B (lwr s))) ∧ Below w.heap.size w w' := by
  have hcv := Lib.run_convert_string_bytes (P := Tryz.prog) w 9 36 5 (B s) Tryz.underlying9 Tryz.underlying36 Tryz.underlying5
  rw [B_size] at hcv
  obtain ⟨cp, hcp⟩ : ∃ cp, grownCap w s.length 0 5 = cp := ⟨_, rfl⟩
  rw [hcp] at hcv
  obtain ⟨w1, hw1⟩ : ∃ w1, Lib.bytesWorld w 5 (B s) = w1 := ⟨_, rfl⟩
  have hb1 : Below w.heap.size w w1 := hw1 ▸ Lib.bytesWorld_below w _ _
  have hy : Byt w.heap.size s w1 := hw1 ▸ byt_new w s
  rw [hw1] at hcv
  obtain ⟨g, hg⟩ : ∃ g, w.heap.size = g := ⟨_, rfl⟩
  have hbk := fun (W : World) (hW : Byt g (lwr s) W) => run_convert_bytes_back (P := Tryz.prog) W 36 9 5 ⟨g, 0, none⟩ cp (lwr s) Tryz.underlying36 Tryz.underlying5 Tryz.underlying9 (fun j hj => by rw [show (⟨g, 0, none⟩ : Addr).add j = ⟨g, j, none⟩ from by simp [Addr.add]; omega]; exact hW.cell hj)
  have hll : (lwr s).length = s.length := by rw [lwr_eq, List.length_map]
  rw [hll] at hbk
  rw [hg] at hcv hb1 hy ⊢
  have HB1 := Aside0.mk hb1
  have HY := Aside0.mk hy
  have HBK := Aside0.mk hbk
  clear hb1 hy hbk hw1 hcp hll
  go_enter Tryz.func10, Tryz.ntmps10
  go_wp2_with fail
  go_loopw [4] (fun v10 wr => ∃ i : Nat, v10 = .int .i64 (i : Int) ∧ i ≤ s.length ∧ Aside0 (Byt g (lwN s i) wr) ∧ Aside0 (Below g w wr)) (fun v10 _ => s.length - (intOf v10).toNat)
  case atStart => exact ⟨0, rfl, by omega, ⟨by rw [lwN_zero]; exact HY.out⟩, HB1⟩
  case round =>
    obtain ⟨i, rfl, hi, HYr, HB⟩ := hrel
    by_cases hlt : i < s.length
    · have q1 : decide ((i : Int) < (s.length : Int)) = true := decide_eq_true (by omega)
      have p0 := eq_true (show 0 ≤ (i : Int) from by omega)
      have p1 := eq_true (show (i : Int) < (s.length : Int) from by omega)
      have hil : i < (lwN s i).length := by rw [lwN_len s i hi]; exact hlt
      have x0 := HYr.out.cell hil
      rw [lwN_at s i hlt hil] at x0
      have f0 := HYr.out.frozen hil
      obtain ⟨x, hx⟩ : ∃ x, s[i] = x := ⟨_, rfl⟩
      rw [hx] at x0
      have HX := Aside0.mk hx
      have HIL := Aside0.mk hil
      have hgw : g < wr.heap.size := by obtain ⟨_, _, h1, _⟩ := HYr.out; exact (Array.getElem?_eq_some_iff.1 h1).1
      clear hx hil
      by_cases hc : 65 ≤ x.toNat ∧ x.toNat ≤ 90
      · have z1 : decide ((x.toNat : Int) ≥ 65) = true := decide_eq_true (by omega)
        have z2 : decide ((x.toNat : Int) ≤ 90) = true := decide_eq_true (by omega)
        have hor := add_low x hc.1 hc.2
        have hwr : ((lw1 x).toNat : Int) % 256 = ((lw1 x).toNat : Int) := by have := (lw1 x).toNat_lt; omega
        have HY2 := Aside0.mk (show Byt g (lwN s (i + 1)) (wr.setCell ⟨g, i, none⟩ (.int .u8 ((lw1 x).toNat : Int))) from by
          have h := HYr.out.set HIL.out (lw1 x)
          rw [← HX.out, lwN_step s i hlt, HX.out] at h
          exact h)
        have HB2 := Aside0.mk (show Below g w (wr.setCell ⟨g, i, none⟩ (.int .u8 ((lw1 x).toNat : Int))) from HB.out.setCell (p := ⟨g, i, none⟩) (Nat.le_refl _) _)
        clear hc
        go_wp2
        go_roundw
        case rel => exact ⟨i + 1, by simp, by omega, HY2, HB2⟩
        case measure => simp [intOf]; omega
      · have HY2 := Aside0.mk (show Byt g (lwN s (i + 1)) wr from by
          have e := lwN_step s i hlt
          rw [HX.out, lw1_no x hc] at e
          have e2 : (lwN s i).set i x = lwN s i := by
            refine List.ext_getElem (by rw [List.length_set]) fun j h1 h2 => ?_
            rw [List.getElem_set]
            split
            · rename_i e3
              subst e3
              rw [lwN_at s i hlt h2, HX.out]
            · rfl
          rw [← e, e2]
          exact HYr.out)
        by_cases h65 : 65 ≤ x.toNat
        · have z1 : decide ((x.toNat : Int) ≥ 65) = true := decide_eq_true (by omega)
          have z2 : decide ((x.toNat : Int) ≤ 90) = false := decide_eq_false (by omega)
          clear hc h65
          go_wp2
          go_roundw
          case rel => exact ⟨i + 1, by simp, by omega, HY2, HB⟩
          case measure => simp [intOf]; omega
        · have z1 : decide ((x.toNat : Int) ≥ 65) = false := decide_eq_false (by omega)
          clear hc h65
          go_wp2
          go_roundw
          case rel => exact ⟨i + 1, by simp, by omega, HY2, HB⟩
          case measure => simp [intOf]; omega
    · have q1 : decide ((i : Int) < (s.length : Int)) = false := decide_eq_false (by omega)
      have hie : i = s.length := by omega
      rw [hie, lwN_end] at HYr
      have hbk := HBK.out _ HYr.out
      clear hie
      go_wp2
      go_ret
      exact ⟨rfl, HB.out⟩
end Go.Proofs.YtchdkiakdnanhaaGreatDoor.PA

namespace Go.Proofs.YtchdkiakdnanhaaGreatDoor.PA
open Go.RowKit Go.Sort Go.Proofs.YtchdkiakdnanhaaGreatDoor.Pl Go.Proofs.YtchdkiakdnanhaaGreatDoorW.PrintWords Go.Proofs.YtchdkiakdnanhaaGreatDoorW.PrintLast Go.Proofs.YtchdkiakdnanhaaGreatDoorW.PrintMore
def incipitlaw20_awake.f : Option Bool := some true
theorem incipitlaw20_awake.calls (r : Bool) (w : World) (hLd : LaidW w) (h : incipitlaw20_awake.f = some r) :
    Calls Tryz.prog 7 #[] w fun e w' => e = .returned (.bool r) ∧ Below w.heap.size w w' := by
  obtain rfl := Option.some.inj h
  exact awake_calls w hLd
def render_Filter.f (a0 : ByteArray) : Option ByteArray := if a0.size ≤ 268435456 then some (B (flt a0.data.toList)) else none
theorem render_Filter.calls (a0 : ByteArray) (r : ByteArray) (w : World) (hLd : LaidW w) (h : render_Filter.f a0 = some r) :
    Calls Tryz.prog 8 #[.string a0] w fun e w' => e = .returned (.string r) ∧ Below w.heap.size w w' := by
  unfold render_Filter.f at h
  split at h
  · rename_i hc
    obtain rfl := Option.some.inj h
    have := filter_calls a0.data.toList (by rw [← B_size, B_eta]; exact hc) w hLd
    rw [B_eta] at this
    exact this
  · cases h
def incipitref08_Lower.f (a0 : ByteArray) : Option ByteArray := if a0.size ≤ 268435456 then some (B (lwr a0.data.toList)) else none
theorem incipitref08_Lower.calls (a0 : ByteArray) (r : ByteArray) (w : World) (h : incipitref08_Lower.f a0 = some r) :
    Calls Tryz.prog 10 #[.string a0] w fun e w' => e = .returned (.string r) ∧ Below w.heap.size w w' := by
  unfold incipitref08_Lower.f at h
  split at h
  · rename_i hc
    obtain rfl := Option.some.inj h
    have := lower8_calls a0.data.toList (by rw [← B_size, B_eta]; omega) w
    rw [B_eta] at this
    exact this
  · cases h
end Go.Proofs.YtchdkiakdnanhaaGreatDoor.PA

namespace Go.Proofs.YtchdkiakdnanhaaGreatDoor.PA
open Go.RowKit Go.Proofs.YtchdkiakdnanhaaGreatDoorW.PrintWords Go.Proofs.YtchdkiakdnanhaaGreatDoorW.PrintLast Go.Proofs.YtchdkiakdnanhaaGreatDoorW.PrintMore
attribute [local go_sem] max2_int min2_int max_two min_two max_three min_three max_four min_four   -- for this text's walks alone
set_option linter.unusedVariables false
set_option linter.unusedSimpArgs false

-- GIVEN: function 7 (incipitlaw20_awake)

-- GIVEN: function 8 (render_Filter)

-- GIVEN: function 10 (incipitref08_Lower)

theorem info9 : (Tryz.prog.info? 9).map (fun i => (i.zero, i.size, i.bytes)) = some (some (.string ⟨#[]⟩), 1, 16) := by kernel_rfl

/-! ### incipitref20_names: function 35 -/
def incipitref20_names.f  : Option (List ByteArray) := some (([(⟨#[116, 105, 116, 108, 101]⟩ : ByteArray), (⟨#[116, 101, 120, 116, 97, 114, 101, 97]⟩ : ByteArray), (⟨#[115, 116, 121, 108, 101]⟩ : ByteArray), (⟨#[120, 109, 112]⟩ : ByteArray), (⟨#[105, 102, 114, 97, 109, 101]⟩ : ByteArray), (⟨#[110, 111, 101, 109, 98, 101, 100]⟩ : ByteArray), (⟨#[110, 111, 102, 114, 97, 109, 101, 115]⟩ : ByteArray), (⟨#[115, 99, 114, 105, 112, 116]⟩ : ByteArray), (⟨#[112, 108, 97, 105, 110, 116, 101, 120, 116]⟩ : ByteArray)] : List ByteArray))
set_option maxHeartbeats 8000000 in
set_option maxRecDepth 100000 in
theorem incipitref20_names.calls  (r : List ByteArray) (w : World) (h : incipitref20_names.f  = some r) :
    Calls Tryz.prog 35 #[] w fun e w' => ∃ v0_ : Value, e = .returned (v0_) ∧ Kd.R Kd.string 9 w' w.heap.size (fun _ => True) v0_ r ∧ Below w.heap.size w w' := by
  have HB := Aside0.mk (Below.refl w.heap.size w)
  have H : (some (([(⟨#[116, 105, 116, 108, 101]⟩ : ByteArray), (⟨#[116, 101, 120, 116, 97, 114, 101, 97]⟩ : ByteArray), (⟨#[115, 116, 121, 108, 101]⟩ : ByteArray), (⟨#[120, 109, 112]⟩ : ByteArray), (⟨#[105, 102, 114, 97, 109, 101]⟩ : ByteArray), (⟨#[110, 111, 101, 109, 98, 101, 100]⟩ : ByteArray), (⟨#[110, 111, 102, 114, 97, 109, 101, 115]⟩ : ByteArray), (⟨#[115, 99, 114, 105, 112, 116]⟩ : ByteArray), (⟨#[112, 108, 97, 105, 110, 116, 101, 120, 116]⟩ : ByteArray)] : List ByteArray))) = some r := h
  clear h
  obtain ⟨y114, hy114⟩ : ∃ y_ : List ByteArray, y_ = (([(⟨#[116, 105, 116, 108, 101]⟩ : ByteArray), (⟨#[116, 101, 120, 116, 97, 114, 101, 97]⟩ : ByteArray), (⟨#[115, 116, 121, 108, 101]⟩ : ByteArray), (⟨#[120, 109, 112]⟩ : ByteArray), (⟨#[105, 102, 114, 97, 109, 101]⟩ : ByteArray), (⟨#[110, 111, 101, 109, 98, 101, 100]⟩ : ByteArray), (⟨#[110, 111, 102, 114, 97, 109, 101, 115]⟩ : ByteArray), (⟨#[115, 99, 114, 105, 112, 116]⟩ : ByteArray), (⟨#[112, 108, 97, 105, 110, 116, 101, 120, 116]⟩ : ByteArray)] : List ByteArray)) := ⟨_, rfl⟩
  replace H : (some y114) = some r := by first | (rw [hy114]; with_reducible exact H) | (have H2_ := (Option.bind_some _ _).symm.trans H; rw [hy114]; with_reducible exact H2_) | (have H2_ := (Option.bind_some _ _).symm.trans H; with_reducible exact H2_) | with_reducible exact H | (rw [hy114]; exact H) | exact H
  have Ny114 := Aside0.mk hy114
  clear hy114
  obtain rfl := Option.some.inj H
  go_enter Tryz.func35, Tryz.ntmps35
  go_wp2_with (first | ((with_reducible refine gate_dst (N := 1) rfl ?_); refine Kd.R_lit Kd.string _ 9 ?hg (N := 1) ?hd (xs := ([(⟨#[116, 105, 116, 108, 101]⟩ : ByteArray), (⟨#[116, 101, 120, 116, 97, 114, 101, 97]⟩ : ByteArray), (⟨#[115, 116, 121, 108, 101]⟩ : ByteArray), (⟨#[120, 109, 112]⟩ : ByteArray), (⟨#[105, 102, 114, 97, 109, 101]⟩ : ByteArray), (⟨#[110, 111, 101, 109, 98, 101, 100]⟩ : ByteArray), (⟨#[110, 111, 102, 114, 97, 109, 101, 115]⟩ : ByteArray), (⟨#[115, 99, 114, 105, 112, 116]⟩ : ByteArray), (⟨#[112, 108, 97, 105, 110, 116, 101, 120, 116]⟩ : ByteArray)] : List ByteArray)) (inner := [.string (⟨#[116, 105, 116, 108, 101]⟩ : ByteArray), .string (⟨#[116, 101, 120, 116, 97, 114, 101, 97]⟩ : ByteArray), .string (⟨#[115, 116, 121, 108, 101]⟩ : ByteArray), .string (⟨#[120, 109, 112]⟩ : ByteArray), .string (⟨#[105, 102, 114, 97, 109, 101]⟩ : ByteArray), .string (⟨#[110, 111, 101, 109, 98, 101, 100]⟩ : ByteArray), .string (⟨#[110, 111, 102, 114, 97, 109, 101, 115]⟩ : ByteArray), .string (⟨#[115, 99, 114, 105, 112, 116]⟩ : ByteArray), .string (⟨#[112, 108, 97, 105, 110, 116, 101, 120, 116]⟩ : ByteArray)]) (ok := fun _ => True) (okp := fun _ => True) ?hr ?hp (fun _ hk => hk) trivial (Below.refl _ _) (Nat.le_refl _) (by simp) ?_; (case hd => rfl); (case hg => rfl); (case hr => first | (go_simp; done) | (go_simp; rfl)); (case hp => exact (Reps.one (show Kd.M Kd.string _ _ _ (⟨#[116, 105, 116, 108, 101]⟩ : ByteArray) [.string (⟨#[116, 105, 116, 108, 101]⟩ : ByteArray)] from rfl) (Reps.one (show Kd.M Kd.string _ _ _ (⟨#[116, 101, 120, 116, 97, 114, 101, 97]⟩ : ByteArray) [.string (⟨#[116, 101, 120, 116, 97, 114, 101, 97]⟩ : ByteArray)] from rfl) (Reps.one (show Kd.M Kd.string _ _ _ (⟨#[115, 116, 121, 108, 101]⟩ : ByteArray) [.string (⟨#[115, 116, 121, 108, 101]⟩ : ByteArray)] from rfl) (Reps.one (show Kd.M Kd.string _ _ _ (⟨#[120, 109, 112]⟩ : ByteArray) [.string (⟨#[120, 109, 112]⟩ : ByteArray)] from rfl) (Reps.one (show Kd.M Kd.string _ _ _ (⟨#[105, 102, 114, 97, 109, 101]⟩ : ByteArray) [.string (⟨#[105, 102, 114, 97, 109, 101]⟩ : ByteArray)] from rfl) (Reps.one (show Kd.M Kd.string _ _ _ (⟨#[110, 111, 101, 109, 98, 101, 100]⟩ : ByteArray) [.string (⟨#[110, 111, 101, 109, 98, 101, 100]⟩ : ByteArray)] from rfl) (Reps.one (show Kd.M Kd.string _ _ _ (⟨#[110, 111, 102, 114, 97, 109, 101, 115]⟩ : ByteArray) [.string (⟨#[110, 111, 102, 114, 97, 109, 101, 115]⟩ : ByteArray)] from rfl) (Reps.one (show Kd.M Kd.string _ _ _ (⟨#[115, 99, 114, 105, 112, 116]⟩ : ByteArray) [.string (⟨#[115, 99, 114, 105, 112, 116]⟩ : ByteArray)] from rfl) (Reps.one (show Kd.M Kd.string _ _ _ (⟨#[112, 108, 97, 105, 110, 116, 101, 120, 116]⟩ : ByteArray) [.string (⟨#[112, 108, 97, 105, 110, 116, 101, 120, 116]⟩ : ByteArray)] from rfl) (Reps.none _ _))))))))))); intro v115 w1 ho2 hb hg_ hnew_; clear hg_ hnew_; (first | rw [← Ny114.out] at ho2 | (simp only [Int.reduceToNat] at ho2; rw [← Ny114.out] at ho2)); have n0_ := Aside0.mk (Kd.R_lower ho2 (below_size (by repeat (first | (with_reducible first | exact HB.out | apply below_alloc | apply pw_below_drewN | apply below_drew1) | exact HB.out)))); have n1_ := Aside0.mk (below_step (by repeat (first | (with_reducible first | exact HB.out | apply below_alloc | apply pw_below_drewN | apply below_drew1) | exact HB.out)) hb); clear HB; have HO116 := n0_; have HB := n1_; clear n0_ n1_; clear hb ho2))
  go_ret
  exact ⟨_, by first | rfl | (simp [errW_none, errW_some] <;> rfl) | (simp [*, errW_none, errW_some] <;> rfl), by (with_reducible repeat (first | apply Kd.R_alloc | apply Kd.R_drewN | apply Kd.R_drew)); exact HO116.out, by repeat (first | (with_reducible first | exact HB.out | apply below_alloc | apply pw_below_drewN | apply below_drew1) | exact HB.out)⟩

/-! ### incipitref08_Within: function 36 -/
def incipitref08_Within.l0 : Nat → ByteArray → ByteArray → Int → Option (Bool)
  | 0, _, _, _ => none
  | k + 1, x0, x1, x5 => if (wrap64 (x5 + (x1.size : Int))) ≤ (x0.size : Int) then (if 0 ≤ x5 then (if x5 ≤ (wrap64 (x5 + (x1.size : Int))) then (if (x0.extract (x5 : Int).toNat ((wrap64 (x5 + (x1.size : Int))) : Int).toNat).toList = x1.toList then (some true) else (incipitref08_Within.l0 k x0 x1 (wrap64 (x5 + 1)))) else (none)) else (none)) else (some false)
def incipitref08_Within.f (k : Nat) (a0 : ByteArray) (a1 : ByteArray) : Option (Bool) := incipitref08_Within.l0 k a0 a1 0
theorem incipitref08_Within.mono_l : ∀ k, (∀ y0 y1 y2, LeO (incipitref08_Within.l0 k y0 y1 y2) (incipitref08_Within.l0 (k + 1) y0 y1 y2))
  | 0 => fun _ _ _ r h => by simp [incipitref08_Within.l0] at h
  | k + 1 => by
    have ih0 := incipitref08_Within.mono_l k
    · intro y0 y1 y2
      unfold incipitref08_Within.l0
      repeat' first
      | (with_reducible exact ih0 _ _ _)
      | (with_reducible exact LeO.refl _)
      | (with_reducible exact LeO.none _)
      | (with_reducible refine LeO.ite ?_ ?_)
      | (with_reducible refine LeO.bind ?_ (fun _ => ?_))
      | exact ih0 _ _ _
      | exact LeO.none _
      | refine LeO.ite ?_ ?_
      | refine LeO.bind ?_ (fun _ => ?_)
theorem incipitref08_Within.mono : ∀ a0 a1 k, LeO (incipitref08_Within.f k a0 a1) (incipitref08_Within.f (k + 1) a0 a1) := by
  intro a0 a1 k
  have ih0 := incipitref08_Within.mono_l k
  unfold incipitref08_Within.f
  repeat' first
      | (with_reducible exact ih0 _ _ _)
      | (with_reducible exact LeO.refl _)
      | (with_reducible exact LeO.none _)
      | (with_reducible refine LeO.ite ?_ ?_)
      | (with_reducible refine LeO.bind ?_ (fun _ => ?_))
      | exact ih0 _ _ _
      | exact LeO.none _
      | refine LeO.ite ?_ ?_
      | refine LeO.bind ?_ (fun _ => ?_)
set_option maxHeartbeats 8000000 in
set_option maxRecDepth 100000 in
theorem incipitref08_Within.calls (k : Nat) (a0 : ByteArray) (a1 : ByteArray) (r : Bool) (w : World) (h : incipitref08_Within.f k a0 a1 = some r) :
    Calls Tryz.prog 36 #[.string a0, .string a1] w fun e w' => e = .returned (.bool r) ∧ Drawn0 w w' := by
  have H : (incipitref08_Within.l0 k a0 a1 0) = some r := h
  clear h
  have H' := Aside0.mk H
  clear H
  go_enter Tryz.func36, Tryz.ntmps36
  go_wp2
  go_loopg [5] k (fun kq v5 w' => ∃ (x5_1 : Int), v5 = .int .i64 x5_1 ∧ Aside0 (incipitref08_Within.l0 kq a0 a1 x5_1 = some r) ∧ Aside0 (kq ≤ k) ∧ Drawn0 w w')
  case atStart => exact ⟨(0), (by first | rfl | (simp; done) | (simp [*]; done)), H', ⟨Nat.le_refl _⟩, by repeat (first | exact Drawn0.refl _ | apply Drawn0.step)⟩
  case round =>
    clear H'
    try clear p2
    obtain ⟨x5_1, rfl, HA, HK1, ⟨m1, rfl⟩⟩ := hrel
    cases gk with
    | zero => exact absurd HA.out (by simp [incipitref08_Within.l0])
    | succ k1 =>
      have H := HA.out
      clear HA
      simp only [incipitref08_Within.l0] at H
      by_cases c3 : (wrap64 (x5_1 + (a1.size : Int))) ≤ (a0.size : Int)
      · rw [if_pos c3] at H
        have c3b0 : decide ((wrap64 (x5_1 + (a1.size : Int))) ≤ (a0.size : Int)) = true := decide_eq_true c3
        clear c3
        by_cases c4 : 0 ≤ x5_1
        · rw [if_pos c4] at H
          have c4b0 := eq_true c4
          have c4b1 : decide (0 ≤ x5_1) = true := decide_eq_true c4
          clear c4
          by_cases c5 : x5_1 ≤ (wrap64 (x5_1 + (a1.size : Int)))
          · rw [if_pos c5] at H
            have c5b0 := eq_true c5
            have c5b1 : decide (x5_1 ≤ (wrap64 (x5_1 + (a1.size : Int)))) = true := decide_eq_true c5
            have c6b0 := eq_true (of_decide_eq_true (by first | (with_reducible assumption) | assumption) : (wrap64 (x5_1 + (a1.size : Int))) ≤ (a0.size : Int))
            by_cases c7 : (a0.extract (x5_1 : Int).toNat ((wrap64 (x5_1 + (a1.size : Int))) : Int).toNat).toList = a1.toList
            · rw [if_pos c7] at H
              have c7b0 : ((a0.extract (x5_1 : Int).toNat ((wrap64 (x5_1 + (a1.size : Int))) : Int).toNat).toList == a1.toList) = true := beq_iff_eq.mpr c7
              have c7b1 : ((a0.extract (x5_1 : Int).toNat ((wrap64 (x5_1 + (a1.size : Int))) : Int).toNat).toList != a1.toList) = false := bne_eq_false_iff_eq.mpr c7
              clear c7
              obtain rfl := Option.some.inj H
              go_wp2
              go_ret
              exact ⟨by first | rfl | exact retNe _ | (simp; done) | (simp [*]; done), by repeat (first | exact Drawn0.refl _ | apply Drawn0.step)⟩
            · rw [if_neg c7] at H
              have c7b0 : ((a0.extract (x5_1 : Int).toNat ((wrap64 (x5_1 + (a1.size : Int))) : Int).toNat).toList == a1.toList) = false := beq_eq_false_iff_ne.mpr c7
              have c7b1 : ((a0.extract (x5_1 : Int).toNat ((wrap64 (x5_1 + (a1.size : Int))) : Int).toNat).toList != a1.toList) = true := bne_iff_ne.mpr c7
              have H' := Aside0.mk H
              clear H
              go_wp2
              go_roundg k1
              case measure => have := HK1.out; omega
              case rel => exact ⟨(wrap64 (x5_1 + 1)), (by first | rfl | (simp; done) | (simp [*]; done)), H', ⟨by have := HK1.out; omega⟩, by repeat (first | exact Drawn0.refl _ | apply Drawn0.step)⟩
          · rw [if_neg c5] at H
            exact absurd H (by simp)
        · rw [if_neg c4] at H
          exact absurd H (by simp)
      · rw [if_neg c3] at H
        have c3b0 : decide ((wrap64 (x5_1 + (a1.size : Int))) ≤ (a0.size : Int)) = false := decide_eq_false c3
        clear c3
        obtain rfl := Option.some.inj H
        go_wp2
        go_ret
        exact ⟨by first | rfl | exact retNe _ | (simp; done) | (simp [*]; done), by repeat (first | exact Drawn0.refl _ | apply Drawn0.step)⟩

/-! ### incipitref20_bad: function 23 -/
mutual
def incipitref20_bad.j0 : Nat → ByteArray → Bool → Option (Bool)
  | 0, _, _ => none
  | k + 1, x0, x12 => if x12 = true then (if 1 ≤ (x0.size : Int) then (incipitref20_bad.j1 k (x0.extract 1 x0.size)) else (none)) else (incipitref20_bad.j1 k x0)
def incipitref20_bad.j1 : Nat → ByteArray → Option (Bool)
  | 0, _ => none
  | k + 1, x0 => (incipitref20_names.f).bind fun t117 => (incipitref20_bad.l0 k x0 t117 0)
def incipitref20_bad.l0 : Nat → ByteArray → List ByteArray → Int → Option (Bool)
  | 0, _, _, _ => none
  | k + 1, x0, x3, x4 => if x4 < (x3.length : Int) then (if 0 ≤ x4 then (if (x0.size : Int) < ((rdOf ByteArray.empty x3 x4).size : Int) then (incipitref20_bad.j3 k x0 x3 x4 ((rdOf ByteArray.empty x3 x4).size : Int) true) else (if 0 ≤ ((rdOf ByteArray.empty x3 x4).size : Int) then (if ((rdOf ByteArray.empty x3 x4).size : Int) ≤ (x0.size : Int) then ((incipitref08_Lower.f (x0.extract 0 (((rdOf ByteArray.empty x3 x4).size : Int) : Int).toNat)).bind fun t121 => (incipitref20_bad.j3 k x0 x3 x4 ((rdOf ByteArray.empty x3 x4).size : Int) (t121.toList != (rdOf ByteArray.empty x3 x4).toList))) else (none)) else (none))) else (none)) else (some false)
def incipitref20_bad.j3 : Nat → ByteArray → List ByteArray → Int → Int → Bool → Option (Bool)
  | 0, _, _, _, _, _ => none
  | k + 1, x0, x3, x4, x5, x41 => if x41 = true then (incipitref20_bad.l0 k x0 x3 (wrap64 (x4 + 1))) else (if (x0.size : Int) = x5 then (some true) else (if 0 ≤ x5 then (if x5 ≤ (wrap64 (x5 + 1)) then (if (wrap64 (x5 + 1)) ≤ (x0.size : Int) then ((incipitref08_Within.f k (⟨#[32, 9, 10, 47, 62]⟩ : ByteArray) (x0.extract (x5 : Int).toNat ((wrap64 (x5 + 1)) : Int).toNat)).bind fun t123 => (if t123 = true then (some true) else (incipitref20_bad.l0 k x0 x3 (wrap64 (x4 + 1))))) else (none)) else (none)) else (none)))
end
def incipitref20_bad.f (k : Nat) (a0 : ByteArray) : Option (Bool) := if a0.toList = ([] : List UInt8) then (incipitref20_bad.j0 k a0 false) else (if 0 < (a0.size : Int) then (incipitref20_bad.j0 k a0 ((bt a0 0) == 47)) else (none))
theorem incipitref20_bad.mono_l : ∀ k, (∀ y0 y1, LeO (incipitref20_bad.j0 k y0 y1) (incipitref20_bad.j0 (k + 1) y0 y1)) ∧ (∀ y0, LeO (incipitref20_bad.j1 k y0) (incipitref20_bad.j1 (k + 1) y0)) ∧ (∀ y0 y1 y2, LeO (incipitref20_bad.l0 k y0 y1 y2) (incipitref20_bad.l0 (k + 1) y0 y1 y2)) ∧ (∀ y0 y1 y2 y3 y4, LeO (incipitref20_bad.j3 k y0 y1 y2 y3 y4) (incipitref20_bad.j3 (k + 1) y0 y1 y2 y3 y4))
  | 0 => ⟨fun _ _ r h => by simp [incipitref20_bad.j0] at h, fun _ r h => by simp [incipitref20_bad.j1] at h, fun _ _ _ r h => by simp [incipitref20_bad.l0] at h, fun _ _ _ _ _ r h => by simp [incipitref20_bad.j3] at h⟩
  | k + 1 => by
    obtain ⟨ih0, ih1, ih2, ih3⟩ := incipitref20_bad.mono_l k
    refine ⟨?_, ?_, ?_, ?_⟩
    · intro y0 y1
      unfold incipitref20_bad.j0
      repeat' first
      | (with_reducible exact ih0 _ _)
      | (with_reducible exact ih1 _)
      | (with_reducible exact ih2 _ _ _)
      | (with_reducible exact ih3 _ _ _ _ _)
      | (with_reducible exact incipitref08_Within.mono _ _ _)
      | (with_reducible exact LeO.refl _)
      | (with_reducible exact LeO.none _)
      | (with_reducible refine LeO.ite ?_ ?_)
      | (with_reducible refine LeO.bind ?_ (fun _ => ?_))
      | exact ih0 _ _
      | exact ih1 _
      | exact ih2 _ _ _
      | exact ih3 _ _ _ _ _
      | exact incipitref08_Within.mono _ _ _
      | exact LeO.none _
      | refine LeO.ite ?_ ?_
      | refine LeO.bind ?_ (fun _ => ?_)
    · intro y0
      unfold incipitref20_bad.j1
      repeat' first
      | (with_reducible exact ih0 _ _)
      | (with_reducible exact ih1 _)
      | (with_reducible exact ih2 _ _ _)
      | (with_reducible exact ih3 _ _ _ _ _)
      | (with_reducible exact incipitref08_Within.mono _ _ _)
      | (with_reducible exact LeO.refl _)
      | (with_reducible exact LeO.none _)
      | (with_reducible refine LeO.ite ?_ ?_)
      | (with_reducible refine LeO.bind ?_ (fun _ => ?_))
      | exact ih0 _ _
      | exact ih1 _
      | exact ih2 _ _ _
      | exact ih3 _ _ _ _ _
      | exact incipitref08_Within.mono _ _ _
      | exact LeO.none _
      | refine LeO.ite ?_ ?_
      | refine LeO.bind ?_ (fun _ => ?_)
    · intro y0 y1 y2
      unfold incipitref20_bad.l0
      repeat' first
      | (with_reducible exact ih0 _ _)
      | (with_reducible exact ih1 _)
      | (with_reducible exact ih2 _ _ _)
      | (with_reducible exact ih3 _ _ _ _ _)
      | (with_reducible exact incipitref08_Within.mono _ _ _)
      | (with_reducible exact LeO.refl _)
      | (with_reducible exact LeO.none _)
      | (with_reducible refine LeO.ite ?_ ?_)
      | (with_reducible refine LeO.bind ?_ (fun _ => ?_))
      | exact ih0 _ _
      | exact ih1 _
      | exact ih2 _ _ _
      | exact ih3 _ _ _ _ _
      | exact incipitref08_Within.mono _ _ _
      | exact LeO.none _
      | refine LeO.ite ?_ ?_
      | refine LeO.bind ?_ (fun _ => ?_)
    · intro y0 y1 y2 y3 y4
      unfold incipitref20_bad.j3
      repeat' first
      | (with_reducible exact ih0 _ _)
      | (with_reducible exact ih1 _)
      | (with_reducible exact ih2 _ _ _)
      | (with_reducible exact ih3 _ _ _ _ _)
      | (with_reducible exact incipitref08_Within.mono _ _ _)
      | (with_reducible exact LeO.refl _)
      | (with_reducible exact LeO.none _)
      | (with_reducible refine LeO.ite ?_ ?_)
      | (with_reducible refine LeO.bind ?_ (fun _ => ?_))
      | exact ih0 _ _
      | exact ih1 _
      | exact ih2 _ _ _
      | exact ih3 _ _ _ _ _
      | exact incipitref08_Within.mono _ _ _
      | exact LeO.none _
      | refine LeO.ite ?_ ?_
      | refine LeO.bind ?_ (fun _ => ?_)
theorem incipitref20_bad.mono : ∀ a0 k, LeO (incipitref20_bad.f k a0) (incipitref20_bad.f (k + 1) a0) := by
  intro a0 k
  obtain ⟨ih0, ih1, ih2, ih3⟩ := incipitref20_bad.mono_l k
  unfold incipitref20_bad.f
  repeat' first
      | (with_reducible exact ih0 _ _)
      | (with_reducible exact ih1 _)
      | (with_reducible exact ih2 _ _ _)
      | (with_reducible exact ih3 _ _ _ _ _)
      | (with_reducible exact incipitref08_Within.mono _ _ _)
      | (with_reducible exact LeO.refl _)
      | (with_reducible exact LeO.none _)
      | (with_reducible refine LeO.ite ?_ ?_)
      | (with_reducible refine LeO.bind ?_ (fun _ => ?_))
      | exact ih0 _ _
      | exact ih1 _
      | exact ih2 _ _ _
      | exact ih3 _ _ _ _ _
      | exact incipitref08_Within.mono _ _ _
      | exact LeO.none _
      | refine LeO.ite ?_ ?_
      | refine LeO.bind ?_ (fun _ => ?_)
def incipitref20_bad.T8 : Bool × List (List Nat × List Nat) := (true, [([], []), ([0], [0]), ([], []), ([1, 2], [1, 2]), ([3], [3]), ([4], [4]), ([4], [4]), ([5, 6, 4], [4, 5, 6]), ([7, 4, 4], [4, 7]), ([4], [4]), ([4], [4]), ([9, 10, 4], [4, 9, 10]), ([11, 4], [4, 11]), ([8, 12, 4], [4, 8, 12]), ([4, 13], [4, 13])])
def incipitref20_bad.B8 : List Nat := [0, 1, 0, 7, 15, 31, 31, 127, 255, 31, 31, 1567, 3615, 8191, 16383]
theorem incipitref20_bad.tab8 : rtab .any (opsOf Tryz.f23 8) = incipitref20_bad.T8 := by kernel_rfl
theorem incipitref20_bad.bits8 : waitsOk incipitref20_bad.T8.2 incipitref20_bad.B8 = true := by kernel_rfl
set_option maxHeartbeats 8000000 in
set_option maxRecDepth 100000 in
theorem incipitref20_bad.calls (k : Nat) (a0 : ByteArray) (r : Bool) (w : World) (h : incipitref20_bad.f k a0 = some r) :
    Calls Tryz.prog 23 #[.string a0] w fun e w' => e = .returned (.bool r) ∧ Below w.heap.size w w' := by
  have HB := Aside0.mk (Below.refl w.heap.size w)
  have H : (if a0.toList = ([] : List UInt8) then (incipitref20_bad.j0 k a0 false) else (if 0 < (a0.size : Int) then (incipitref20_bad.j0 k a0 ((bt a0 0) == 47)) else (none))) = some r := h
  clear h
  have HC2 := Aside0.mk H
  clear H
  go_enter Tryz.func23, Tryz.ntmps23
  go_upto_region 1 with (fail)
  go_cut [12] (fun v12 wc => ∃ (kq : Nat) (x12_1 : Bool), v12 = .bool x12_1 ∧ Aside0 (incipitref20_bad.j0 kq a0 x12_1 = some r) ∧ Aside0 (kq ≤ k) ∧ Aside0 (Below w.heap.size w wc))
  case first =>
    have H := HC2.out
    clear HC2
    by_cases c3 : a0.toList = ([] : List UInt8)
    · rw [if_pos c3] at H
      have c3b0 : (a0.toList == ([] : List UInt8)) = true := beq_iff_eq.mpr c3
      have c3b1 : (a0.toList != ([] : List UInt8)) = false := bne_eq_false_iff_eq.mpr c3
      clear c3
      (first | rw [c3b0] | (simp only [i64_w, i32_w]; rw [c3b0]) | skip)
      have H' := Aside0.mk H
      clear H
      go_wp2
      go_meet
      case rel => exact ⟨_, (false), (by first | rfl | (simp; done) | (simp [*]; done)), H', ⟨by first | omega | exact Nat.le_refl _⟩, ⟨by repeat (first | (with_reducible first | exact HB.out | apply below_alloc | apply pw_below_drewN | apply below_drew1) | exact HB.out)⟩⟩
    · rw [if_neg c3] at H
      have c3b0 : (a0.toList == ([] : List UInt8)) = false := beq_eq_false_iff_ne.mpr c3
      have c3b1 : (a0.toList != ([] : List UInt8)) = true := bne_iff_ne.mpr c3
      (first | rw [c3b0] | (simp only [i64_w, i32_w]; rw [c3b0]) | skip)
      by_cases c4 : 0 < (a0.size : Int)
      · rw [if_pos c4] at H
        have c4b0 : decide (0 < (a0.size : Int)) = true := decide_eq_true c4
        have c4b1 : decide (0 < a0.size) = true := decide_eq_true (by omega)
        clear c4
        have H' := Aside0.mk H
        clear H
        have p5 : 0 ≤ (0 : Int) := (by omega)
        have q5 : 0 < a0.size := (by have : (0 : Int) < (a0.size : Int) := of_decide_eq_true (by first | (with_reducible assumption) | assumption); omega)
        have hx5 : ∀ h : 0 < a0.size, ((a0[0]'h).toNat : Int) = bt a0 0 := bt_at a0 0
        clear p5
        have qi5 : (0 < (a0.size : Int)) = True := eq_true (of_decide_eq_true (by first | (with_reducible assumption) | assumption))
        replace q5 := eq_true q5
        go_wp2
        go_meet
        case rel => exact ⟨_, (((bt a0 0) == 47)), (by first | rfl | (simp; done) | (simp [*]; done)), H', ⟨by first | omega | exact Nat.le_refl _⟩, ⟨by repeat (first | (with_reducible first | exact HB.out | apply below_alloc | apply pw_below_drewN | apply below_drew1) | exact HB.out)⟩⟩
      · rw [if_neg c4] at H
        exact absurd H (by simp)
  case rest =>
    clear HC2
    try clear c2
    try clear p2
    try clear c3
    try clear c3b0
    try clear c3b1
    try clear c4
    try clear c4b0
    try clear c4b1
    try clear p5
    try clear q5
    try clear hx5
    try clear qi5
    try clear p5
    try clear q5
    obtain ⟨kq, x12_1, rfl, HA, HJ1, HB⟩ := hcut
    cases kq with
    | zero => exact absurd HA.out (by simp [incipitref20_bad.j0])
    | succ kj1 =>
      have H := HA.out
      clear HA
      simp only [incipitref20_bad.j0] at H
      have HC6 := Aside0.mk H
      clear H
      go_upto_if 12 with (fail)
      go_cut [0] (fun v0 wc => ∃ (kq : Nat) (x0_5 : ByteArray), v0 = .string x0_5 ∧ Aside0 (incipitref20_bad.j1 kq x0_5 = some r) ∧ Aside0 (kq ≤ kj1) ∧ Aside0 (Below w.heap.size w wc))
      case first =>
        have H := HC6.out
        clear HC6
        by_cases c7 : x12_1 = true
        · subst c7
          have H1 : (if 1 ≤ (a0.size : Int) then (incipitref20_bad.j1 kj1 (a0.extract 1 a0.size)) else (none)) = some r := by rw [if_pos rfl] at H; exact H
          clear H
          have H := H1
          clear H1
          by_cases c8 : 1 ≤ (a0.size : Int)
          · rw [if_pos c8] at H
            have c8b0 := eq_true c8
            have c8b1 : decide (1 ≤ (a0.size : Int)) = true := decide_eq_true c8
            clear c8
            have H' := Aside0.mk H
            clear H
            go_wp2
            go_meet
            case rel => exact ⟨_, (a0.extract 1 a0.size), (by first | rfl | (simp; done) | (simp [*]; done)), H', ⟨by have := HJ1.out; first | omega | exact Nat.le_refl _⟩, ⟨by repeat (first | (with_reducible first | exact HB.out | apply below_alloc | apply pw_below_drewN | apply below_drew1) | exact HB.out)⟩⟩
          · rw [if_neg c8] at H
            exact absurd H (by simp)
        · replace c7 := Bool.eq_false_iff.mpr c7
          subst c7
          have H1 : (incipitref20_bad.j1 kj1 a0) = some r := by rw [if_neg (show ¬ (false = true) by decide)] at H; exact H
          clear H
          have H := H1
          clear H1
          have H' := Aside0.mk H
          clear H
          go_wp2
          go_meet
          case rel => exact ⟨_, (a0), (by first | rfl | (simp; done) | (simp [*]; done)), H', ⟨by have := HJ1.out; first | omega | exact Nat.le_refl _⟩, ⟨by repeat (first | (with_reducible first | exact HB.out | apply below_alloc | apply pw_below_drewN | apply below_drew1) | exact HB.out)⟩⟩
      case rest =>
        clear HC6
        try clear c2
        try clear p2
        try clear c3
        try clear c3b0
        try clear c3b1
        try clear c4
        try clear c4b0
        try clear c4b1
        try clear p5
        try clear q5
        try clear hx5
        try clear qi5
        try clear c7
        try clear c8
        try clear c8b0
        try clear c8b1
        try clear p2
        try clear p5
        try clear q5
        obtain ⟨kq, x0_5, rfl, HA, HJ5, HB⟩ := hcut
        cases kq with
        | zero => exact absurd HA.out (by simp [incipitref20_bad.j1])
        | succ kj5 =>
          have H := HA.out
          clear HA
          simp only [incipitref20_bad.j1] at H
          replace H := Option.bind_eq_some_iff.mp H
          obtain ⟨t117, A90, H⟩ := H
          replace H : (incipitref20_bad.l0 kj5 x0_5 t117 0) = some r := H
          have A9 := Aside0.mk A90
          clear A90
          have H' := Aside0.mk H
          clear H
          go_wp2_with (first | ((with_reducible refine gate_callee (f := 35) rfl ?_); refine goesL_ (some 15) rfl rfl Tryz.func35 (by kernel_rfl) rfl #[] rfl (by (try simp only [List.map_toArray, List.map_cons, List.map_nil]); first | done | rfl | (simp only [List.length_drop, List.length_take]; rfl)) ?_; (with_reducible refine (incipitref20_names.calls  t117 _ A9.out).mono ?_); rintro e w10 ⟨v118, rfl, ho0, hb⟩; refine ⟨_, rfl, ?_⟩; have n0_ := Aside0.mk (Kd.R_lower ho0 (below_size (by repeat (first | (with_reducible first | exact HB.out | apply below_alloc | apply pw_below_drewN | apply below_drew1) | exact HB.out)))); have n1_ := Aside0.mk (below_step (by repeat (first | (with_reducible first | exact HB.out | apply below_alloc | apply pw_below_drewN | apply below_drew1) | exact HB.out)) hb); clear HB; have HO119 := n0_; have HB := n1_; clear n0_ n1_; (try clear hb); (try clear hb2); (try clear hk); (try clear hi); (try clear ho0)))
          go_loopg [4] kj5 (fun kq v4 w' => ∃ (x4_3 : Int), v4 = .int .i64 x4_3 ∧ Aside0 (incipitref20_bad.l0 kq x0_5 t117 x4_3 = some r) ∧ Aside0 (kq ≤ kj5) ∧ Aside0 (Kd.R Kd.string 9 w' w.heap.size (fun _ => True) v118 t117) ∧ Aside0 (Below w.heap.size w w'))
          case atStart => exact ⟨(0), (by first | rfl | (simp; done) | (simp [*]; done)), H', ⟨Nat.le_refl _⟩, ⟨by (with_reducible repeat (first | apply Kd.R_alloc | apply Kd.R_drewN | apply Kd.R_drew)); exact HO119.out⟩, ⟨by repeat (first | (with_reducible first | exact HB.out | apply below_alloc | apply pw_below_drewN | apply below_drew1) | exact HB.out)⟩⟩
          case round =>
            clear H'
            try clear c2
            try clear p2
            try clear c3
            try clear c3b0
            try clear c3b1
            try clear c4
            try clear c4b0
            try clear c4b1
            try clear p5
            try clear q5
            try clear hx5
            try clear qi5
            try clear c7
            try clear c8
            try clear c8b0
            try clear c8b1
            try clear p2
            try clear p5
            try clear q5
            obtain ⟨x4_3, rfl, HA, HK3, HO_3, HB⟩ := hrel
            cases gk with
            | zero => exact absurd HA.out (by simp [incipitref20_bad.l0])
            | succ k3 =>
              have H := HA.out
              clear HA
              simp only [incipitref20_bad.l0] at H
              by_cases c11 : x4_3 < (t117.length : Int)
              · rw [if_pos c11] at H
                have c11b0 : decide (x4_3 < (t117.length : Int)) = true := decide_eq_true c11
                clear c11
                by_cases c12 : 0 ≤ x4_3
                · rw [if_pos c12] at H
                  have c12b0 : decide (0 ≤ x4_3) = true := decide_eq_true c12
                  clear c12
                  have HC13 := Aside0.mk H
                  clear H
                  obtain ⟨Ao14, co14, eo14⟩ := Kd.R_slice HO_3.out
                  subst eo14
                  have p120 : 0 ≤ (x4_3 : Int) := of_decide_eq_true (by first | (with_reducible assumption) | assumption)
                  have q120 : x4_3 < (t117.length : Int) := of_decide_eq_true (by first | (with_reducible assumption) | assumption)
                  obtain ⟨ad120, e120, hx120_0⟩ := Kd.at_string (Kd.R_reads' HO_3.out).2.2 x4_3 p120 q120
                  cases e120
                  replace p120 := eq_true p120
                  replace q120 := eq_true q120
                  go_upto_region 8 with (fail)
                  go_cut [41] (fun v41 wc => ∃ (kq : Nat) (x41_12 : Bool), v41 = .bool x41_12 ∧ Aside0 (incipitref20_bad.j3 kq x0_5 t117 x4_3 ((rdOf ByteArray.empty t117 x4_3).size : Int) x41_12 = some r) ∧ Aside0 (kq ≤ k3) ∧ Aside0 (Kd.R Kd.string 9 wc w.heap.size (fun _ => True) (.slice (some ad120) t117.length co14) t117) ∧ Aside0 (Below w.heap.size w wc))
                  case first =>
                    have H := HC13.out
                    clear HC13
                    by_cases c15 : (x0_5.size : Int) < ((rdOf ByteArray.empty t117 x4_3).size : Int)
                    · rw [if_pos c15] at H
                      have c15b0 : decide ((x0_5.size : Int) < ((rdOf ByteArray.empty t117 x4_3).size : Int)) = true := decide_eq_true c15
                      have c15b1 : decide (x0_5.size < (rdOf ByteArray.empty t117 x4_3).size) = true := decide_eq_true (Int.ofNat_lt.mp c15)
                      clear c15
                      (first | rw [c15b0] | (simp only [i64_w, i32_w]; rw [c15b0]) | skip)
                      have H' := Aside0.mk H
                      clear H
                      try go_wp2
                      have n0_ := Aside0.mk (Kd.R_drew HO_3.out)
                      have n1_ := Aside0.mk (below_drew1 HB.out)
                      clear HO_3
                      clear HB
                      have HO_3 := n0_
                      have HB := n1_
                      clear n0_ n1_
                      refine start_ (n := 15) (S := fun w' => True) (ds := []) #[false, false, false, false, false, false, false, false, false, false, false, false, false, false, false] (by kernel_rfl) rfl rfl trivial (fun hHeld => ?_); refine with_tabW incipitref20_bad.tab8 incipitref20_bad.bits8 (fun HT_ HW_ => ?_)
                      generalize wr.drew = w16 at HO_3 HB hHeld ⊢
                      refine pure_ (i := 0) (N := some 27) (v := ?_) (a' := ?_) #[true, false, false, false, false, false, false, false, false, false, false, false, false, false, false] rfl rfl (any_of HT_.out (by kernel_rfl)) (fun _ _ _ h => h) (Or.inl ⟨by rfl, ?_⟩) ?_ ?_
                      rotate_left
                      · intro w'
                        go_simp
                        with_reducible rfl
                      rotate_left
                      · simp only [Act.put, List.setIfInBounds_toArray, List.set_cons_zero, List.set_cons_succ, i64_w, i32_w]
                        rfl
                      refine pure_ (i := 1) (N := some 28) (v := ?_) (a' := ?_) #[true, true, false, false, false, false, false, false, false, false, false, false, false, false, false] rfl rfl (any_of HT_.out (by kernel_rfl)) (fun _ _ _ h => h) (Or.inl ⟨by rfl, ?_⟩) ?_ ?_
                      rotate_left
                      · intro w'
                        go_simp
                        with_reducible rfl
                      rotate_left
                      · simp only [Act.put, List.setIfInBounds_toArray, List.set_cons_zero, List.set_cons_succ, i64_w, i32_w]
                        rfl
                      refine pure_ (i := 2) (N := some 29) (v := ?_) (a' := ?_) #[true, true, true, false, false, false, false, false, false, false, false, false, false, false, false] rfl rfl (any_of HT_.out (by kernel_rfl)) (fun _ _ _ h => h) (Or.inl ⟨by rfl, ?_⟩) ?_ ?_
                      rotate_left
                      · intro w'
                        go_simp
                        with_reducible rfl
                      rotate_left
                      · simp only [Act.put, List.setIfInBounds_toArray, List.set_cons_zero, List.set_cons_succ, i64_w, i32_w]
                        rfl
                      refine pure_ (i := 3) (N := some 30) (v := ?_) (a' := ?_) #[true, true, true, true, false, false, false, false, false, false, false, false, false, false, false] rfl rfl (any_of HT_.out (by kernel_rfl)) (fun _ _ _ h => h) (Or.inl ⟨by rfl, ?_⟩) ?_ ?_
                      rotate_left
                      · intro w'
                        go_simp
                        with_reducible rfl
                      rotate_left
                      · simp only [Act.put, List.setIfInBounds_toArray, List.set_cons_zero, List.set_cons_succ, i64_w, i32_w]
                        rfl
                      refine pure_ (i := 4) (N := some 31) (v := ?_) (a' := ?_) #[true, true, true, true, true, false, false, false, false, false, false, false, false, false, false] rfl rfl (any_of HT_.out (by kernel_rfl)) (fun _ _ _ h => h) (Or.inl ⟨by rfl, ?_⟩) ?_ ?_
                      rotate_left
                      · intro w'
                        go_simp
                        with_reducible rfl
                      rotate_left
                      · simp only [Act.put, List.setIfInBounds_toArray, List.set_cons_zero, List.set_cons_succ, i64_w, i32_w]
                        rfl
                      refine pure_ (i := 5) (N := some 32) (v := undef) (a' := ?_) #[true, true, true, true, true, true, false, false, false, false, false, false, false, false, false] rfl rfl (any_of HT_.out (by kernel_rfl)) (fun _ _ _ h => h) (Or.inr ⟨by rfl, rfl⟩) ?_ ?_
                      rotate_left
                      · simp only [Act.put, List.setIfInBounds_toArray, List.set_cons_zero, List.set_cons_succ, i64_w, i32_w]
                        rfl
                      refine pure_ (i := 6) (N := some 33) (v := undef) (a' := ?_) #[true, true, true, true, true, true, true, false, false, false, false, false, false, false, false] rfl rfl (any_of HT_.out (by kernel_rfl)) (fun _ _ _ h => h) (Or.inr ⟨by rfl, rfl⟩) ?_ ?_
                      rotate_left
                      · simp only [Act.put, List.setIfInBounds_toArray, List.set_cons_zero, List.set_cons_succ, i64_w, i32_w]
                        rfl
                      refine pure_ (i := 7) (N := some 34) (v := undef) (a' := ?_) #[true, true, true, true, true, true, true, true, false, false, false, false, false, false, false] rfl rfl (any_of HT_.out (by kernel_rfl)) (fun _ _ _ h => h) (Or.inr ⟨by rfl, rfl⟩) ?_ ?_
                      rotate_left
                      · simp only [Act.put, List.setIfInBounds_toArray, List.set_cons_zero, List.set_cons_succ, i64_w, i32_w]
                        rfl
                      refine pure_ (i := 8) (N := some 35) (v := undef) (a' := ?_) #[true, true, true, true, true, true, true, true, true, false, false, false, false, false, false] rfl rfl (any_of HT_.out (by kernel_rfl)) (fun _ _ _ h => h) (Or.inr ⟨by rfl, rfl⟩) ?_ ?_
                      rotate_left
                      · simp only [Act.put, List.setIfInBounds_toArray, List.set_cons_zero, List.set_cons_succ, i64_w, i32_w]
                        rfl
                      refine pure_ (i := 9) (N := some 36) (v := undef) (a' := ?_) #[true, true, true, true, true, true, true, true, true, true, false, false, false, false, false] rfl rfl (any_of HT_.out (by kernel_rfl)) (fun _ _ _ h => h) (Or.inr ⟨by rfl, rfl⟩) ?_ ?_
                      rotate_left
                      · simp only [Act.put, List.setIfInBounds_toArray, List.set_cons_zero, List.set_cons_succ, i64_w, i32_w]
                        rfl
                      refine pure_ (i := 10) (N := some 37) (v := undef) (a' := ?_) #[true, true, true, true, true, true, true, true, true, true, true, false, false, false, false] rfl rfl (any_of HT_.out (by kernel_rfl)) (fun _ _ _ h => h) (Or.inr ⟨by rfl, rfl⟩) ?_ ?_
                      rotate_left
                      · simp only [Act.put, List.setIfInBounds_toArray, List.set_cons_zero, List.set_cons_succ, i64_w, i32_w]
                        rfl
                      refine pure_ (i := 11) (N := some 38) (v := undef) (a' := ?_) #[true, true, true, true, true, true, true, true, true, true, true, true, false, false, false] rfl rfl (any_of HT_.out (by kernel_rfl)) (fun _ _ _ h => h) (Or.inr ⟨by rfl, rfl⟩) ?_ ?_
                      rotate_left
                      · simp only [Act.put, List.setIfInBounds_toArray, List.set_cons_zero, List.set_cons_succ, i64_w, i32_w]
                        rfl
                      refine pure_ (i := 12) (N := some 39) (v := undef) (a' := ?_) #[true, true, true, true, true, true, true, true, true, true, true, true, true, false, false] rfl rfl (any_of HT_.out (by kernel_rfl)) (fun _ _ _ h => h) (Or.inr ⟨by rfl, rfl⟩) ?_ ?_
                      rotate_left
                      · simp only [Act.put, List.setIfInBounds_toArray, List.set_cons_zero, List.set_cons_succ, i64_w, i32_w]
                        rfl
                      refine pure_ (i := 13) (N := some 40) (v := undef) (a' := ?_) #[true, true, true, true, true, true, true, true, true, true, true, true, true, true, false] rfl rfl (any_of HT_.out (by kernel_rfl)) (fun _ _ _ h => h) (Or.inr ⟨by rfl, rfl⟩) ?_ ?_
                      rotate_left
                      · simp only [Act.put, List.setIfInBounds_toArray, List.set_cons_zero, List.set_cons_succ, i64_w, i32_w]
                        rfl
                      refine pure_ (i := 14) (N := some 41) (v := ?_) (a' := ?_) #[true, true, true, true, true, true, true, true, true, true, true, true, true, true, true] rfl rfl (any_of HT_.out (by kernel_rfl)) (fun _ _ _ h => h) (Or.inl ⟨by rfl, ?_⟩) ?_ ?_
                      rotate_left
                      · intro w'
                        go_simp
                        with_reducible rfl
                      rotate_left
                      · simp only [Act.put, List.setIfInBounds_toArray, List.set_cons_zero, List.set_cons_succ, i64_w, i32_w]
                        rfl
                      refine done_ (done_of HT_.out (by kernel_rfl)) ?_
                      try go_wp2
                      go_meet
                      case rel => exact ⟨_, (true), (by first | rfl | (simp; done) | (simp [*]; done)), H', ⟨by have := HJ1.out; have := HJ5.out; have := HK3.out; first | omega | exact Nat.le_refl _⟩, ⟨by (with_reducible repeat (first | apply Kd.R_alloc | apply Kd.R_drewN | apply Kd.R_drew)); exact HO_3.out⟩, ⟨by repeat (first | (with_reducible first | exact HB.out | apply below_alloc | apply pw_below_drewN | apply below_drew1) | exact HB.out)⟩⟩
                    · rw [if_neg c15] at H
                      have c15b0 : decide ((x0_5.size : Int) < ((rdOf ByteArray.empty t117 x4_3).size : Int)) = false := decide_eq_false c15
                      have c15b1 : decide (x0_5.size < (rdOf ByteArray.empty t117 x4_3).size) = false := decide_eq_false (fun h => c15 (Int.ofNat_lt.mpr h))
                      clear c15
                      (first | rw [c15b0] | (simp only [i64_w, i32_w]; rw [c15b0]) | skip)
                      by_cases c17 : 0 ≤ ((rdOf ByteArray.empty t117 x4_3).size : Int)
                      · rw [if_pos c17] at H
                        have c17b0 := eq_true c17
                        have c17b1 : decide (0 ≤ ((rdOf ByteArray.empty t117 x4_3).size : Int)) = true := decide_eq_true c17
                        clear c17
                        by_cases c18 : ((rdOf ByteArray.empty t117 x4_3).size : Int) ≤ (x0_5.size : Int)
                        · rw [if_pos c18] at H
                          have c18b0 := eq_true c18
                          have c18b1 : decide (((rdOf ByteArray.empty t117 x4_3).size : Int) ≤ (x0_5.size : Int)) = true := decide_eq_true c18
                          clear c18
                          replace H := Option.bind_eq_some_iff.mp H
                          obtain ⟨t121, A190, H⟩ := H
                          replace H : (incipitref20_bad.j3 k3 x0_5 t117 x4_3 ((rdOf ByteArray.empty t117 x4_3).size : Int) (t121.toList != (rdOf ByteArray.empty t117 x4_3).toList)) = some r := H
                          have A19 := Aside0.mk A190
                          clear A190
                          have H' := Aside0.mk H
                          clear H
                          try go_wp2
                          have n0_ := Aside0.mk (Kd.R_drew HO_3.out)
                          have n1_ := Aside0.mk (below_drew1 HB.out)
                          clear HO_3
                          clear HB
                          have HO_3 := n0_
                          have HB := n1_
                          clear n0_ n1_
                          have p122 : 0 ≤ (x4_3 : Int) := of_decide_eq_true (by first | (with_reducible assumption) | assumption)
                          have q122 : x4_3 < (t117.length : Int) := of_decide_eq_true (by first | (with_reducible assumption) | assumption)
                          obtain ⟨ad122, e122, hx122_0⟩ := Kd.at_string (Kd.R_reads' HO_3.out).2.2 x4_3 p122 q122
                          obtain rfl : ad120 = ad122 := (by injection e122)
                          replace p122 := eq_true p122
                          replace q122 := eq_true q122
                          refine start_ (n := 15) (S := fun w' => w'.cell? (ad120.add (x4_3).toNat) = some (.string (rdOf ByteArray.empty t117 x4_3))) (ds := []) #[false, false, false, false, false, false, false, false, false, false, false, false, false, false, false] (by kernel_rfl) rfl rfl (hx122_0) (fun hHeld => ?_); refine with_tabW incipitref20_bad.tab8 incipitref20_bad.bits8 (fun HT_ HW_ => ?_)
                          generalize wr.drew = w20 at HO_3 HB hx122_0 hHeld ⊢
                          refine pure_ (i := 0) (N := some 27) (v := ?_) (a' := ?_) #[true, false, false, false, false, false, false, false, false, false, false, false, false, false, false] rfl rfl (any_of HT_.out (by kernel_rfl)) (fun _ _ _ h => h) (Or.inl ⟨by rfl, ?_⟩) ?_ ?_
                          rotate_left
                          · intro w'
                            go_simp
                            with_reducible rfl
                          rotate_left
                          · simp only [Act.put, List.setIfInBounds_toArray, List.set_cons_zero, List.set_cons_succ, i64_w, i32_w]
                            rfl
                          refine pure_ (i := 1) (N := some 28) (v := ?_) (a' := ?_) #[true, true, false, false, false, false, false, false, false, false, false, false, false, false, false] rfl rfl (any_of HT_.out (by kernel_rfl)) (fun _ _ _ h => h) (Or.inl ⟨by rfl, ?_⟩) ?_ ?_
                          rotate_left
                          · intro w'
                            go_simp
                            with_reducible rfl
                          rotate_left
                          · simp only [Act.put, List.setIfInBounds_toArray, List.set_cons_zero, List.set_cons_succ, i64_w, i32_w]
                            rfl
                          refine pure_ (i := 2) (N := some 29) (v := ?_) (a' := ?_) #[true, true, true, false, false, false, false, false, false, false, false, false, false, false, false] rfl rfl (any_of HT_.out (by kernel_rfl)) (fun _ _ _ h => h) (Or.inl ⟨by rfl, ?_⟩) ?_ ?_
                          rotate_left
                          · intro w'
                            go_simp
                            with_reducible rfl
                          rotate_left
                          · simp only [Act.put, List.setIfInBounds_toArray, List.set_cons_zero, List.set_cons_succ, i64_w, i32_w]
                            rfl
                          refine pure_ (i := 3) (N := some 30) (v := ?_) (a' := ?_) #[true, true, true, true, false, false, false, false, false, false, false, false, false, false, false] rfl rfl (any_of HT_.out (by kernel_rfl)) (fun _ _ _ h => h) (Or.inl ⟨by rfl, ?_⟩) ?_ ?_
                          rotate_left
                          · intro w'
                            go_simp
                            with_reducible rfl
                          rotate_left
                          · simp only [Act.put, List.setIfInBounds_toArray, List.set_cons_zero, List.set_cons_succ, i64_w, i32_w]
                            rfl
                          refine pure_ (i := 4) (N := some 31) (v := ?_) (a' := ?_) #[true, true, true, true, true, false, false, false, false, false, false, false, false, false, false] rfl rfl (any_of HT_.out (by kernel_rfl)) (fun _ _ _ h => h) (Or.inl ⟨by rfl, ?_⟩) ?_ ?_
                          rotate_left
                          · intro w'
                            go_simp
                            with_reducible rfl
                          rotate_left
                          · simp only [Act.put, List.setIfInBounds_toArray, List.set_cons_zero, List.set_cons_succ, i64_w, i32_w]
                            rfl
                          refine pure_ (i := 5) (N := some 32) (v := ?_) (a' := ?_) #[true, true, true, true, true, true, false, false, false, false, false, false, false, false, false] rfl rfl (any_of HT_.out (by kernel_rfl)) (fun _ _ _ h => h) (Or.inl ⟨by rfl, ?_⟩) ?_ ?_
                          rotate_left
                          · intro w'
                            go_simp
                            with_reducible rfl
                          rotate_left
                          · simp only [Act.put, List.setIfInBounds_toArray, List.set_cons_zero, List.set_cons_succ, i64_w, i32_w]
                            rfl
                          refine pure_ (i := 6) (N := some 33) (v := ?_) (a' := ?_) #[true, true, true, true, true, true, true, false, false, false, false, false, false, false, false] rfl rfl (any_of HT_.out (by kernel_rfl)) (fun _ _ _ h => h) (Or.inl ⟨by rfl, ?_⟩) ?_ ?_
                          rotate_left
                          · intro w'
                            go_simp
                            with_reducible rfl
                          rotate_left
                          · simp only [Act.put, List.setIfInBounds_toArray, List.set_cons_zero, List.set_cons_succ, i64_w, i32_w]
                            rfl
                          refine pure_ (i := 7) (N := some 34) (v := ?_) (a' := ?_) #[true, true, true, true, true, true, true, true, false, false, false, false, false, false, false] rfl rfl (any_of HT_.out (by kernel_rfl)) (fun _ _ _ h => h) (Or.inl ⟨by rfl, ?_⟩) ?_ ?_
                          rotate_left
                          · intro w'
                            go_simp
                            with_reducible rfl
                          rotate_left
                          · simp only [Act.put, List.setIfInBounds_toArray, List.set_cons_zero, List.set_cons_succ, i64_w, i32_w]
                            rfl
                          refine pure_ (i := 9) (N := some 36) (v := ?_) (a' := ?_) #[true, true, true, true, true, true, true, true, false, true, false, false, false, false, false] rfl rfl (any_of HT_.out (by kernel_rfl)) (fun _ _ _ h => h) (Or.inl ⟨by rfl, ?_⟩) ?_ ?_
                          rotate_left
                          · intro w'
                            go_simp
                            with_reducible rfl
                          rotate_left
                          · simp only [Act.put, List.setIfInBounds_toArray, List.set_cons_zero, List.set_cons_succ, i64_w, i32_w]
                            rfl
                          refine pure_ (i := 10) (N := some 37) (v := ?_) (a' := ?_) #[true, true, true, true, true, true, true, true, false, true, true, false, false, false, false] rfl rfl (any_of HT_.out (by kernel_rfl)) (fun _ _ _ h => h) (Or.inl ⟨by rfl, ?_⟩) ?_ ?_
                          rotate_left
                          · intro w'
                            go_simp
                            with_reducible rfl
                          rotate_left
                          · simp only [Act.put, List.setIfInBounds_toArray, List.set_cons_zero, List.set_cons_succ, i64_w, i32_w]
                            rfl
                          refine pure_ (i := 11) (N := some 38) (v := ?_) (a' := ?_) #[true, true, true, true, true, true, true, true, false, true, true, true, false, false, false] rfl rfl (any_of HT_.out (by kernel_rfl)) (fun _ _ _ h => h) (Or.inl ⟨by rfl, ?_⟩) ?_ ?_
                          rotate_left
                          · intro w'
                            go_simp
                            with_reducible rfl
                          rotate_left
                          · simp only [Act.put, List.setIfInBounds_toArray, List.set_cons_zero, List.set_cons_succ, i64_w, i32_w]
                            rfl
                          refine take_ (i := 12) (N := some 39) (v := ?_) (a' := ?_) #[true, true, true, true, true, true, true, true, false, true, true, true, true, false, false] rfl rfl (take_ofW HT_.out HW_.out (by kernel_rfl)) (fun _ _ _ h => h) (Or.inl ⟨by rfl, ?_⟩) hHeld ?_ ?_
                          rotate_left
                          · intro w' s0
                            go_simp
                            with_reducible rfl
                          rotate_left
                          · simp only [Act.put, List.setIfInBounds_toArray, List.set_cons_zero, List.set_cons_succ, i64_w, i32_w]
                            rfl
                          refine one_ (i := 8) (N := some 35) #[true, true, true, true, true, true, true, true, true, true, true, true, true, false, false] rfl rfl (one_of HT_.out (by kernel_rfl)) (by decide) (fun K hK => ?_)
                          refine goes_ Tryz.func10 (by kernel_rfl) rfl #[.string (x0_5.extract 0 (((rdOf ByteArray.empty t117 x4_3).size : Int) : Int).toNat)] (by rfl) rfl rfl (by (try simp only [List.map_toArray, List.map_cons, List.map_nil]); first | done | rfl | (simp only [List.length_drop, List.length_take]; rfl)) ?_
                          with_reducible refine (incipitref08_Lower.calls (x0_5.extract 0 (((rdOf ByteArray.empty t117 x4_3).size : Int) : Int).toNat) t121 _ A19.out).mono ?_
                          rintro e w21 ⟨rfl, hb⟩
                          have HS0_ := (hb.cell (World.block_lt_of_cell? _ _ (hHeld))).trans (hHeld)
                          refine ⟨_, rfl, ?_⟩
                          have n0_ := Aside0.mk (Kd.R_below (by (with_reducible repeat (first | apply Kd.R_alloc | apply Kd.R_drewN | apply Kd.R_drew)); exact HO_3.out) hb)
                          have n1_ := Aside0.mk (below_step (by repeat (first | (with_reducible first | exact HB.out | apply below_alloc | apply pw_below_drewN | apply below_drew1) | exact HB.out)) hb)
                          clear HO_3
                          clear HB
                          have HO_3 := n0_
                          have HB := n1_
                          clear n0_ n1_
                          (try clear hb)
                          (try clear hb2)
                          (try clear hk)
                          (try clear hi)
                          refine hK.out _ _ (HS0_) (fun hHeld => ?_)
                          clear hK K
                          refine norm_ (a' := ?_) ?_ ?_
                          rotate_left
                          · show Act.put _ (some 35) _ = _
                            simp only [Act.put, List.setIfInBounds_toArray, List.set_cons_zero, List.set_cons_succ, i64_w, i32_w]
                            rfl
                          refine pure_ (i := 13) (N := some 40) (v := ?_) (a' := ?_) #[true, true, true, true, true, true, true, true, true, true, true, true, true, true, false] rfl rfl (any_of HT_.out (by kernel_rfl)) (fun _ _ _ h => h) (Or.inl ⟨by rfl, ?_⟩) ?_ ?_
                          rotate_left
                          · intro w'
                            go_simp
                            with_reducible rfl
                          rotate_left
                          · simp only [Act.put, List.setIfInBounds_toArray, List.set_cons_zero, List.set_cons_succ, i64_w, i32_w]
                            rfl
                          refine pure_ (i := 14) (N := some 41) (v := ?_) (a' := ?_) #[true, true, true, true, true, true, true, true, true, true, true, true, true, true, true] rfl rfl (any_of HT_.out (by kernel_rfl)) (fun _ _ _ h => h) (Or.inl ⟨by rfl, ?_⟩) ?_ ?_
                          rotate_left
                          · intro w'
                            go_simp
                            with_reducible rfl
                          rotate_left
                          · simp only [Act.put, List.setIfInBounds_toArray, List.set_cons_zero, List.set_cons_succ, i64_w, i32_w]
                            rfl
                          refine done_ (done_of HT_.out (by kernel_rfl)) ?_
                          try go_wp2
                          go_meet
                          case rel => exact ⟨_, ((t121.toList != (rdOf ByteArray.empty t117 x4_3).toList)), (by first | rfl | (simp; done) | (simp [*]; done)), H', ⟨by have := HJ1.out; have := HJ5.out; have := HK3.out; first | omega | exact Nat.le_refl _⟩, ⟨by (with_reducible repeat (first | apply Kd.R_alloc | apply Kd.R_drewN | apply Kd.R_drew)); exact HO_3.out⟩, ⟨by repeat (first | (with_reducible first | exact HB.out | apply below_alloc | apply pw_below_drewN | apply below_drew1) | exact HB.out)⟩⟩
                        · rw [if_neg c18] at H
                          exact absurd H (by simp)
                      · rw [if_neg c17] at H
                        exact absurd H (by simp)
                  case rest =>
                    clear HC13
                    try clear c1
                    try clear p1
                    try clear q1
                    try clear hx1
                    try clear c2
                    try clear p2
                    try clear c3
                    try clear c3b0
                    try clear c3b1
                    try clear c4
                    try clear c4b0
                    try clear c4b1
                    try clear p5
                    try clear q5
                    try clear hx5
                    try clear qi5
                    try clear c7
                    try clear c8
                    try clear c8b0
                    try clear c8b1
                    try clear c10
                    try clear c11
                    try clear c11b0
                    try clear c12
                    try clear c12b0
                    try clear p12
                    try clear q12
                    try clear hx12
                    try clear c15
                    try clear c15b0
                    try clear c15b1
                    try clear c17
                    try clear c17b0
                    try clear c17b1
                    try clear c18
                    try clear c18b0
                    try clear c18b1
                    try clear hx120_0
                    try clear hx122_0
                    try clear p120
                    try clear p122
                    try clear p2
                    try clear p5
                    try clear q120
                    try clear q122
                    try clear q5
                    obtain ⟨kq, x41_12, rfl, HA, HJ12, HO_3, HB⟩ := hcut
                    cases kq with
                    | zero => exact absurd HA.out (by simp [incipitref20_bad.j3])
                    | succ kj12 =>
                      have H := HA.out
                      clear HA
                      simp only [incipitref20_bad.j3] at H
                      by_cases c22 : x41_12 = true
                      · subst c22
                        have H1 : (incipitref20_bad.l0 kj12 x0_5 t117 (wrap64 (x4_3 + 1))) = some r := by rw [if_pos rfl] at H; exact H
                        clear H
                        have H := H1
                        clear H1
                        have H' := Aside0.mk H
                        clear H
                        go_wp2
                        go_roundg kj12
                        case measure => have := HJ1.out; have := HJ5.out; have := HK3.out; have := HJ12.out; omega
                        case rel => exact ⟨(wrap64 (x4_3 + 1)), (by first | rfl | (simp; done) | (simp [*]; done)), H', ⟨by have := HJ1.out; have := HJ5.out; have := HK3.out; have := HJ12.out; omega⟩, ⟨by (with_reducible repeat (first | apply Kd.R_alloc | apply Kd.R_drewN | apply Kd.R_drew)); exact HO_3.out⟩, ⟨by repeat (first | (with_reducible first | exact HB.out | apply below_alloc | apply pw_below_drewN | apply below_drew1) | exact HB.out)⟩⟩
                      · replace c22 := Bool.eq_false_iff.mpr c22
                        subst c22
                        have H1 : (if (x0_5.size : Int) = ((rdOf ByteArray.empty t117 x4_3).size : Int) then (some true) else (if 0 ≤ ((rdOf ByteArray.empty t117 x4_3).size : Int) then (if ((rdOf ByteArray.empty t117 x4_3).size : Int) ≤ (wrap64 (((rdOf ByteArray.empty t117 x4_3).size : Int) + 1)) then (if (wrap64 (((rdOf ByteArray.empty t117 x4_3).size : Int) + 1)) ≤ (x0_5.size : Int) then ((incipitref08_Within.f kj12 (⟨#[32, 9, 10, 47, 62]⟩ : ByteArray) (x0_5.extract (((rdOf ByteArray.empty t117 x4_3).size : Int) : Int).toNat ((wrap64 (((rdOf ByteArray.empty t117 x4_3).size : Int) + 1)) : Int).toNat)).bind fun t123 => (if t123 = true then (some true) else (incipitref20_bad.l0 kj12 x0_5 t117 (wrap64 (x4_3 + 1))))) else (none)) else (none)) else (none))) = some r := by rw [if_neg (show ¬ (false = true) by decide)] at H; exact H
                        clear H
                        have H := H1
                        clear H1
                        by_cases c23 : (x0_5.size : Int) = ((rdOf ByteArray.empty t117 x4_3).size : Int)
                        · rw [if_pos c23] at H
                          have c23b0 : ((x0_5.size : Int) == ((rdOf ByteArray.empty t117 x4_3).size : Int)) = true := beq_iff_eq.mpr c23
                          have c23b1 : ((x0_5.size : Int) != ((rdOf ByteArray.empty t117 x4_3).size : Int)) = false := bne_eq_false_iff_eq.mpr c23
                          have c23b2 : (x0_5.size == (rdOf ByteArray.empty t117 x4_3).size) = true := by first | simpa using c23 | (simp at c23 ⊢; omega)
                          clear c23
                          obtain rfl := Option.some.inj H
                          go_wp2
                          go_ret
                          exact ⟨by first | rfl | exact retNe _ | (simp [errW_none, errW_some] <;> rfl) | (simp [*, errW_none, errW_some] <;> rfl), by repeat (first | (with_reducible first | exact HB.out | apply below_alloc | apply pw_below_drewN | apply below_drew1) | exact HB.out)⟩
                        · rw [if_neg c23] at H
                          have c23b0 : ((x0_5.size : Int) == ((rdOf ByteArray.empty t117 x4_3).size : Int)) = false := beq_eq_false_iff_ne.mpr c23
                          have c23b1 : ((x0_5.size : Int) != ((rdOf ByteArray.empty t117 x4_3).size : Int)) = true := bne_iff_ne.mpr c23
                          have c23b2 : (x0_5.size == (rdOf ByteArray.empty t117 x4_3).size) = false := by first | simpa using c23 | (simp at c23 ⊢; omega)
                          by_cases c24 : 0 ≤ ((rdOf ByteArray.empty t117 x4_3).size : Int)
                          · rw [if_pos c24] at H
                            have c24b0 := eq_true c24
                            have c24b1 : decide (0 ≤ ((rdOf ByteArray.empty t117 x4_3).size : Int)) = true := decide_eq_true c24
                            clear c24
                            by_cases c25 : ((rdOf ByteArray.empty t117 x4_3).size : Int) ≤ (wrap64 (((rdOf ByteArray.empty t117 x4_3).size : Int) + 1))
                            · rw [if_pos c25] at H
                              have c25b0 := eq_true c25
                              have c25b1 : decide (((rdOf ByteArray.empty t117 x4_3).size : Int) ≤ (wrap64 (((rdOf ByteArray.empty t117 x4_3).size : Int) + 1))) = true := decide_eq_true c25
                              by_cases c26 : (wrap64 (((rdOf ByteArray.empty t117 x4_3).size : Int) + 1)) ≤ (x0_5.size : Int)
                              · rw [if_pos c26] at H
                                have c26b0 := eq_true c26
                                have c26b1 : decide ((wrap64 (((rdOf ByteArray.empty t117 x4_3).size : Int) + 1)) ≤ (x0_5.size : Int)) = true := decide_eq_true c26
                                replace H := Option.bind_eq_some_iff.mp H
                                obtain ⟨t123, A270, H⟩ := H
                                replace H : (if t123 = true then (some true) else (incipitref20_bad.l0 kj12 x0_5 t117 (wrap64 (x4_3 + 1)))) = some r := H
                                (try rw [Int.toNat_natCast] at A270)
                                have A27 := Aside0.mk A270
                                clear A270
                                by_cases c28 : t123 = true
                                · subst c28
                                  have H1 : (some true) = some r := by rw [if_pos rfl] at H; exact H
                                  clear H
                                  have H := H1
                                  clear H1
                                  obtain rfl := Option.some.inj H
                                  go_wp2_with (first | (go_at_call 36; (with_reducible refine (incipitref08_Within.calls kj12 (⟨#[32, 9, 10, 47, 62]⟩ : ByteArray) (x0_5.extract (rdOf ByteArray.empty t117 x4_3).size ((wrap64 (((rdOf ByteArray.empty t117 x4_3).size : Int) + 1)) : Int).toNat) true _ A27.out).mono ?_); rintro e w' ⟨rfl, ⟨nd, rfl⟩⟩))
                                  go_ret
                                  exact ⟨by first | rfl | exact retNe _ | (simp [errW_none, errW_some] <;> rfl) | (simp [*, errW_none, errW_some] <;> rfl), by repeat (first | (with_reducible first | exact HB.out | apply below_alloc | apply pw_below_drewN | apply below_drew1) | exact HB.out)⟩
                                · replace c28 := Bool.eq_false_iff.mpr c28
                                  subst c28
                                  have H1 : (incipitref20_bad.l0 kj12 x0_5 t117 (wrap64 (x4_3 + 1))) = some r := by rw [if_neg (show ¬ (false = true) by decide)] at H; exact H
                                  clear H
                                  have H := H1
                                  clear H1
                                  have H' := Aside0.mk H
                                  clear H
                                  go_wp2_with (first | (go_at_call 36; (with_reducible refine (incipitref08_Within.calls kj12 (⟨#[32, 9, 10, 47, 62]⟩ : ByteArray) (x0_5.extract (rdOf ByteArray.empty t117 x4_3).size ((wrap64 (((rdOf ByteArray.empty t117 x4_3).size : Int) + 1)) : Int).toNat) false _ A27.out).mono ?_); rintro e w' ⟨rfl, ⟨nd, rfl⟩⟩))
                                  go_roundg kj12
                                  case measure => have := HJ1.out; have := HJ5.out; have := HK3.out; have := HJ12.out; omega
                                  case rel => exact ⟨(wrap64 (x4_3 + 1)), (by first | rfl | (simp; done) | (simp [*]; done)), H', ⟨by have := HJ1.out; have := HJ5.out; have := HK3.out; have := HJ12.out; omega⟩, ⟨by (with_reducible repeat (first | apply Kd.R_alloc | apply Kd.R_drewN | apply Kd.R_drew)); exact HO_3.out⟩, ⟨by repeat (first | (with_reducible first | exact HB.out | apply below_alloc | apply pw_below_drewN | apply below_drew1) | exact HB.out)⟩⟩
                              · rw [if_neg c26] at H
                                exact absurd H (by simp)
                            · rw [if_neg c25] at H
                              exact absurd H (by simp)
                          · rw [if_neg c24] at H
                            exact absurd H (by simp)
                · rw [if_neg c12] at H
                  exact absurd H (by simp)
              · rw [if_neg c11] at H
                have c11b0 : decide (x4_3 < (t117.length : Int)) = false := decide_eq_false c11
                clear c11
                obtain rfl := Option.some.inj H
                obtain ⟨Ao29, co29, eo29⟩ := Kd.R_slice HO_3.out
                subst eo29
                go_wp2
                go_ret
                exact ⟨by first | rfl | exact retNe _ | (simp [errW_none, errW_some] <;> rfl) | (simp [*, errW_none, errW_some] <;> rfl), by repeat (first | (with_reducible first | exact HB.out | apply below_alloc | apply pw_below_drewN | apply below_drew1) | exact HB.out)⟩

end Go.Proofs.YtchdkiakdnanhaaGreatDoor.PA

namespace Go.Proofs.YtchdkiakdnanhaaGreatDoor.PA
open Go.RowKit Go.Proofs.YtchdkiakdnanhaaGreatDoorW.PrintWords Go.Proofs.YtchdkiakdnanhaaGreatDoorW.PrintLast Go.Proofs.YtchdkiakdnanhaaGreatDoorW.PrintMore
attribute [local go_sem] max2_int min2_int max_two min_two max_three min_three max_four min_four   -- for this text's walks alone
set_option linter.unusedVariables false
set_option linter.unusedSimpArgs false

/-! ### incipitref20_Filter: function 9 -/
def incipitref20_Filter.l0 : Nat → ByteArray → ByteArray → Int → Option (ByteArray)
  | 0, _, _, _ => none
  | k + 1, x0, x3, x4 => if x4 < (x0.size : Int) then (if 0 ≤ x4 then (if (bt x0 x4) = 60 then (if 0 ≤ (wrap64 (x4 + 1)) then (if (wrap64 (x4 + 1)) ≤ (x0.size : Int) then ((incipitref20_bad.f k (x0.extract ((wrap64 (x4 + 1)) : Int).toNat x0.size)).bind fun t124 => (if t124 = true then (if x3.size + 4 ≤ 9223372036854775807 then (incipitref20_Filter.l0 k x0 (x3 ++ (⟨#[38, 108, 116, 59]⟩ : ByteArray)) (wrap64 (x4 + 1))) else (none)) else (if x4 ≤ (wrap64 (x4 + 1)) then (if x3.size + (x0.extract (x4 : Int).toNat ((wrap64 (x4 + 1)) : Int).toNat).size ≤ 9223372036854775807 then (incipitref20_Filter.l0 k x0 (x3 ++ (x0.extract (x4 : Int).toNat ((wrap64 (x4 + 1)) : Int).toNat)) (wrap64 (x4 + 1))) else (none)) else (none)))) else (none)) else (none)) else (if x4 ≤ (wrap64 (x4 + 1)) then (if (wrap64 (x4 + 1)) ≤ (x0.size : Int) then (if x3.size + (x0.extract (x4 : Int).toNat ((wrap64 (x4 + 1)) : Int).toNat).size ≤ 9223372036854775807 then (incipitref20_Filter.l0 k x0 (x3 ++ (x0.extract (x4 : Int).toNat ((wrap64 (x4 + 1)) : Int).toNat)) (wrap64 (x4 + 1))) else (none)) else (none)) else (none))) else (none)) else (some x3)
def incipitref20_Filter.f (k : Nat) (a0 : ByteArray) : Option (ByteArray) := incipitref20_Filter.l0 k a0 (⟨#[]⟩ : ByteArray) 0
theorem incipitref20_Filter.mono_l : ∀ k, (∀ y0 y1 y2, LeO (incipitref20_Filter.l0 k y0 y1 y2) (incipitref20_Filter.l0 (k + 1) y0 y1 y2))
  | 0 => fun _ _ _ r h => by simp [incipitref20_Filter.l0] at h
  | k + 1 => by
    have ih0 := incipitref20_Filter.mono_l k
    · intro y0 y1 y2
      unfold incipitref20_Filter.l0
      repeat' first
      | (with_reducible exact ih0 _ _ _)
      | (with_reducible exact incipitref20_bad.mono _ _)
      | (with_reducible exact LeO.refl _)
      | (with_reducible exact LeO.none _)
      | (with_reducible refine LeO.ite ?_ ?_)
      | (with_reducible refine LeO.bind ?_ (fun _ => ?_))
      | exact ih0 _ _ _
      | exact incipitref20_bad.mono _ _
      | exact LeO.none _
      | refine LeO.ite ?_ ?_
      | refine LeO.bind ?_ (fun _ => ?_)
theorem incipitref20_Filter.mono : ∀ a0 k, LeO (incipitref20_Filter.f k a0) (incipitref20_Filter.f (k + 1) a0) := by
  intro a0 k
  have ih0 := incipitref20_Filter.mono_l k
  unfold incipitref20_Filter.f
  repeat' first
      | (with_reducible exact ih0 _ _ _)
      | (with_reducible exact incipitref20_bad.mono _ _)
      | (with_reducible exact LeO.refl _)
      | (with_reducible exact LeO.none _)
      | (with_reducible refine LeO.ite ?_ ?_)
      | (with_reducible refine LeO.bind ?_ (fun _ => ?_))
      | exact ih0 _ _ _
      | exact incipitref20_bad.mono _ _
      | exact LeO.none _
      | refine LeO.ite ?_ ?_
      | refine LeO.bind ?_ (fun _ => ?_)
set_option maxHeartbeats 8000000 in
set_option maxRecDepth 100000 in
theorem incipitref20_Filter.calls (k : Nat) (a0 : ByteArray) (r : ByteArray) (w : World) (h : incipitref20_Filter.f k a0 = some r) :
    Calls Tryz.prog 9 #[.string a0] w fun e w' => e = .returned (.string r) ∧ Below w.heap.size w w' := by
  have HB := Aside0.mk (Below.refl w.heap.size w)
  have H : (incipitref20_Filter.l0 k a0 (⟨#[]⟩ : ByteArray) 0) = some r := h
  clear h
  have H' := Aside0.mk H
  clear H
  go_enter Tryz.func9, Tryz.ntmps9
  go_wp2
  go_loopg [3, 4] k (fun kq v3 v4 w' => ∃ (x3_1 : ByteArray) (x4_1 : Int), v3 = .string x3_1 ∧ v4 = .int .i64 x4_1 ∧ Aside0 (incipitref20_Filter.l0 kq a0 x3_1 x4_1 = some r) ∧ Aside0 (kq ≤ k) ∧ Aside0 (Below w.heap.size w w'))
  case atStart => exact ⟨((⟨#[]⟩ : ByteArray)), (0), (by first | rfl | (simp; done) | (simp [*]; done)), (by first | rfl | (simp; done) | (simp [*]; done)), H', ⟨Nat.le_refl _⟩, ⟨by repeat (first | (with_reducible first | exact HB.out | apply below_alloc | apply pw_below_drewN | apply below_drew1) | exact HB.out)⟩⟩
  case round =>
    clear H'
    obtain ⟨x3_1, x4_1, rfl, rfl, HA, HK1, HB⟩ := hrel
    cases gk with
    | zero => exact absurd HA.out (by simp [incipitref20_Filter.l0])
    | succ k1 =>
      have H := HA.out
      clear HA
      simp only [incipitref20_Filter.l0] at H
      by_cases c2 : x4_1 < (a0.size : Int)
      · rw [if_pos c2] at H
        have c2b0 : decide (x4_1 < (a0.size : Int)) = true := decide_eq_true c2
        clear c2
        by_cases c3 : 0 ≤ x4_1
        · rw [if_pos c3] at H
          have c3b0 : decide (0 ≤ x4_1) = true := decide_eq_true c3
          clear c3
          by_cases c5 : (bt a0 x4_1) = 60
          · rw [if_pos c5] at H
            have c5b0 : ((bt a0 x4_1) == 60) = true := beq_iff_eq.mpr c5
            have c5b1 : ((bt a0 x4_1) != 60) = false := bne_eq_false_iff_eq.mpr c5
            clear c5
            obtain ⟨ji6, hji6⟩ : ∃ j_ : Int, (wrap64 (x4_1 + 1)) = j_ := ⟨_, rfl⟩
            replace H : (if 0 ≤ (ji6) then (if (ji6) ≤ (a0.size : Int) then ((incipitref20_bad.f k1 (a0.extract ((ji6) : Int).toNat a0.size)).bind fun t124 => (if t124 = true then (if x3_1.size + 4 ≤ 9223372036854775807 then (incipitref20_Filter.l0 k1 a0 (x3_1 ++ (⟨#[38, 108, 116, 59]⟩ : ByteArray)) ji6) else (none)) else (if x4_1 ≤ (ji6) then (if x3_1.size + (a0.extract (x4_1 : Int).toNat ((ji6) : Int).toNat).size ≤ 9223372036854775807 then (incipitref20_Filter.l0 k1 a0 (x3_1 ++ (a0.extract (x4_1 : Int).toNat ((ji6) : Int).toNat)) ji6) else (none)) else (none)))) else (none)) else (none)) = some r := by first | (rw [hji6] at H; exact H) | (simp only [hji6] at H ⊢; exact H)
            have hji6w : (IntKind.i64.wrap (x4_1 + 1)) = ji6 := (i64_w _).trans hji6
            by_cases c7 : 0 ≤ (ji6)
            · rw [if_pos c7] at H
              have c7b0 := eq_true c7
              have c7b1 : decide (0 ≤ (ji6)) = true := decide_eq_true c7
              clear c7
              by_cases c8 : (ji6) ≤ (a0.size : Int)
              · rw [if_pos c8] at H
                have c8b0 := eq_true c8
                have c8b1 : decide ((ji6) ≤ (a0.size : Int)) = true := decide_eq_true c8
                clear c8
                replace H := Option.bind_eq_some_iff.mp H
                obtain ⟨t124, A90, H⟩ := H
                replace H : (if t124 = true then (if x3_1.size + 4 ≤ 9223372036854775807 then (incipitref20_Filter.l0 k1 a0 (x3_1 ++ (⟨#[38, 108, 116, 59]⟩ : ByteArray)) ji6) else (none)) else (if x4_1 ≤ (ji6) then (if x3_1.size + (a0.extract (x4_1 : Int).toNat ((ji6) : Int).toNat).size ≤ 9223372036854775807 then (incipitref20_Filter.l0 k1 a0 (x3_1 ++ (a0.extract (x4_1 : Int).toNat ((ji6) : Int).toNat)) ji6) else (none)) else (none))) = some r := H
                have A9 := Aside0.mk A90
                clear A90
                by_cases c10 : t124 = true
                · subst c10
                  have H1 : (if x3_1.size + 4 ≤ 9223372036854775807 then (incipitref20_Filter.l0 k1 a0 (x3_1 ++ (⟨#[38, 108, 116, 59]⟩ : ByteArray)) ji6) else (none)) = some r := by rw [if_pos rfl] at H; exact H
                  clear H
                  have H := H1
                  clear H1
                  by_cases c11 : x3_1.size + 4 ≤ 9223372036854775807
                  · rw [if_pos c11] at H
                    have c11b0 := eq_true c11
                    have c11b1 : decide (x3_1.size + 4 ≤ 9223372036854775807) = true := decide_eq_true c11
                    try have c11b2 : (9223372036854775807 < x3_1.size + 4) = False := eq_false (Nat.not_lt.2 c11)
                    have H' := Aside0.mk H
                    clear H
                    have p4 : 0 ≤ (x4_1 : Int) := of_decide_eq_true (by first | (with_reducible assumption) | assumption)
                    have q4 : x4_1 < (a0.size : Int) := of_decide_eq_true (by first | (with_reducible assumption) | assumption)
                    have hx4 := bt_at a0 x4_1
                    replace p4 := eq_true p4
                    replace q4 := eq_true q4
                    go_wp2_with (first | (go_at_call 23; (with_reducible refine (incipitref20_bad.calls k1 (a0.extract ((ji6) : Int).toNat a0.size) true _ A9.out).mono ?_); rintro e w12 ⟨rfl, hb⟩; have n0_ := Aside0.mk (below_step (by repeat (first | (with_reducible first | exact HB.out | apply below_alloc | apply pw_below_drewN | apply below_drew1) | exact HB.out)) hb); clear HB; have HB := n0_; clear n0_; (try clear hb); (try clear hb2); (try clear hk); (try clear hi)))
                    go_roundg k1
                    case measure => have := HK1.out; omega
                    case rel => exact ⟨(x3_1 ++ (⟨#[38, 108, 116, 59]⟩ : ByteArray)), (ji6), (by first | rfl | (simp; done) | (simp [*]; done)), (by first | rfl | (simp; done) | (simp only [← hji6] <;> (first | rfl | simp)) | (simp [*]; done)), H', ⟨by have := HK1.out; omega⟩, ⟨by repeat (first | (with_reducible first | exact HB.out | apply below_alloc | apply pw_below_drewN | apply below_drew1) | exact HB.out)⟩⟩
                  · rw [if_neg c11] at H
                    exact absurd H (by simp)
                · replace c10 := Bool.eq_false_iff.mpr c10
                  subst c10
                  have H1 : (if x4_1 ≤ (ji6) then (if x3_1.size + (a0.extract (x4_1 : Int).toNat ((ji6) : Int).toNat).size ≤ 9223372036854775807 then (incipitref20_Filter.l0 k1 a0 (x3_1 ++ (a0.extract (x4_1 : Int).toNat ((ji6) : Int).toNat)) ji6) else (none)) else (none)) = some r := by rw [if_neg (show ¬ (false = true) by decide)] at H; exact H
                  clear H
                  have H := H1
                  clear H1
                  have c13b0 := eq_true (of_decide_eq_true (by first | (with_reducible assumption) | assumption) : 0 ≤ x4_1)
                  by_cases c14 : x4_1 ≤ (ji6)
                  · rw [if_pos c14] at H
                    have c14b0 := eq_true c14
                    have c14b1 : decide (x4_1 ≤ (ji6)) = true := decide_eq_true c14
                    clear c14
                    have c15b0 := eq_true (of_decide_eq_true (by first | (with_reducible assumption) | assumption) : (ji6) ≤ (a0.size : Int))
                    by_cases c16 : x3_1.size + (a0.extract (x4_1 : Int).toNat ((ji6) : Int).toNat).size ≤ 9223372036854775807
                    · rw [if_pos c16] at H
                      have c16b0 := eq_true c16
                      have c16b1 : decide (x3_1.size + (a0.extract (x4_1 : Int).toNat ((ji6) : Int).toNat).size ≤ 9223372036854775807) = true := decide_eq_true c16
                      have c16b4 := c16
                      (try simp only [ByteArray.size_append, ByteArray.size_extract, Nat.min_self] at c16b4)
                      (try have c16b5 := Nat.not_lt.2 c16b4)
                      (try have c16b7 : ¬ 9223372036854775807 < x3_1.size + (a0.extract (x4_1 : Int).toNat ((ji6) : Int).toNat).size := by have hh := c16; simp only [ByteArray.size_append] at hh; exact Nat.not_lt.2 hh)
                      (try have c16b9 : ¬ 9223372036854775807 < x3_1.size + (min ((ji6) : Int).toNat a0.size - (x4_1 : Int).toNat) := by have hh := c16; simp only [ByteArray.size_append, ByteArray.size_extract, Nat.min_self] at hh; first | exact Nat.not_lt.2 hh | (have hh2 := hh; simp only [ByteArray.size] at hh2 ⊢; omega))
                      (try have c16b8 : ¬ 9223372036854775807 < x3_1.size + (((ji6) : Int).toNat - (x4_1 : Int).toNat) := by have hh := c16; (try simp only [decide_eq_true_eq] at *); simp only [ByteArray.size_extract] at hh; omega)
                      try have c16b2 : (9223372036854775807 < x3_1.size + (a0.extract (x4_1 : Int).toNat ((ji6) : Int).toNat).size) = False := eq_false (Nat.not_lt.2 c16)
                      have H' := Aside0.mk H
                      clear H
                      have p4 : 0 ≤ (x4_1 : Int) := of_decide_eq_true (by first | (with_reducible assumption) | assumption)
                      have q4 : x4_1 < (a0.size : Int) := of_decide_eq_true (by first | (with_reducible assumption) | assumption)
                      have hx4 := bt_at a0 x4_1
                      replace p4 := eq_true p4
                      replace q4 := eq_true q4
                      go_wp2_with (first | (go_at_call 23; (with_reducible refine (incipitref20_bad.calls k1 (a0.extract ((ji6) : Int).toNat a0.size) false _ A9.out).mono ?_); rintro e w17 ⟨rfl, hb⟩; have n0_ := Aside0.mk (below_step (by repeat (first | (with_reducible first | exact HB.out | apply below_alloc | apply pw_below_drewN | apply below_drew1) | exact HB.out)) hb); clear HB; have HB := n0_; clear n0_; (try clear hb); (try clear hb2); (try clear hk); (try clear hi)))
                      go_roundg k1
                      case measure => have := HK1.out; omega
                      case rel => exact ⟨(x3_1 ++ (a0.extract (x4_1 : Int).toNat ((ji6) : Int).toNat)), (ji6), (by first | rfl | (simp; done) | (simp only [← hji6] <;> (first | rfl | simp)) | (simp [*]; done)), (by first | rfl | (simp; done) | (simp only [← hji6] <;> (first | rfl | simp)) | (simp [*]; done)), H', ⟨by have := HK1.out; omega⟩, ⟨by repeat (first | (with_reducible first | exact HB.out | apply below_alloc | apply pw_below_drewN | apply below_drew1) | exact HB.out)⟩⟩
                    · rw [if_neg c16] at H
                      exact absurd H (by simp)
                  · rw [if_neg c14] at H
                    exact absurd H (by simp)
              · rw [if_neg c8] at H
                exact absurd H (by simp)
            · rw [if_neg c7] at H
              exact absurd H (by simp)
          · rw [if_neg c5] at H
            have c5b0 : ((bt a0 x4_1) == 60) = false := beq_eq_false_iff_ne.mpr c5
            have c5b1 : ((bt a0 x4_1) != 60) = true := bne_iff_ne.mpr c5
            have c18b0 := eq_true (of_decide_eq_true (by first | (with_reducible assumption) | assumption) : 0 ≤ x4_1)
            by_cases c19 : x4_1 ≤ (wrap64 (x4_1 + 1))
            · rw [if_pos c19] at H
              have c19b0 := eq_true c19
              have c19b1 : decide (x4_1 ≤ (wrap64 (x4_1 + 1))) = true := decide_eq_true c19
              by_cases c20 : (wrap64 (x4_1 + 1)) ≤ (a0.size : Int)
              · rw [if_pos c20] at H
                have c20b0 := eq_true c20
                have c20b1 : decide ((wrap64 (x4_1 + 1)) ≤ (a0.size : Int)) = true := decide_eq_true c20
                by_cases c21 : x3_1.size + (a0.extract (x4_1 : Int).toNat ((wrap64 (x4_1 + 1)) : Int).toNat).size ≤ 9223372036854775807
                · rw [if_pos c21] at H
                  have c21b0 := eq_true c21
                  have c21b1 : decide (x3_1.size + (a0.extract (x4_1 : Int).toNat ((wrap64 (x4_1 + 1)) : Int).toNat).size ≤ 9223372036854775807) = true := decide_eq_true c21
                  have c21b4 := c21
                  (try simp only [ByteArray.size_append, ByteArray.size_extract, Nat.min_self] at c21b4)
                  (try have c21b5 := Nat.not_lt.2 c21b4)
                  (try have c21b7 : ¬ 9223372036854775807 < x3_1.size + ((a0.extract (x4_1 : Int).toNat ((wrap64 (x4_1 + 1)) : Int).toNat).size) := by have hh := c21; simp only [ByteArray.size_append] at hh; exact Nat.not_lt.2 hh)
                  (try have c21b9 : ¬ 9223372036854775807 < x3_1.size + ((min ((wrap64 (x4_1 + 1)) : Int).toNat a0.size - (x4_1 : Int).toNat)) := by have hh := c21; simp only [ByteArray.size_append, ByteArray.size_extract, Nat.min_self] at hh; first | exact Nat.not_lt.2 hh | (have hh2 := hh; simp only [ByteArray.size] at hh2 ⊢; omega))
                  (try have c21b8 : ¬ 9223372036854775807 < x3_1.size + (((wrap64 (x4_1 + 1)) : Int).toNat - (x4_1 : Int).toNat) := by have hh := c21; (try simp only [decide_eq_true_eq] at *); simp only [ByteArray.size_extract] at hh; omega)
                  try have c21b2 : (9223372036854775807 < x3_1.size + (a0.extract (x4_1 : Int).toNat ((wrap64 (x4_1 + 1)) : Int).toNat).size) = False := eq_false (Nat.not_lt.2 c21)
                  have H' := Aside0.mk H
                  clear H
                  have p4 : 0 ≤ (x4_1 : Int) := of_decide_eq_true (by first | (with_reducible assumption) | assumption)
                  have q4 : x4_1 < (a0.size : Int) := of_decide_eq_true (by first | (with_reducible assumption) | assumption)
                  have hx4 := bt_at a0 x4_1
                  replace p4 := eq_true p4
                  replace q4 := eq_true q4
                  go_wp2
                  go_roundg k1
                  case measure => have := HK1.out; omega
                  case rel => exact ⟨(x3_1 ++ (a0.extract (x4_1 : Int).toNat ((wrap64 (x4_1 + 1)) : Int).toNat)), (wrap64 (x4_1 + 1)), (by first | rfl | (simp; done) | (simp [*]; done)), (by first | rfl | (simp; done) | (simp [*]; done)), H', ⟨by have := HK1.out; omega⟩, ⟨by repeat (first | (with_reducible first | exact HB.out | apply below_alloc | apply pw_below_drewN | apply below_drew1) | exact HB.out)⟩⟩
                · rw [if_neg c21] at H
                  exact absurd H (by simp)
              · rw [if_neg c20] at H
                exact absurd H (by simp)
            · rw [if_neg c19] at H
              exact absurd H (by simp)
        · rw [if_neg c3] at H
          exact absurd H (by simp)
      · rw [if_neg c2] at H
        have c2b0 : decide (x4_1 < (a0.size : Int)) = false := decide_eq_false c2
        clear c2
        obtain rfl := Option.some.inj H
        go_wp2
        go_ret
        exact ⟨by first | rfl | (simp [errW_none, errW_some] <;> rfl) | (simp [*, errW_none, errW_some] <;> rfl), by repeat (first | (with_reducible first | exact HB.out | apply below_alloc | apply pw_below_drewN | apply below_drew1) | exact HB.out)⟩

/-! ### incipitlaw20_RenderFilters: function 3 -/
def incipitlaw20_RenderFilters.f (k : Nat) (a0 : ByteArray) : Option (Bool) := (incipitlaw20_awake.f).bind fun t125 => (if (a0.size : Int) > 1000 then (some t125) else ((render_Filter.f a0).bind fun t126 => (if t125 = true then ((incipitref20_Filter.f k a0).bind fun t127 => (if t126.toList = t127.toList then ((render_Filter.f t126).bind fun t128 => (some (t128.toList == t126.toList))) else (none))) else (none))))
theorem incipitlaw20_RenderFilters.mono : ∀ a0 k, LeO (incipitlaw20_RenderFilters.f k a0) (incipitlaw20_RenderFilters.f (k + 1) a0) := by
  intro a0 k
  unfold incipitlaw20_RenderFilters.f
  repeat' first
      | (with_reducible exact incipitref20_Filter.mono _ _)
      | (with_reducible exact LeO.refl _)
      | (with_reducible exact LeO.none _)
      | (with_reducible refine LeO.ite ?_ ?_)
      | (with_reducible refine LeO.bind ?_ (fun _ => ?_))
      | exact incipitref20_Filter.mono _ _
      | exact LeO.none _
      | refine LeO.ite ?_ ?_
      | refine LeO.bind ?_ (fun _ => ?_)
set_option maxHeartbeats 8000000 in
set_option maxRecDepth 100000 in
theorem incipitlaw20_RenderFilters.calls (k : Nat) (a0 : ByteArray) (r : Bool) (w : World) (hLd : LaidW w) (h : incipitlaw20_RenderFilters.f k a0 = some r) :
    Calls Tryz.prog 3 #[.string a0] w fun e w' => e = .returned (.bool r) ∧ Below w.heap.size w w' := by
  have HB := Aside0.mk (Below.refl w.heap.size w)
  have H : ((incipitlaw20_awake.f).bind fun t125 => (if (a0.size : Int) > 1000 then (some t125) else ((render_Filter.f a0).bind fun t126 => (if t125 = true then ((incipitref20_Filter.f k a0).bind fun t127 => (if t126.toList = t127.toList then ((render_Filter.f t126).bind fun t128 => (some (t128.toList == t126.toList))) else (none))) else (none))))) = some r := h
  clear h
  replace H := Option.bind_eq_some_iff.mp H
  obtain ⟨t125, A20, H⟩ := H
  replace H : (if (a0.size : Int) > 1000 then (some t125) else ((render_Filter.f a0).bind fun t126 => (if t125 = true then ((incipitref20_Filter.f k a0).bind fun t127 => (if t126.toList = t127.toList then ((render_Filter.f t126).bind fun t128 => (some (t128.toList == t126.toList))) else (none))) else (none)))) = some r := H
  have A2 := Aside0.mk A20
  clear A20
  by_cases c3 : (a0.size : Int) > 1000
  · rw [if_pos c3] at H
    have c3b0 : decide (1000 < (a0.size : Int)) = true := decide_eq_true c3
    have c3b1 : decide (1000 < a0.size) = true := decide_eq_true (by omega)
    clear c3
    obtain rfl := Option.some.inj H
    go_enter Tryz.func3, Tryz.ntmps3
    go_wp2_with (first | ((with_reducible refine gate_callee (f := 7) rfl ?_); refine goesL_ (some 5) rfl rfl Tryz.func7 (by kernel_rfl) rfl #[] rfl (by (try simp only [List.map_toArray, List.map_cons, List.map_nil]); first | done | rfl | (simp only [List.length_drop, List.length_take]; rfl)) ?_; (with_reducible refine (incipitlaw20_awake.calls  t125 _ ?side1 A2.out).mono ?_); (case side1 => exact LaidW.go hLd (by repeat (first | (with_reducible first | exact HB.out | apply below_alloc | apply pw_below_drewN | apply below_drew1) | exact HB.out))); rintro e w4 ⟨rfl, hb⟩; refine ⟨_, rfl, ?_⟩; have n0_ := Aside0.mk (below_step (by repeat (first | (with_reducible first | exact HB.out | apply below_alloc | apply pw_below_drewN | apply below_drew1) | exact HB.out)) hb); clear HB; have HB := n0_; clear n0_; (try clear hb); (try clear hb2); (try clear hk); (try clear hi)))
    go_ret
    exact ⟨by first | rfl | (simp [errW_none, errW_some] <;> rfl) | (simp [*, errW_none, errW_some] <;> rfl), by repeat (first | (with_reducible first | exact HB.out | apply below_alloc | apply pw_below_drewN | apply below_drew1) | exact HB.out)⟩
  · rw [if_neg c3] at H
    have c3b0 : decide (1000 < (a0.size : Int)) = false := decide_eq_false c3
    have c3b1 : decide (1000 < a0.size) = false := decide_eq_false (by omega)
    clear c3
    replace H := Option.bind_eq_some_iff.mp H
    obtain ⟨t126, A50, H⟩ := H
    replace H : (if t125 = true then ((incipitref20_Filter.f k a0).bind fun t127 => (if t126.toList = t127.toList then ((render_Filter.f t126).bind fun t128 => (some (t128.toList == t126.toList))) else (none))) else (none)) = some r := H
    have A5 := Aside0.mk A50
    clear A50
    by_cases c6 : t125 = true
    · subst c6
      have H1 : ((incipitref20_Filter.f k a0).bind fun t127 => (if t126.toList = t127.toList then ((render_Filter.f t126).bind fun t128 => (some (t128.toList == t126.toList))) else (none))) = some r := by rw [if_pos rfl] at H; exact H
      clear H
      have H := H1
      clear H1
      replace H := Option.bind_eq_some_iff.mp H
      obtain ⟨t127, A70, H⟩ := H
      replace H : (if t126.toList = t127.toList then ((render_Filter.f t126).bind fun t128 => (some (t128.toList == t126.toList))) else (none)) = some r := H
      have A7 := Aside0.mk A70
      clear A70
      by_cases c8 : t126.toList = t127.toList
      · rw [if_pos c8] at H
        have c8b0 : (t126.toList == t127.toList) = true := beq_iff_eq.mpr c8
        have c8b1 : (t126.toList != t127.toList) = false := bne_eq_false_iff_eq.mpr c8
        clear c8
        replace H := Option.bind_eq_some_iff.mp H
        obtain ⟨t128, A90, H⟩ := H
        replace H : (some (t128.toList == t126.toList)) = some r := H
        have A9 := Aside0.mk A90
        clear A90
        obtain rfl := Option.some.inj H
        go_enter Tryz.func3, Tryz.ntmps3
        go_wp2_with (first | ((with_reducible refine gate_callee (f := 7) rfl ?_); refine goesL_ (some 5) rfl rfl Tryz.func7 (by kernel_rfl) rfl #[] rfl (by (try simp only [List.map_toArray, List.map_cons, List.map_nil]); first | done | rfl | (simp only [List.length_drop, List.length_take]; rfl)) ?_; (with_reducible refine (incipitlaw20_awake.calls  true _ ?side1 A2.out).mono ?_); (case side1 => exact LaidW.go hLd (by repeat (first | (with_reducible first | exact HB.out | apply below_alloc | apply pw_below_drewN | apply below_drew1) | exact HB.out))); rintro e w10 ⟨rfl, hb⟩; refine ⟨_, rfl, ?_⟩; have n0_ := Aside0.mk (below_step (by repeat (first | (with_reducible first | exact HB.out | apply below_alloc | apply pw_below_drewN | apply below_drew1) | exact HB.out)) hb); clear HB; have HB := n0_; clear n0_; (try clear hb); (try clear hb2); (try clear hk); (try clear hi)) | ((with_reducible refine gate_callee (f := 8) rfl ?_); refine goesL_ (some 11) rfl rfl Tryz.func8 (by kernel_rfl) rfl #[.string a0] rfl (by (try simp only [List.map_toArray, List.map_cons, List.map_nil]); first | done | rfl | (simp only [List.length_drop, List.length_take]; rfl)) ?_; (with_reducible refine (render_Filter.calls a0 t126 _ ?side1 A5.out).mono ?_); (case side1 => exact LaidW.go hLd (by repeat (first | (with_reducible first | exact HB.out | apply below_alloc | apply pw_below_drewN | apply below_drew1) | exact HB.out))); rintro e w11 ⟨rfl, hb⟩; refine ⟨_, rfl, ?_⟩; have n0_ := Aside0.mk (below_step (by repeat (first | (with_reducible first | exact HB.out | apply below_alloc | apply pw_below_drewN | apply below_drew1) | exact HB.out)) hb); clear HB; have HB := n0_; clear n0_; (try clear hb); (try clear hb2); (try clear hk); (try clear hi)) | (go_at_call 9; (with_reducible refine (incipitref20_Filter.calls k a0 t127 _ A7.out).mono ?_); rintro e w12 ⟨rfl, hb⟩; have n0_ := Aside0.mk (below_step (by repeat (first | (with_reducible first | exact HB.out | apply below_alloc | apply pw_below_drewN | apply below_drew1) | exact HB.out)) hb); clear HB; have HB := n0_; clear n0_; (try clear hb); (try clear hb2); (try clear hk); (try clear hi)) | (go_at_call 8; (with_reducible refine (render_Filter.calls t126 t128 _ ?side1 A9.out).mono ?_); (case side1 => exact LaidW.go hLd (by repeat (first | (with_reducible first | exact HB.out | apply below_alloc | apply pw_below_drewN | apply below_drew1) | exact HB.out))); rintro e w13 ⟨rfl, hb⟩; have n0_ := Aside0.mk (below_step (by repeat (first | (with_reducible first | exact HB.out | apply below_alloc | apply pw_below_drewN | apply below_drew1) | exact HB.out)) hb); clear HB; have HB := n0_; clear n0_; (try clear hb); (try clear hb2); (try clear hk); (try clear hi)))
        go_ret
        exact ⟨by first | rfl | (simp [errW_none, errW_some] <;> rfl) | (simp [*, errW_none, errW_some] <;> rfl), by repeat (first | (with_reducible first | exact HB.out | apply below_alloc | apply pw_below_drewN | apply below_drew1) | exact HB.out)⟩
      · rw [if_neg c8] at H
        cases H
    · replace c6 := Bool.eq_false_iff.mpr c6
      subst c6
      have H1 : (none) = some r := by rw [if_neg (show ¬ (false = true) by decide)] at H; exact H
      cases H1
/-! ### incipitref08_Begins: function 11 -/
def incipitref08_Begins.f (a0 : ByteArray) (a1 : ByteArray) : Option (Bool) := if (a0.size : Int) ≥ (a1.size : Int) then (if 0 ≤ (a1.size : Int) then (if (a1.size : Int) ≤ (a0.size : Int) then (some ((a0.extract 0 ((a1.size : Int) : Int).toNat).toList == a1.toList)) else (none)) else (none)) else (some false)
set_option maxHeartbeats 8000000 in
set_option maxRecDepth 100000 in
theorem incipitref08_Begins.calls (a0 : ByteArray) (a1 : ByteArray) (r : Bool) (w : World) (h : incipitref08_Begins.f a0 a1 = some r) :
    Calls Tryz.prog 11 #[.string a0, .string a1] w fun e w' => e = .returned (.bool r) ∧ Drawn0 w w' := by
  have H : (if (a0.size : Int) ≥ (a1.size : Int) then (if 0 ≤ (a1.size : Int) then (if (a1.size : Int) ≤ (a0.size : Int) then (some ((a0.extract 0 ((a1.size : Int) : Int).toNat).toList == a1.toList)) else (none)) else (none)) else (some false)) = some r := h
  clear h
  by_cases c3 : (a0.size : Int) ≥ (a1.size : Int)
  · rw [if_pos c3] at H
    have c3b0 : decide ((a1.size : Int) ≤ (a0.size : Int)) = true := decide_eq_true c3
    have c3b1 : decide (a1.size ≤ a0.size) = true := decide_eq_true (Int.ofNat_le.mp c3)
    clear c3
    by_cases c4 : 0 ≤ (a1.size : Int)
    · rw [if_pos c4] at H
      have c4b0 := eq_true c4
      have c4b1 : decide (0 ≤ (a1.size : Int)) = true := decide_eq_true c4
      clear c4
      by_cases c5 : (a1.size : Int) ≤ (a0.size : Int)
      · rw [if_pos c5] at H
        have c5b0 := eq_true c5
        have c5b1 : decide ((a1.size : Int) ≤ (a0.size : Int)) = true := decide_eq_true c5
        clear c5
        obtain rfl := Option.some.inj H
        go_enter Tryz.func11, Tryz.ntmps11
        go_wp2
        go_ret
        exact ⟨by first | rfl | (simp; done) | (simp [*]; done), by repeat (first | exact Drawn0.refl _ | apply Drawn0.step)⟩
      · rw [if_neg c5] at H
        exact absurd H (by simp)
    · rw [if_neg c4] at H
      exact absurd H (by simp)
  · rw [if_neg c3] at H
    have c3b0 : decide ((a1.size : Int) ≤ (a0.size : Int)) = false := decide_eq_false c3
    have c3b1 : decide (a1.size ≤ a0.size) = false := decide_eq_false (fun h => c3 (Int.ofNat_le.mpr h))
    clear c3
    obtain rfl := Option.some.inj H
    go_enter Tryz.func11, Tryz.ntmps11
    go_wp2
    go_ret
    exact ⟨by first | rfl | (simp; done) | (simp [*]; done), by repeat (first | exact Drawn0.refl _ | apply Drawn0.step)⟩

end Go.Proofs.YtchdkiakdnanhaaGreatDoor.PA

namespace Go.Proofs.YtchdkiakdnanhaaGreatDoor.Pl
open Go.RowKit Go.Proofs.YtchdkiakdnanhaaGreatDoor.PA
set_option linter.unusedVariables false

theorem tw_cons (p : UInt8 → Bool) (x : UInt8) (r : List UInt8) : (x :: r).takeWhile p = if p x = true then x :: r.takeWhile p else [] := by
  rw [List.takeWhile_cons]
/-- Does a name stand ahead in a text, behind it what ends a name? -/
def nmB (n l : List UInt8) : Bool := decide (n.length ≤ l.length) && lwr (l.take n.length) == n && (decide (l.length = n.length) || (l.drop n.length).head?.any isW)
def stripS (l : List UInt8) : List UInt8 := if l.head? = some 47 then l.tail else l
theorem isW_lw1 (x : UInt8) : isW (if 65 ≤ x.toNat ∧ x.toNat ≤ 90 then x + 32 else x) = isW x := by
  have h : ∀ y : Fin 256, isW (if 65 ≤ (UInt8.ofNat y.val).toNat ∧ (UInt8.ofNat y.val).toNat ≤ 90 then UInt8.ofNat y.val + 32 else UInt8.ofNat y.val) = isW (UInt8.ofNat y.val) := by decide +kernel
  have := h ⟨x.toNat, x.toNat_lt⟩
  simpa using this
theorem lwr_noW {n : List UInt8} (hn : ∀ x ∈ n, isW x = false) {l : List UInt8} (h : lwr l = n) : ∀ x ∈ l, isW x = false := by
  intro x hx
  have h1 : (if 65 ≤ x.toNat ∧ x.toNat ≤ 90 then x + 32 else x) ∈ lwr l := List.mem_map.2 ⟨x, hx, rfl⟩
  rw [h] at h1
  rw [← isW_lw1]
  exact hn _ h1
/-- The word ahead is a name just when the name stands there and something that ends it behind it. -/
theorem nm_iff {n : List UInt8} (hn : ∀ x ∈ n, isW x = false) (l : List UInt8) : lwr (l.takeWhile fun x => !isW x) = n ↔ nmB n l = true := by
  unfold nmB
  simp only [Bool.and_eq_true, decide_eq_true_eq, beq_iff_eq, Bool.or_eq_true]
  constructor
  · intro h
    have hl : (l.takeWhile fun x => !isW x).length = n.length := by rw [← h, lwr, List.length_map]
    have hle : (l.takeWhile fun x => !isW x).length ≤ l.length := (List.takeWhile_prefix _).length_le
    have ht : l.take n.length = l.takeWhile fun x => !isW x := by
      have := List.prefix_iff_eq_take.1 (List.takeWhile_prefix (l := l) fun x => !isW x)
      rw [hl] at this
      exact this.symm
    refine ⟨⟨by omega, by rw [ht]; exact h⟩, ?_⟩
    by_cases he : l.length = n.length
    · exact .inl he
    · refine .inr ?_
      have hd : l.drop n.length = l.dropWhile fun x => !isW x := by
        have h2 := List.takeWhile_append_dropWhile (p := fun x => !isW x) (l := l)
        have h3 : l.drop (l.takeWhile fun x => !isW x).length = l.dropWhile fun x => !isW x := by
          conv => lhs; rw [← h2]
          rw [List.drop_left' (by rw [h2])]
        rw [hl] at h3
        exact h3
      rw [hd]
      have hne : (l.dropWhile fun x => !isW x) ≠ [] := by
        intro h0
        rw [← hd] at h0
        have := List.drop_eq_nil_iff.1 h0
        omega
      have h4 := List.head_dropWhile_not (p := fun x => !isW x) (l := l) hne
      rw [List.head?_eq_some_head hne]
      simpa using h4
  · rintro ⟨⟨h1, h2⟩, h3⟩
    have hall : ∀ x ∈ l.take n.length, (!isW x) = true := fun x hx => by rw [lwr_noW hn h2 x hx]; rfl
    have e : l.takeWhile (fun x => !isW x) = l.take n.length := by
      have h5 : l = l.take n.length ++ l.drop n.length := (List.take_append_drop _ _).symm
      conv => lhs; rw [h5]
      rw [List.takeWhile_append_of_pos hall]
      rcases h3 with h3 | h3
      · have : l.drop n.length = [] := List.drop_eq_nil_iff.2 (by omega)
        rw [this, List.takeWhile_nil, List.append_nil]
      · cases hd : l.drop n.length with
        | nil => rw [hd] at h3; simp at h3
        | cons y r =>
          rw [hd] at h3
          simp at h3
          rw [tw_cons, h3]
          simp
    rw [e]
    exact h2
theorem bads_noW : ∀ n ∈ bads, ∀ x ∈ n, isW x = false := by decide +kernel
theorem bad_iff (l : List UInt8) : bad l = bads.any fun n => nmB n (stripS l) := by
  unfold bad
  rw [Bool.eq_iff_iff, List.contains_iff_mem, List.any_eq_true]
  constructor
  · intro h
    exact ⟨_, h, (nm_iff (bads_noW _ h) _).1 rfl⟩
  · rintro ⟨n, hn, h⟩
    have := (nm_iff (bads_noW _ hn) _).2 h
    unfold stripS at this
    rw [this]
    exact hn
end Go.Proofs.YtchdkiakdnanhaaGreatDoor.Pl

namespace Go.Proofs.YtchdkiakdnanhaaGreatDoor.Pl
open Go.RowKit Go.Proofs.YtchdkiakdnanhaaGreatDoor.PA Go.Proofs.YtchdkiakdnanhaaGreatDoorW.PrintWords
set_option linter.unusedVariables false

theorem within_l0 (s : List UInt8) (y : UInt8) (hs : s.length ≤ 268435456) : ∀ d i : Nat, i + d = s.length → ∀ k, incipitref08_Within.l0 (k + d + 1) (B s) (B [y]) (i : Int) = some ((s.drop i).contains y) := by
  intro d
  induction d with
  | zero =>
    intro i hi k
    rw [incipitref08_Within.l0, B_size, B_size, w64 (by simp; omega) (by simp; omega), if_neg (by simp; omega), List.drop_of_length_le (by omega)]
    rfl
  | succ d ih =>
    intro i hi k
    have hil : i < s.length := by omega
    rw [show k + (d + 1) + 1 = (k + d + 1) + 1 by omega, incipitref08_Within.l0, B_size, B_size, w64 (x := (i : Int) + (([y] : List UInt8).length : Int)) (by simp; omega) (by simp; omega), if_pos (by first | omega | (simp; done) | (simp; omega)), if_pos (by omega), if_pos (by first | omega | (simp; done) | (simp; omega)), B_extract, B_toList, B_toList]
    have e1 : ((s.drop (i : Int).toNat).take (((i : Int) + (([y] : List UInt8).length : Int)).toNat - (i : Int).toNat)) = [s[i]] := by
      rw [Int.toNat_natCast, show ((i : Int) + (([y] : List UInt8).length : Int)).toNat - i = 1 by first | (simp; done) | (simp; omega), List.drop_eq_getElem_cons hil]
      rfl
    rw [e1, List.drop_eq_getElem_cons hil, List.contains_cons]
    by_cases he : s[i] = y
    · rw [if_pos (by rw [he]), he]
      simp
    · rw [if_neg (by simpa using he), w64 (by omega) (by omega), show (i : Int) + 1 = ((i + 1 : Nat) : Int) by omega, ih (i + 1) (by omega)]
      have : (y == s[i]) = false := by simpa using fun h => he h.symm
      rw [this, Bool.false_or]
theorem within_w (y : UInt8) (k : Nat) : incipitref08_Within.f (k + 6) (⟨#[32, 9, 10, 47, 62]⟩ : ByteArray) (B [y]) = some (isW y) := by
  have h := within_l0 [32, 9, 10, 47, 62] y (by decide) 5 0 (by decide) k
  unfold incipitref08_Within.f
  refine Eq.trans h ?_
  rw [isW_eq]
  rfl
theorem bads_len : ∀ n ∈ bads, n.length ≤ 20 := by decide +kernel
theorem nmB_short {n s : List UInt8} (h : s.length < n.length) : nmB n s = false := by
  unfold nmB
  rw [decide_eq_false (by omega)]
  rfl
theorem refbad_l0 (s : List UInt8) (hs : s.length ≤ 268435456) : ∀ d i : Nat, i + d = bads.length → ∀ c, incipitref20_bad.l0 (2 * d + c + 8) (B s) (bads.map B) (i : Int) = some ((bads.drop i).any fun n => nmB n s) := by
  have hbl : bads.length = 9 := rfl
  intro d
  induction d with
  | zero =>
    intro i hi c
    rw [show 2 * 0 + c + 8 = (c + 7) + 1 by omega, incipitref20_bad.l0, List.length_map, if_neg (by omega), List.drop_of_length_le (by omega)]
    rfl
  | succ d ih =>
    intro i hi c
    have hil : i < bads.length := by omega
    have hnx : incipitref20_bad.l0 (2 * d + c + 8) (B s) (bads.map B) (wrap64 ((i : Int) + 1)) = some ((bads.drop (i + 1)).any fun n => nmB n s) := by
      rw [w64 (by omega) (by omega), show (i : Int) + 1 = ((i + 1 : Nat) : Int) by omega]
      exact ih (i + 1) (by omega) c
    have hnl := bads_len _ (List.getElem_mem hil)
    rw [show 2 * (d + 1) + c + 8 = (2 * d + c + 8) + 1 + 1 by omega, incipitref20_bad.l0, List.length_map, if_pos (by omega), if_pos (by omega), getD_B i hil, List.drop_eq_getElem_cons hil, List.any_cons]
    obtain ⟨n, hn⟩ : ∃ n, bads[i] = n := ⟨_, rfl⟩
    rw [hn] at hnl ⊢
    rw [B_size, B_size]
    by_cases h1 : s.length < n.length
    · rw [if_pos (by omega), incipitref20_bad.j3, if_pos rfl, hnx, nmB_short h1, Bool.false_or]
    · rw [if_neg (by omega), if_pos (by omega), if_pos (by omega), Int.toNat_natCast, B_to]
      have hlo : incipitref08_Lower.f (B (s.take n.length)) = some (B (lwr (s.take n.length))) := by
        unfold incipitref08_Lower.f
        rw [B_size, if_pos (by rw [List.length_take]; omega), B_data]
      rw [hlo, Option.bind_some, B_toList, B_toList, incipitref20_bad.j3]
      unfold nmB
      rw [decide_eq_true (show n.length ≤ s.length by omega), Bool.true_and]
      by_cases h2 : lwr (s.take n.length) = n
      · rw [if_neg (by rw [h2]; simp), B_size, h2, beq_self_eq_true, Bool.true_and]
        by_cases h3 : s.length = n.length
        · rw [if_pos (by omega), decide_eq_true h3]
          rfl
        · have hlt : n.length < s.length := by omega
          rw [if_neg (by omega), if_pos (by omega), w64 (by omega) (by omega), if_pos (by omega), if_pos (by omega), decide_eq_false h3, Bool.false_or]
          have e1 : (B s).extract ((n.length : Int)).toNat (((n.length : Int) + 1)).toNat = B [s[n.length]] := by
            rw [B_extract, Int.toNat_natCast, show ((n.length : Int) + 1).toNat - n.length = 1 by omega, List.drop_eq_getElem_cons hlt]
            rfl
          rw [e1, show 2 * d + c + 8 = (2 * d + c + 2) + 6 by omega, within_w, Option.bind_some, List.drop_eq_getElem_cons hlt]
          simp only [List.head?_cons, Option.any_some]
          cases hw : isW s[n.length]
          · rw [if_neg (by simp), Bool.false_or]
            exact hnx
          · rw [if_pos rfl]
            rfl
      · rw [if_pos (by simpa using h2), hnx]
        have : (lwr (s.take n.length) == n) = false := by simpa using h2
        rw [this]
        rfl
theorem names_f : incipitref20_names.f = some (bads.map B) := rfl
theorem refbad_j1 (s : List UInt8) (hs : s.length ≤ 268435456) (c : Nat) : incipitref20_bad.j1 (c + 27) (B s) = some (bads.any fun n => nmB n s) := by
  rw [show c + 27 = (2 * 9 + c + 8) + 1 by omega, incipitref20_bad.j1, names_f, Option.bind_some]
  exact refbad_l0 s hs 9 0 rfl c
theorem refbad_f (s : List UInt8) (hs : s.length ≤ 268435456) (c : Nat) : incipitref20_bad.f (c + 28) (B s) = some (bad s) := by
  rw [bad_iff]
  unfold incipitref20_bad.f
  rw [B_toList, B_size]
  cases s with
  | nil =>
    rw [if_pos rfl, incipitref20_bad.j0, if_neg (by simp), refbad_j1 _ (by simp)]
    rfl
  | cons x r =>
    rw [if_neg (by simp), if_pos (by simp), show (0 : Int) = ((0 : Nat) : Int) from rfl, B_bt _ 0 (by simp)]
    simp only [List.getElem_cons_zero]
    rw [incipitref20_bad.j0]
    by_cases hx : x = 47
    · subst hx
      rw [if_pos (by decide), B_size, if_pos (by simp; omega), B_from _ _ _ rfl]
      simp only [List.drop_succ_cons, List.drop_zero]
      rw [refbad_j1 _ (by simp at hs; omega)]
      rfl
    · have h1 : ((x.toNat : Int) == 47) = false := by
        rw [beq_eq_false_iff_ne]
        intro h
        exact hx ((u8_eq x 47 (by decide)).1 h)
      rw [h1, if_neg (by simp), refbad_j1 _ hs]
      unfold stripS
      rw [List.head?_cons, if_neg (by simpa using hx)]
theorem reffilter_l0 (s : List UInt8) (hs : s.length ≤ 1048576) : ∀ d i : Nat, i + d = s.length → ∀ (acc : List UInt8) c, acc.length ≤ 4 * i → incipitref20_Filter.l0 (c + d + 40) (B s) (B acc) (i : Int) = some (B (acc ++ flt (s.drop i))) := by
  intro d
  induction d with
  | zero =>
    intro i hi acc c ha
    rw [show c + 0 + 40 = (c + 39) + 1 by omega, incipitref20_Filter.l0, B_size, if_neg (by omega), List.drop_of_length_le (by omega), flt, List.append_nil]
  | succ d ih =>
    intro i hi acc c ha
    have hil : i < s.length := by omega
    have one : (B s).extract ((i : Int)).toNat (((i : Int) + 1)).toNat = B [s[i]] := by
      rw [B_extract, Int.toNat_natCast, show ((i : Int) + 1).toNat - i = 1 by omega, List.drop_eq_getElem_cons hil]
      rfl
    rw [show c + (d + 1) + 40 = (c + d + 40) + 1 by omega, incipitref20_Filter.l0, B_size, if_pos (by omega), if_pos (by omega), B_bt s i hil, w64 (by omega) (by omega), List.drop_eq_getElem_cons hil, flt]
    have hnx : ∀ acc : List UInt8, acc.length ≤ 4 * (i + 1) → incipitref20_Filter.l0 (c + d + 40) (B s) (B acc) ((i : Int) + 1) = some (B (acc ++ flt (s.drop (i + 1)))) := fun acc h => by
      rw [show (i : Int) + 1 = ((i + 1 : Nat) : Int) by omega]
      exact ih (i + 1) (by omega) acc c h
    by_cases hx : s[i] = 60
    · rw [if_pos (by rw [hx]; rfl), if_pos (by omega), if_pos (by omega), show ((i : Int) + 1).toNat = i + 1 by omega, B_from _ _ _ rfl, show c + d + 40 = (c + d + 12) + 28 by omega, refbad_f _ (by rw [List.length_drop]; omega), Option.bind_some, show (c + d + 12) + 28 = c + d + 40 by omega]
      cases hb : bad (s.drop (i + 1))
      · rw [if_neg (by simp), if_pos (by omega)]
        rw [show (i + 1) = ((i : Int) + 1).toNat by omega, one, B_size, B_size, if_pos (by simp; omega), B_append, hnx _ (by simp; omega), show ((i : Int) + 1).toNat = i + 1 by omega, if_neg (by simp [hb]), List.append_assoc]
      · rw [if_pos rfl, B_size, if_pos (by omega), show (⟨#[38, 108, 116, 59]⟩ : ByteArray) = B [38, 108, 116, 59] from rfl, B_append, hnx _ (by simp; omega), if_pos ⟨hx, rfl⟩, List.append_assoc]
    · have h0 : ¬ ((s[i].toNat : Int) = 60) := fun h => hx ((u8_eq _ 60 (by decide)).1 h)
      rw [if_neg h0, if_pos (by omega), if_pos (by omega), one, B_size, B_size, if_pos (by simp; omega), B_append, hnx _ (by simp; omega), if_neg (fun h => hx h.1), List.append_assoc]
theorem reffilter_f (s : List UInt8) (hs : s.length ≤ 1048576) : incipitref20_Filter.f (s.length + 40) (B s) = some (B (flt s)) := by
  have h := reffilter_l0 s hs s.length 0 (by omega) [] 0 (by simp)
  unfold incipitref20_Filter.f
  rw [show 0 + s.length + 40 = s.length + 40 by omega] at h
  exact h
/-- What is filtered has no word that is filtered where the text had none. -/
theorem word_flt : ∀ l : List UInt8, (38 : UInt8) ∉ (flt l).takeWhile (fun x => !isW x) → (60 : UInt8) ∉ (flt l).takeWhile (fun x => !isW x) → l.takeWhile (fun x => !isW x) = (flt l).takeWhile (fun x => !isW x) := by
  intro l
  induction l with
  | nil => intro _ _; rfl
  | cons x r ih =>
    intro h1 h2
    rw [flt] at h1 h2 ⊢
    by_cases hx : x = 60
    · exfalso
      subst hx
      split at h1
      · rename_i hc
        rw [List.cons_append, tw_cons, if_pos (by decide)] at h1
        simp at h1
      · rename_i hc
        rw [if_neg hc, List.cons_append, tw_cons, if_pos (by decide)] at h2
        simp at h2
    · rw [if_neg (fun h => hx h.1)] at h1 h2 ⊢
      rw [List.cons_append, List.nil_append, tw_cons] at h1 h2 ⊢
      rw [tw_cons]
      split
      · rename_i hp
        rw [if_pos hp] at h1 h2
        rw [ih (fun h => h1 (List.mem_cons_of_mem _ h)) (fun h => h2 (List.mem_cons_of_mem _ h))]
      · rfl
theorem lwr_mem {x : UInt8} (hx : x = 38 ∨ x = 60) {l : List UInt8} (h : x ∈ l) : x ∈ lwr l := by
  refine List.mem_map.2 ⟨x, h, ?_⟩
  rcases hx with rfl | rfl <;> rfl
theorem bads_no : ∀ n ∈ bads, (38 : UInt8) ∉ n ∧ (60 : UInt8) ∉ n := by decide +kernel
theorem bad_flt (r : List UInt8) (h : bad (flt r) = true) : bad r = true := by
  unfold bad at h ⊢
  rw [List.contains_iff_mem] at h ⊢
  have hno := bads_no _ h
  have n1 : (38 : UInt8) ∉ ((if (flt r).head? = some 47 then (flt r).tail else flt r).takeWhile fun x => !isW x) := fun hm => hno.1 (lwr_mem (.inl rfl) hm)
  have n2 : (60 : UInt8) ∉ ((if (flt r).head? = some 47 then (flt r).tail else flt r).takeWhile fun x => !isW x) := fun hm => hno.2 (lwr_mem (.inr rfl) hm)
  cases r with
  | nil => exact h
  | cons x t =>
    by_cases hx : x = 47
    · subst hx
      have e : flt (47 :: t) = 47 :: flt t := by rw [flt, if_neg (by simp)]; rfl
      rw [e] at h n1 n2
      simp only [List.head?_cons, if_true, List.tail_cons] at h n1 n2 ⊢
      rw [word_flt t n1 n2]
      exact h
    · have hh : ¬ (flt (x :: t)).head? = some 47 := by
        rw [flt]
        split
        · simp
        · simpa using hx
      rw [if_neg hh] at h n1 n2
      rw [List.head?_cons, if_neg (by simpa using hx), word_flt _ n1 n2]
      exact h
theorem flt_idem (l : List UInt8) : flt (flt l) = flt l := by
  induction l with
  | nil => rfl
  | cons x r ih =>
    rw [flt]
    split
    · rename_i hc
      rw [flt_no _ _ (by decide), ih]
    · rename_i hc
      rw [List.cons_append, List.nil_append, flt, ih, if_neg (fun h => hc ⟨h.1, bad_flt r h.2⟩)]
      rfl
theorem flt_fix_tail {x : UInt8} {t : List UInt8} (h : flt (x :: t) = x :: t) : ¬ (x = 60 ∧ bad t = true) ∧ flt t = t := by
  rw [flt] at h
  by_cases hc : x = 60 ∧ bad t = true
  · rw [if_pos hc, hc.1] at h
    simp at h
  · rw [if_neg hc, List.cons_append, List.nil_append, List.cons.injEq] at h
    exact ⟨hc, h.2⟩
theorem flt_fix : ∀ (a r : List UInt8), flt (a ++ 60 :: r) = a ++ 60 :: r → bad r = false
  | [], r, h => by
    have := (flt_fix_tail h).1
    cases hb : bad r
    · rfl
    · exact absurd ⟨rfl, hb⟩ this
  | x :: a, r, h => flt_fix a r (flt_fix_tail h).2
end Go.Proofs.YtchdkiakdnanhaaGreatDoor.Pl

namespace Go.Proofs.YtchdkiakdnanhaaGreatDoor.PA
open Go.RowKit Go.Proofs.YtchdkiakdnanhaaGreatDoorW.PrintWords Go.Proofs.YtchdkiakdnanhaaGreatDoorW.PrintLast Go.Proofs.YtchdkiakdnanhaaGreatDoorW.PrintMore
attribute [local go_sem] max2_int min2_int max_two min_two max_three min_three max_four min_four   -- for this text's walks alone
set_option linter.unusedVariables false
set_option linter.unusedSimpArgs false

/-! ### incipitlaw20_RenderSafe: function 4 -/
mutual
def incipitlaw20_RenderSafe.l0 : Nat → Bool → ByteArray → Int → Option (Bool)
  | 0, _, _, _ => none
  | k + 1, x3, x4, x5 => if x5 < (x4.size : Int) then (if 0 ≤ x5 then (if (bt x4 x5) = 60 then (if 0 ≤ (wrap64 (x5 + 1)) then (if (wrap64 (x5 + 1)) ≤ (x4.size : Int) then (if (x4.extract ((wrap64 (x5 + 1)) : Int).toNat x4.size).toList = ([] : List UInt8) then (incipitlaw20_RenderSafe.j1 k x3 x4 x5 (x4.extract ((wrap64 (x5 + 1)) : Int).toNat x4.size) false) else (if 0 < ((x4.extract ((wrap64 (x5 + 1)) : Int).toNat x4.size).size : Int) then (incipitlaw20_RenderSafe.j1 k x3 x4 x5 (x4.extract ((wrap64 (x5 + 1)) : Int).toNat x4.size) ((bt (x4.extract ((wrap64 (x5 + 1)) : Int).toNat x4.size) 0) == 47)) else (none))) else (none)) else (none)) else (incipitlaw20_RenderSafe.l0 k x3 x4 (wrap64 (x5 + 1)))) else (none)) else (some x3)
def incipitlaw20_RenderSafe.j1 : Nat → Bool → ByteArray → Int → ByteArray → Bool → Option (Bool)
  | 0, _, _, _, _, _ => none
  | k + 1, x3, x4, x5, x6, x37 => if x37 = true then (if 1 ≤ (x6.size : Int) then (incipitlaw20_RenderSafe.j2 k x3 x4 x5 (x6.extract 1 x6.size)) else (none)) else (incipitlaw20_RenderSafe.j2 k x3 x4 x5 x6)
def incipitlaw20_RenderSafe.j2 : Nat → Bool → ByteArray → Int → ByteArray → Option (Bool)
  | 0, _, _, _, _ => none
  | k + 1, x3, x4, x5, x6 => incipitlaw20_RenderSafe.l1 k x3 x4 x5 x6 (([(⟨#[116, 105, 116, 108, 101]⟩ : ByteArray), (⟨#[116, 101, 120, 116, 97, 114, 101, 97]⟩ : ByteArray), (⟨#[115, 116, 121, 108, 101]⟩ : ByteArray), (⟨#[120, 109, 112]⟩ : ByteArray), (⟨#[105, 102, 114, 97, 109, 101]⟩ : ByteArray), (⟨#[110, 111, 101, 109, 98, 101, 100]⟩ : ByteArray), (⟨#[110, 111, 102, 114, 97, 109, 101, 115]⟩ : ByteArray), (⟨#[115, 99, 114, 105, 112, 116]⟩ : ByteArray), (⟨#[112, 108, 97, 105, 110, 116, 101, 120, 116]⟩ : ByteArray)] : List ByteArray)) 0
def incipitlaw20_RenderSafe.l1 : Nat → Bool → ByteArray → Int → ByteArray → List ByteArray → Int → Option (Bool)
  | 0, _, _, _, _, _, _ => none
  | k + 1, x3, x4, x5, x6, x7, x8 => if x8 < (x7.length : Int) then (if x6.size + 1 ≤ 9223372036854775807 then (if 0 ≤ x8 then (if (rdOf ByteArray.empty x7 x8).size + 1 ≤ 9223372036854775807 then ((incipitref08_Begins.f (x6 ++ (⟨#[32]⟩ : ByteArray)) ((rdOf ByteArray.empty x7 x8) ++ (⟨#[32]⟩ : ByteArray))).bind fun t136 => (if t136 = true then (none) else ((incipitref08_Begins.f x6 ((rdOf ByteArray.empty x7 x8) ++ (⟨#[62]⟩ : ByteArray))).bind fun t138 => (if t138 = true then (none) else ((incipitref08_Begins.f x6 ((rdOf ByteArray.empty x7 x8) ++ (⟨#[47]⟩ : ByteArray))).bind fun t140 => (if t140 = true then (none) else ((incipitref08_Begins.f x6 ((rdOf ByteArray.empty x7 x8) ++ (⟨#[9]⟩ : ByteArray))).bind fun t142 => (if t142 = true then (none) else ((incipitref08_Begins.f x6 ((rdOf ByteArray.empty x7 x8) ++ (⟨#[10]⟩ : ByteArray))).bind fun t144 => (if t144 = true then (none) else (incipitlaw20_RenderSafe.l1 k x3 x4 x5 x6 x7 (wrap64 (x8 + 1))))))))))))) else (none)) else (none)) else (none)) else (incipitlaw20_RenderSafe.l0 k x3 x4 (wrap64 (x5 + 1)))
end
def incipitlaw20_RenderSafe.f (k : Nat) (a0 : ByteArray) : Option (Bool) := (incipitlaw20_awake.f).bind fun t129 => (if (a0.size : Int) > 1000 then (some t129) else ((render_Filter.f a0).bind fun t130 => ((incipitref08_Lower.f t130).bind fun t131 => (incipitlaw20_RenderSafe.l0 k t129 t131 0))))
theorem incipitlaw20_RenderSafe.mono_l : ∀ k, (∀ y0 y1 y2, LeO (incipitlaw20_RenderSafe.l0 k y0 y1 y2) (incipitlaw20_RenderSafe.l0 (k + 1) y0 y1 y2)) ∧ (∀ y0 y1 y2 y3 y4, LeO (incipitlaw20_RenderSafe.j1 k y0 y1 y2 y3 y4) (incipitlaw20_RenderSafe.j1 (k + 1) y0 y1 y2 y3 y4)) ∧ (∀ y0 y1 y2 y3, LeO (incipitlaw20_RenderSafe.j2 k y0 y1 y2 y3) (incipitlaw20_RenderSafe.j2 (k + 1) y0 y1 y2 y3)) ∧ (∀ y0 y1 y2 y3 y4 y5, LeO (incipitlaw20_RenderSafe.l1 k y0 y1 y2 y3 y4 y5) (incipitlaw20_RenderSafe.l1 (k + 1) y0 y1 y2 y3 y4 y5))
  | 0 => ⟨fun _ _ _ r h => by simp [incipitlaw20_RenderSafe.l0] at h, fun _ _ _ _ _ r h => by simp [incipitlaw20_RenderSafe.j1] at h, fun _ _ _ _ r h => by simp [incipitlaw20_RenderSafe.j2] at h, fun _ _ _ _ _ _ r h => by simp [incipitlaw20_RenderSafe.l1] at h⟩
  | k + 1 => by
    obtain ⟨ih0, ih1, ih2, ih3⟩ := incipitlaw20_RenderSafe.mono_l k
    refine ⟨?_, ?_, ?_, ?_⟩
    · intro y0 y1 y2
      unfold incipitlaw20_RenderSafe.l0
      repeat' first
      | (with_reducible exact ih0 _ _ _)
      | (with_reducible exact ih1 _ _ _ _ _)
      | (with_reducible exact ih2 _ _ _ _)
      | (with_reducible exact ih3 _ _ _ _ _ _)
      | (with_reducible exact LeO.refl _)
      | (with_reducible exact LeO.none _)
      | (with_reducible refine LeO.ite ?_ ?_)
      | (with_reducible refine LeO.bind ?_ (fun _ => ?_))
      | exact ih0 _ _ _
      | exact ih1 _ _ _ _ _
      | exact ih2 _ _ _ _
      | exact ih3 _ _ _ _ _ _
      | exact LeO.none _
      | refine LeO.ite ?_ ?_
      | refine LeO.bind ?_ (fun _ => ?_)
    · intro y0 y1 y2 y3 y4
      unfold incipitlaw20_RenderSafe.j1
      repeat' first
      | (with_reducible exact ih0 _ _ _)
      | (with_reducible exact ih1 _ _ _ _ _)
      | (with_reducible exact ih2 _ _ _ _)
      | (with_reducible exact ih3 _ _ _ _ _ _)
      | (with_reducible exact LeO.refl _)
      | (with_reducible exact LeO.none _)
      | (with_reducible refine LeO.ite ?_ ?_)
      | (with_reducible refine LeO.bind ?_ (fun _ => ?_))
      | exact ih0 _ _ _
      | exact ih1 _ _ _ _ _
      | exact ih2 _ _ _ _
      | exact ih3 _ _ _ _ _ _
      | exact LeO.none _
      | refine LeO.ite ?_ ?_
      | refine LeO.bind ?_ (fun _ => ?_)
    · intro y0 y1 y2 y3
      unfold incipitlaw20_RenderSafe.j2
      repeat' first
      | (with_reducible exact ih0 _ _ _)
      | (with_reducible exact ih1 _ _ _ _ _)
      | (with_reducible exact ih2 _ _ _ _)
      | (with_reducible exact ih3 _ _ _ _ _ _)
      | (with_reducible exact LeO.refl _)
      | (with_reducible exact LeO.none _)
      | (with_reducible refine LeO.ite ?_ ?_)
      | (with_reducible refine LeO.bind ?_ (fun _ => ?_))
      | exact ih0 _ _ _
      | exact ih1 _ _ _ _ _
      | exact ih2 _ _ _ _
      | exact ih3 _ _ _ _ _ _
      | exact LeO.none _
      | refine LeO.ite ?_ ?_
      | refine LeO.bind ?_ (fun _ => ?_)
    · intro y0 y1 y2 y3 y4 y5
      unfold incipitlaw20_RenderSafe.l1
      repeat' first
      | (with_reducible exact ih0 _ _ _)
      | (with_reducible exact ih1 _ _ _ _ _)
      | (with_reducible exact ih2 _ _ _ _)
      | (with_reducible exact ih3 _ _ _ _ _ _)
      | (with_reducible exact LeO.refl _)
      | (with_reducible exact LeO.none _)
      | (with_reducible refine LeO.ite ?_ ?_)
      | (with_reducible refine LeO.bind ?_ (fun _ => ?_))
      | exact ih0 _ _ _
      | exact ih1 _ _ _ _ _
      | exact ih2 _ _ _ _
      | exact ih3 _ _ _ _ _ _
      | exact LeO.none _
      | refine LeO.ite ?_ ?_
      | refine LeO.bind ?_ (fun _ => ?_)
theorem incipitlaw20_RenderSafe.mono : ∀ a0 k, LeO (incipitlaw20_RenderSafe.f k a0) (incipitlaw20_RenderSafe.f (k + 1) a0) := by
  intro a0 k
  obtain ⟨ih0, ih1, ih2, ih3⟩ := incipitlaw20_RenderSafe.mono_l k
  unfold incipitlaw20_RenderSafe.f
  repeat' first
      | (with_reducible exact ih0 _ _ _)
      | (with_reducible exact ih1 _ _ _ _ _)
      | (with_reducible exact ih2 _ _ _ _)
      | (with_reducible exact ih3 _ _ _ _ _ _)
      | (with_reducible exact LeO.refl _)
      | (with_reducible exact LeO.none _)
      | (with_reducible refine LeO.ite ?_ ?_)
      | (with_reducible refine LeO.bind ?_ (fun _ => ?_))
      | exact ih0 _ _ _
      | exact ih1 _ _ _ _ _
      | exact ih2 _ _ _ _
      | exact ih3 _ _ _ _ _ _
      | exact LeO.none _
      | refine LeO.ite ?_ ?_
      | refine LeO.bind ?_ (fun _ => ?_)
set_option maxHeartbeats 8000000 in
set_option maxRecDepth 100000 in
theorem incipitlaw20_RenderSafe.calls (k : Nat) (a0 : ByteArray) (r : Bool) (w : World) (hLd : LaidW w) (h : incipitlaw20_RenderSafe.f k a0 = some r) :
    Calls Tryz.prog 4 #[.string a0] w fun e w' => e = .returned (.bool r) ∧ Below w.heap.size w w' := by
  have HB := Aside0.mk (Below.refl w.heap.size w)
  have H : ((incipitlaw20_awake.f).bind fun t129 => (if (a0.size : Int) > 1000 then (some t129) else ((render_Filter.f a0).bind fun t130 => ((incipitref08_Lower.f t130).bind fun t131 => (incipitlaw20_RenderSafe.l0 k t129 t131 0))))) = some r := h
  clear h
  replace H := Option.bind_eq_some_iff.mp H
  obtain ⟨t129, A20, H⟩ := H
  replace H : (if (a0.size : Int) > 1000 then (some t129) else ((render_Filter.f a0).bind fun t130 => ((incipitref08_Lower.f t130).bind fun t131 => (incipitlaw20_RenderSafe.l0 k t129 t131 0)))) = some r := H
  have A2 := Aside0.mk A20
  clear A20
  by_cases c3 : (a0.size : Int) > 1000
  · rw [if_pos c3] at H
    have c3b0 : decide (1000 < (a0.size : Int)) = true := decide_eq_true c3
    have c3b1 : decide (1000 < a0.size) = true := decide_eq_true (by omega)
    clear c3
    obtain rfl := Option.some.inj H
    go_enter Tryz.func4, Tryz.ntmps4
    go_wp2_with (first | ((with_reducible refine gate_callee (f := 7) rfl ?_); refine goesL_ (some 9) rfl rfl Tryz.func7 (by kernel_rfl) rfl #[] rfl (by (try simp only [List.map_toArray, List.map_cons, List.map_nil]); first | done | rfl | (simp only [List.length_drop, List.length_take]; rfl)) ?_; (with_reducible refine (incipitlaw20_awake.calls  t129 _ ?side1 A2.out).mono ?_); (case side1 => exact LaidW.go hLd (by repeat (first | (with_reducible first | exact HB.out | apply below_alloc | apply pw_below_drewN | apply below_drew1) | exact HB.out))); rintro e w4 ⟨rfl, hb⟩; refine ⟨_, rfl, ?_⟩; have n0_ := Aside0.mk (below_step (by repeat (first | (with_reducible first | exact HB.out | apply below_alloc | apply pw_below_drewN | apply below_drew1) | exact HB.out)) hb); clear HB; have HB := n0_; clear n0_; (try clear hb); (try clear hb2); (try clear hk); (try clear hi)))
    go_ret
    exact ⟨by first | rfl | exact retNe _ | (simp [errW_none, errW_some] <;> rfl) | (simp [*, errW_none, errW_some] <;> rfl), by repeat (first | (with_reducible first | exact HB.out | apply below_alloc | apply pw_below_drewN | apply below_drew1) | exact HB.out)⟩
  · rw [if_neg c3] at H
    have c3b0 : decide (1000 < (a0.size : Int)) = false := decide_eq_false c3
    have c3b1 : decide (1000 < a0.size) = false := decide_eq_false (by omega)
    clear c3
    replace H := Option.bind_eq_some_iff.mp H
    obtain ⟨t130, A50, H⟩ := H
    replace H : ((incipitref08_Lower.f t130).bind fun t131 => (incipitlaw20_RenderSafe.l0 k t129 t131 0)) = some r := H
    have A5 := Aside0.mk A50
    clear A50
    replace H := Option.bind_eq_some_iff.mp H
    obtain ⟨t131, A60, H⟩ := H
    replace H : (incipitlaw20_RenderSafe.l0 k t129 t131 0) = some r := H
    have A6 := Aside0.mk A60
    clear A60
    have H' := Aside0.mk H
    clear H
    go_enter Tryz.func4, Tryz.ntmps4
    go_wp2_with (first | ((with_reducible refine gate_callee (f := 7) rfl ?_); refine goesL_ (some 9) rfl rfl Tryz.func7 (by kernel_rfl) rfl #[] rfl (by (try simp only [List.map_toArray, List.map_cons, List.map_nil]); first | done | rfl | (simp only [List.length_drop, List.length_take]; rfl)) ?_; (with_reducible refine (incipitlaw20_awake.calls  t129 _ ?side1 A2.out).mono ?_); (case side1 => exact LaidW.go hLd (by repeat (first | (with_reducible first | exact HB.out | apply below_alloc | apply pw_below_drewN | apply below_drew1) | exact HB.out))); rintro e w7 ⟨rfl, hb⟩; refine ⟨_, rfl, ?_⟩; have n0_ := Aside0.mk (below_step (by repeat (first | (with_reducible first | exact HB.out | apply below_alloc | apply pw_below_drewN | apply below_drew1) | exact HB.out)) hb); clear HB; have HB := n0_; clear n0_; (try clear hb); (try clear hb2); (try clear hk); (try clear hi)) | ((with_reducible refine gate_callee (f := 8) rfl ?_); refine goesL_ (some 15) rfl rfl Tryz.func8 (by kernel_rfl) rfl #[.string a0] rfl (by (try simp only [List.map_toArray, List.map_cons, List.map_nil]); first | done | rfl | (simp only [List.length_drop, List.length_take]; rfl)) ?_; (with_reducible refine (render_Filter.calls a0 t130 _ ?side1 A5.out).mono ?_); (case side1 => exact LaidW.go hLd (by repeat (first | (with_reducible first | exact HB.out | apply below_alloc | apply pw_below_drewN | apply below_drew1) | exact HB.out))); rintro e w8 ⟨rfl, hb⟩; refine ⟨_, rfl, ?_⟩; have n0_ := Aside0.mk (below_step (by repeat (first | (with_reducible first | exact HB.out | apply below_alloc | apply pw_below_drewN | apply below_drew1) | exact HB.out)) hb); clear HB; have HB := n0_; clear n0_; (try clear hb); (try clear hb2); (try clear hk); (try clear hi)) | ((with_reducible refine gate_callee (f := 10) rfl ?_); refine goesL_ (some 16) rfl rfl Tryz.func10 (by kernel_rfl) rfl #[.string t130] rfl (by (try simp only [List.map_toArray, List.map_cons, List.map_nil]); first | done | rfl | (simp only [List.length_drop, List.length_take]; rfl)) ?_; (with_reducible refine (incipitref08_Lower.calls t130 t131 _ A6.out).mono ?_); rintro e w9 ⟨rfl, hb⟩; refine ⟨_, rfl, ?_⟩; have n0_ := Aside0.mk (below_step (by repeat (first | (with_reducible first | exact HB.out | apply below_alloc | apply pw_below_drewN | apply below_drew1) | exact HB.out)) hb); clear HB; have HB := n0_; clear n0_; (try clear hb); (try clear hb2); (try clear hk); (try clear hi)))
    go_loopg [5] k (fun kq v5 w' => ∃ (x5_1 : Int), v5 = .int .i64 x5_1 ∧ Aside0 (incipitlaw20_RenderSafe.l0 kq t129 t131 x5_1 = some r) ∧ Aside0 (kq ≤ k) ∧ Aside0 (Below w.heap.size w w'))
    case atStart => exact ⟨(0), (by first | rfl | (simp; done) | (simp [*]; done)), H', ⟨Nat.le_refl _⟩, ⟨by repeat (first | (with_reducible first | exact HB.out | apply below_alloc | apply pw_below_drewN | apply below_drew1) | exact HB.out)⟩⟩
    case round =>
      clear H'
      try clear c1
      try clear p2
      try clear c3
      try clear c3b0
      try clear c3b1
      try clear c4
      try clear c7
      try clear c8
      obtain ⟨x5_1, rfl, HA, HK1, HB⟩ := hrel
      cases gk with
      | zero => exact absurd HA.out (by simp [incipitlaw20_RenderSafe.l0])
      | succ k1 =>
        have H := HA.out
        clear HA
        simp only [incipitlaw20_RenderSafe.l0] at H
        by_cases c10 : x5_1 < (t131.size : Int)
        · rw [if_pos c10] at H
          have c10b0 : decide (x5_1 < (t131.size : Int)) = true := decide_eq_true c10
          clear c10
          by_cases c11 : 0 ≤ x5_1
          · rw [if_pos c11] at H
            have c11b0 : decide (0 ≤ x5_1) = true := decide_eq_true c11
            clear c11
            by_cases c13 : (bt t131 x5_1) = 60
            · rw [if_pos c13] at H
              have c13b0 : ((bt t131 x5_1) == 60) = true := beq_iff_eq.mpr c13
              have c13b1 : ((bt t131 x5_1) != 60) = false := bne_eq_false_iff_eq.mpr c13
              clear c13
              obtain ⟨ji14, hji14⟩ : ∃ j_ : Int, (wrap64 (x5_1 + 1)) = j_ := ⟨_, rfl⟩
              replace H : (if 0 ≤ (ji14) then (if (ji14) ≤ (t131.size : Int) then (if (t131.extract ((ji14) : Int).toNat t131.size).toList = ([] : List UInt8) then (incipitlaw20_RenderSafe.j1 k1 t129 t131 x5_1 (t131.extract ((ji14) : Int).toNat t131.size) false) else (if 0 < ((t131.extract ((ji14) : Int).toNat t131.size).size : Int) then (incipitlaw20_RenderSafe.j1 k1 t129 t131 x5_1 (t131.extract ((ji14) : Int).toNat t131.size) ((bt (t131.extract ((ji14) : Int).toNat t131.size) 0) == 47)) else (none))) else (none)) else (none)) = some r := by first | (rw [hji14] at H; exact H) | (simp only [hji14] at H ⊢; exact H)
              have hji14w : (IntKind.i64.wrap (x5_1 + 1)) = ji14 := (i64_w _).trans hji14
              by_cases c15 : 0 ≤ (ji14)
              · rw [if_pos c15] at H
                have c15b0 := eq_true c15
                have c15b1 : decide (0 ≤ (ji14)) = true := decide_eq_true c15
                clear c15
                by_cases c16 : (ji14) ≤ (t131.size : Int)
                · rw [if_pos c16] at H
                  have c16b0 := eq_true c16
                  have c16b1 : decide ((ji14) ≤ (t131.size : Int)) = true := decide_eq_true c16
                  clear c16
                  have HC17 := Aside0.mk H
                  clear H
                  have p12 : 0 ≤ (x5_1 : Int) := of_decide_eq_true (by first | (with_reducible assumption) | assumption)
                  have q12 : x5_1 < (t131.size : Int) := of_decide_eq_true (by first | (with_reducible assumption) | assumption)
                  have hx12 := bt_at t131 x5_1
                  replace p12 := eq_true p12
                  replace q12 := eq_true q12
                  go_upto_region 10 with (fail)
                  obtain ⟨x6e, hx6e⟩ : ∃ z, t131.extract ((ji14) : Int).toNat t131.size = z := ⟨_, rfl⟩
                  rw [hx6e] at HC17 ⊢
                  clear hx6e
                  go_cut [37] (fun v37 wc => ∃ (kq : Nat) (x37_16 : Bool), v37 = .bool x37_16 ∧ Aside0 (incipitlaw20_RenderSafe.j1 kq t129 t131 x5_1 x6e x37_16 = some r) ∧ Aside0 (kq ≤ k1) ∧ Aside0 (Below w.heap.size w wc))
                  case first =>
                    have H := HC17.out
                    clear HC17
                    by_cases c18 : x6e.toList = ([] : List UInt8)
                    · rw [if_pos c18] at H
                      have c18b0 : (x6e.toList == ([] : List UInt8)) = true := beq_iff_eq.mpr c18
                      have c18b1 : (x6e.toList != ([] : List UInt8)) = false := bne_eq_false_iff_eq.mpr c18
                      clear c18
                      (first | rw [c18b0] | (simp only [i64_w, i32_w]; rw [c18b0]) | skip)
                      have H' := Aside0.mk H
                      clear H
                      go_wp2
                      go_meet
                      case rel => exact ⟨_, (false), (by first | rfl | (simp; done) | (simp [*]; done)), H', ⟨by have := HK1.out; first | omega | exact Nat.le_refl _⟩, ⟨by repeat (first | (with_reducible first | exact HB.out | apply below_alloc | apply pw_below_drewN | apply below_drew1) | exact HB.out)⟩⟩
                    · rw [if_neg c18] at H
                      have c18b0 : (x6e.toList == ([] : List UInt8)) = false := beq_eq_false_iff_ne.mpr c18
                      have c18b1 : (x6e.toList != ([] : List UInt8)) = true := bne_iff_ne.mpr c18
                      (first | rw [c18b0] | (simp only [i64_w, i32_w]; rw [c18b0]) | skip)
                      by_cases c19 : 0 < (x6e.size : Int)
                      · rw [if_pos c19] at H
                        have c19b0 : decide (0 < (x6e.size : Int)) = true := decide_eq_true c19
                        have c19b0s := c19b0
                        (try simp only [ByteArray.size_append, ByteArray.size_extract, Int.natCast_add] at c19b0s)
                        (try have c19b0t := eq_true (of_decide_eq_true c19b0s))
                        have c19b1 : decide (0 < x6e.size) = true := decide_eq_true (by omega)
                        have c19b1s := c19b1
                        (try simp only [ByteArray.size_append, ByteArray.size_extract, Int.natCast_add] at c19b1s)
                        (try have c19b1t := eq_true (of_decide_eq_true c19b1s))
                        clear c19
                        have H' := Aside0.mk H
                        clear H
                        have p20 : 0 ≤ (0 : Int) := (by omega)
                        have q20 : 0 < x6e.size := (by have : (0 : Int) < (x6e.size : Int) := of_decide_eq_true (by first | (with_reducible assumption) | assumption); omega)
                        have hx20 : ∀ h : 0 < x6e.size, ((x6e[0]'h).toNat : Int) = bt x6e 0 := bt_at x6e 0
                        clear p20
                        have qi20 : (0 < (x6e.size : Int)) = True := eq_true (of_decide_eq_true (by first | (with_reducible assumption) | assumption))
                        replace q20 := eq_true q20
                        go_wp2
                        go_meet
                        case rel => exact ⟨_, (((bt x6e 0) == 47)), (by first | rfl | (simp; done) | (simp only [← hji14] <;> (first | rfl | simp)) | (simp [*]; done)), H', ⟨by have := HK1.out; first | omega | exact Nat.le_refl _⟩, ⟨by repeat (first | (with_reducible first | exact HB.out | apply below_alloc | apply pw_below_drewN | apply below_drew1) | exact HB.out)⟩⟩
                      · rw [if_neg c19] at H
                        exact absurd H (by simp)
                  case rest =>
                    clear HC17
                    try clear c1
                    try clear p1
                    try clear q1
                    try clear hx1
                    try clear p2
                    try clear q2
                    try clear hx2
                    try clear qi2
                    try clear c3
                    try clear c3b0
                    try clear c3b1
                    try clear c4
                    try clear p6
                    try clear c7
                    try clear c8
                    try clear c10
                    try clear c10b0
                    try clear c11
                    try clear c11b0
                    try clear p12
                    try clear q12
                    try clear hx12
                    try clear c13
                    try clear c13b0
                    try clear c13b1
                    try clear c15
                    try clear c15b0
                    try clear c15b1
                    try clear c16
                    try clear c16b0
                    try clear c16b1
                    try clear c18
                    try clear c18b0
                    try clear c18b1
                    try clear c19
                    try clear c19b0
                    try clear c19b1
                    try clear p20
                    try clear q20
                    try clear hx20
                    try clear qi20
                    try clear p12
                    try clear p2
                    try clear p20
                    try clear q12
                    try clear q20
                    obtain ⟨kq, x37_16, rfl, HA, HJ16, HB⟩ := hcut
                    cases kq with
                    | zero => exact absurd HA.out (by simp [incipitlaw20_RenderSafe.j1])
                    | succ kj16 =>
                      have H := HA.out
                      clear HA
                      simp only [incipitlaw20_RenderSafe.j1] at H
                      have HC21 := Aside0.mk H
                      clear H
                      go_upto_if 37 with (fail)
                      go_cut [6] (fun v6 wc => ∃ (kq : Nat) (x6_20 : ByteArray), v6 = .string x6_20 ∧ Aside0 (incipitlaw20_RenderSafe.j2 kq t129 t131 x5_1 x6_20 = some r) ∧ Aside0 (kq ≤ kj16) ∧ Aside0 (Below w.heap.size w wc))
                      case first =>
                        have H := HC21.out
                        clear HC21
                        by_cases c22 : x37_16 = true
                        · subst c22
                          have H1 : (if 1 ≤ (x6e.size : Int) then (incipitlaw20_RenderSafe.j2 kj16 t129 t131 x5_1 (x6e.extract 1 x6e.size)) else (none)) = some r := by rw [if_pos rfl] at H; exact H
                          clear H
                          have H := H1
                          clear H1
                          by_cases c23 : 1 ≤ (x6e.size : Int)
                          · rw [if_pos c23] at H
                            have c23b0 := eq_true c23
                            have c23b1 : decide (1 ≤ (x6e.size : Int)) = true := decide_eq_true c23
                            have c23b1s := c23b1
                            (try simp only [ByteArray.size_append, ByteArray.size_extract, Int.natCast_add] at c23b1s)
                            (try have c23b1t := eq_true (of_decide_eq_true c23b1s))
                            clear c23
                            have H' := Aside0.mk H
                            clear H
                            go_wp2
                            go_meet
                            case rel => exact ⟨_, (x6e.extract 1 x6e.size), (by first | rfl | (simp; done) | (simp only [← hji14] <;> (first | rfl | simp)) | (simp [*]; done)), H', ⟨by have := HK1.out; have := HJ16.out; first | omega | exact Nat.le_refl _⟩, ⟨by repeat (first | (with_reducible first | exact HB.out | apply below_alloc | apply pw_below_drewN | apply below_drew1) | exact HB.out)⟩⟩
                          · rw [if_neg c23] at H
                            exact absurd H (by simp)
                        · replace c22 := Bool.eq_false_iff.mpr c22
                          subst c22
                          have H1 : (incipitlaw20_RenderSafe.j2 kj16 t129 t131 x5_1 x6e) = some r := by rw [if_neg (show ¬ (false = true) by decide)] at H; exact H
                          clear H
                          have H := H1
                          clear H1
                          have H' := Aside0.mk H
                          clear H
                          go_wp2
                          go_meet
                          case rel => exact ⟨_, (x6e), (by first | rfl | (simp; done) | (simp only [← hji14] <;> (first | rfl | simp)) | (simp [*]; done)), H', ⟨by have := HK1.out; have := HJ16.out; first | omega | exact Nat.le_refl _⟩, ⟨by repeat (first | (with_reducible first | exact HB.out | apply below_alloc | apply pw_below_drewN | apply below_drew1) | exact HB.out)⟩⟩
                      case rest =>
                        clear HC21
                        try clear c1
                        try clear p1
                        try clear q1
                        try clear hx1
                        try clear c2
                        try clear p2
                        try clear q2
                        try clear hx2
                        try clear qi2
                        try clear c3
                        try clear c3b0
                        try clear c3b1
                        try clear c4
                        try clear p6
                        try clear c7
                        try clear c8
                        try clear c10
                        try clear c10b0
                        try clear c11
                        try clear c11b0
                        try clear p12
                        try clear q12
                        try clear hx12
                        try clear c13
                        try clear c13b0
                        try clear c13b1
                        try clear c15
                        try clear c15b0
                        try clear c15b1
                        try clear c16
                        try clear c16b0
                        try clear c16b1
                        try clear c18
                        try clear c18b0
                        try clear c18b1
                        try clear c19
                        try clear c19b0
                        try clear c19b1
                        try clear p20
                        try clear q20
                        try clear hx20
                        try clear qi20
                        try clear c22
                        try clear c23
                        try clear c23b0
                        try clear c23b1
                        try clear p1
                        try clear p12
                        try clear p2
                        try clear p20
                        try clear p6
                        try clear q1
                        try clear q12
                        try clear q2
                        try clear q20
                        obtain ⟨kq, x6_20, rfl, HA, HJ20, HB⟩ := hcut
                        cases kq with
                        | zero => exact absurd HA.out (by simp [incipitlaw20_RenderSafe.j2])
                        | succ kj20 =>
                          have H := HA.out
                          clear HA
                          simp only [incipitlaw20_RenderSafe.j2] at H
                          obtain ⟨y132, hy132⟩ : ∃ y_ : List ByteArray, y_ = (([(⟨#[116, 105, 116, 108, 101]⟩ : ByteArray), (⟨#[116, 101, 120, 116, 97, 114, 101, 97]⟩ : ByteArray), (⟨#[115, 116, 121, 108, 101]⟩ : ByteArray), (⟨#[120, 109, 112]⟩ : ByteArray), (⟨#[105, 102, 114, 97, 109, 101]⟩ : ByteArray), (⟨#[110, 111, 101, 109, 98, 101, 100]⟩ : ByteArray), (⟨#[110, 111, 102, 114, 97, 109, 101, 115]⟩ : ByteArray), (⟨#[115, 99, 114, 105, 112, 116]⟩ : ByteArray), (⟨#[112, 108, 97, 105, 110, 116, 101, 120, 116]⟩ : ByteArray)] : List ByteArray)) := ⟨_, rfl⟩
                          replace H : (incipitlaw20_RenderSafe.l1 kj20 t129 t131 x5_1 x6_20 y132 0) = some r := by first | (rw [hy132]; with_reducible exact H) | (have H2_ := (Option.bind_some _ _).symm.trans H; rw [hy132]; with_reducible exact H2_) | (have H2_ := (Option.bind_some _ _).symm.trans H; with_reducible exact H2_) | with_reducible exact H | (rw [hy132]; exact H) | exact H
                          have Ny132 := Aside0.mk hy132
                          clear hy132
                          have H' := Aside0.mk H
                          clear H
                          go_wp2_with (first | ((with_reducible refine gate_dst (N := 40) rfl ?_); refine Kd.R_lit Kd.string _ 9 ?hg (N := 40) ?hd (xs := ([(⟨#[116, 105, 116, 108, 101]⟩ : ByteArray), (⟨#[116, 101, 120, 116, 97, 114, 101, 97]⟩ : ByteArray), (⟨#[115, 116, 121, 108, 101]⟩ : ByteArray), (⟨#[120, 109, 112]⟩ : ByteArray), (⟨#[105, 102, 114, 97, 109, 101]⟩ : ByteArray), (⟨#[110, 111, 101, 109, 98, 101, 100]⟩ : ByteArray), (⟨#[110, 111, 102, 114, 97, 109, 101, 115]⟩ : ByteArray), (⟨#[115, 99, 114, 105, 112, 116]⟩ : ByteArray), (⟨#[112, 108, 97, 105, 110, 116, 101, 120, 116]⟩ : ByteArray)] : List ByteArray)) (inner := [.string (⟨#[116, 105, 116, 108, 101]⟩ : ByteArray), .string (⟨#[116, 101, 120, 116, 97, 114, 101, 97]⟩ : ByteArray), .string (⟨#[115, 116, 121, 108, 101]⟩ : ByteArray), .string (⟨#[120, 109, 112]⟩ : ByteArray), .string (⟨#[105, 102, 114, 97, 109, 101]⟩ : ByteArray), .string (⟨#[110, 111, 101, 109, 98, 101, 100]⟩ : ByteArray), .string (⟨#[110, 111, 102, 114, 97, 109, 101, 115]⟩ : ByteArray), .string (⟨#[115, 99, 114, 105, 112, 116]⟩ : ByteArray), .string (⟨#[112, 108, 97, 105, 110, 116, 101, 120, 116]⟩ : ByteArray)]) (ok := fun _ => True) (okp := fun _ => True) ?hr ?hp (fun _ hk => hk) trivial (Below.refl _ _) (Nat.le_refl _) (by simp) ?_; (case hd => rfl); (case hg => rfl); (case hr => first | (go_simp; done) | (go_simp; rfl)); (case hp => exact (Reps.one (show Kd.M Kd.string _ _ _ (⟨#[116, 105, 116, 108, 101]⟩ : ByteArray) [.string (⟨#[116, 105, 116, 108, 101]⟩ : ByteArray)] from rfl) (Reps.one (show Kd.M Kd.string _ _ _ (⟨#[116, 101, 120, 116, 97, 114, 101, 97]⟩ : ByteArray) [.string (⟨#[116, 101, 120, 116, 97, 114, 101, 97]⟩ : ByteArray)] from rfl) (Reps.one (show Kd.M Kd.string _ _ _ (⟨#[115, 116, 121, 108, 101]⟩ : ByteArray) [.string (⟨#[115, 116, 121, 108, 101]⟩ : ByteArray)] from rfl) (Reps.one (show Kd.M Kd.string _ _ _ (⟨#[120, 109, 112]⟩ : ByteArray) [.string (⟨#[120, 109, 112]⟩ : ByteArray)] from rfl) (Reps.one (show Kd.M Kd.string _ _ _ (⟨#[105, 102, 114, 97, 109, 101]⟩ : ByteArray) [.string (⟨#[105, 102, 114, 97, 109, 101]⟩ : ByteArray)] from rfl) (Reps.one (show Kd.M Kd.string _ _ _ (⟨#[110, 111, 101, 109, 98, 101, 100]⟩ : ByteArray) [.string (⟨#[110, 111, 101, 109, 98, 101, 100]⟩ : ByteArray)] from rfl) (Reps.one (show Kd.M Kd.string _ _ _ (⟨#[110, 111, 102, 114, 97, 109, 101, 115]⟩ : ByteArray) [.string (⟨#[110, 111, 102, 114, 97, 109, 101, 115]⟩ : ByteArray)] from rfl) (Reps.one (show Kd.M Kd.string _ _ _ (⟨#[115, 99, 114, 105, 112, 116]⟩ : ByteArray) [.string (⟨#[115, 99, 114, 105, 112, 116]⟩ : ByteArray)] from rfl) (Reps.one (show Kd.M Kd.string _ _ _ (⟨#[112, 108, 97, 105, 110, 116, 101, 120, 116]⟩ : ByteArray) [.string (⟨#[112, 108, 97, 105, 110, 116, 101, 120, 116]⟩ : ByteArray)] from rfl) (Reps.none _ _))))))))))); intro v133 w24 ho25 hb hg_ hnew_; clear hg_ hnew_; (first | rw [← Ny132.out] at ho25 | (simp only [Int.reduceToNat] at ho25; rw [← Ny132.out] at ho25)); have n0_ := Aside0.mk (Kd.R_lower ho25 (below_size (by repeat (first | (with_reducible first | exact HB.out | apply below_alloc | apply pw_below_drewN | apply below_drew1) | exact HB.out)))); have n1_ := Aside0.mk (below_step (by repeat (first | (with_reducible first | exact HB.out | apply below_alloc | apply pw_below_drewN | apply below_drew1) | exact HB.out)) hb); clear HB; have HO134 := n0_; have HB := n1_; clear n0_ n1_; clear hb ho25))
                          go_loopg [8] kj20 (fun kq v8 w' => ∃ (x8_4 : Int), v8 = .int .i64 x8_4 ∧ Aside0 (incipitlaw20_RenderSafe.l1 kq t129 t131 x5_1 x6_20 y132 x8_4 = some r) ∧ Aside0 (kq ≤ kj20) ∧ Aside0 (Kd.R Kd.string 9 w' w.heap.size (fun _ => True) v133 y132) ∧ Aside0 (Below w.heap.size w w'))
                          case atStart => exact ⟨(0), (by first | rfl | (simp; done) | (simp [*]; done)), H', ⟨Nat.le_refl _⟩, ⟨by (with_reducible repeat (first | apply Kd.R_alloc | apply Kd.R_drewN | apply Kd.R_drew)); exact HO134.out⟩, ⟨by repeat (first | (with_reducible first | exact HB.out | apply below_alloc | apply pw_below_drewN | apply below_drew1) | exact HB.out)⟩⟩
                          case round =>
                            clear H'
                            try clear c1
                            try clear p1
                            try clear q1
                            try clear hx1
                            try clear c2
                            try clear p2
                            try clear q2
                            try clear hx2
                            try clear qi2
                            try clear c3
                            try clear c3b0
                            try clear c3b1
                            try clear c4
                            try clear p6
                            try clear c7
                            try clear c8
                            try clear c10
                            try clear c10b0
                            try clear c11
                            try clear c11b0
                            try clear p12
                            try clear q12
                            try clear hx12
                            try clear c13
                            try clear c13b0
                            try clear c13b1
                            try clear c15
                            try clear c15b0
                            try clear c15b1
                            try clear c16
                            try clear c16b0
                            try clear c16b1
                            try clear c18
                            try clear c18b0
                            try clear c18b1
                            try clear c19
                            try clear c19b0
                            try clear c19b1
                            try clear p20
                            try clear q20
                            try clear hx20
                            try clear qi20
                            try clear c22
                            try clear c23
                            try clear c23b0
                            try clear c23b1
                            try clear p1
                            try clear p12
                            try clear p2
                            try clear p20
                            try clear p6
                            try clear q1
                            try clear q12
                            try clear q2
                            try clear q20
                            obtain ⟨x8_4, rfl, HA, HK4, HO_7, HB⟩ := hrel
                            cases gk with
                            | zero => exact absurd HA.out (by simp [incipitlaw20_RenderSafe.l1])
                            | succ k4 =>
                              have H := HA.out
                              clear HA
                              simp only [incipitlaw20_RenderSafe.l1] at H
                              by_cases c26 : x8_4 < (y132.length : Int)
                              · rw [if_pos c26] at H
                                have c26b0 : decide (x8_4 < (y132.length : Int)) = true := decide_eq_true c26
                                clear c26
                                by_cases c27 : x6_20.size + 1 ≤ 9223372036854775807
                                · rw [if_pos c27] at H
                                  have c27b0 := eq_true c27
                                  have c27b1 : decide (x6_20.size + 1 ≤ 9223372036854775807) = true := decide_eq_true c27
                                  try have c27b2 : (9223372036854775807 < x6_20.size + 1) = False := eq_false (Nat.not_lt.2 c27)
                                  by_cases c28 : 0 ≤ x8_4
                                  · rw [if_pos c28] at H
                                    have c28b0 : decide (0 ≤ x8_4) = true := decide_eq_true c28
                                    clear c28
                                    by_cases c29 : (rdOf ByteArray.empty y132 x8_4).size + 1 ≤ 9223372036854775807
                                    · rw [if_pos c29] at H
                                      have c29b0 := eq_true c29
                                      have c29b1 : decide ((rdOf ByteArray.empty y132 x8_4).size + 1 ≤ 9223372036854775807) = true := decide_eq_true c29
                                      try have c29b2 : (9223372036854775807 < (rdOf ByteArray.empty y132 x8_4).size + 1) = False := eq_false (Nat.not_lt.2 c29)
                                      replace H := Option.bind_eq_some_iff.mp H
                                      obtain ⟨t136, A300, H⟩ := H
                                      replace H : (if t136 = true then (none) else ((incipitref08_Begins.f x6_20 ((rdOf ByteArray.empty y132 x8_4) ++ (⟨#[62]⟩ : ByteArray))).bind fun t138 => (if t138 = true then (none) else ((incipitref08_Begins.f x6_20 ((rdOf ByteArray.empty y132 x8_4) ++ (⟨#[47]⟩ : ByteArray))).bind fun t140 => (if t140 = true then (none) else ((incipitref08_Begins.f x6_20 ((rdOf ByteArray.empty y132 x8_4) ++ (⟨#[9]⟩ : ByteArray))).bind fun t142 => (if t142 = true then (none) else ((incipitref08_Begins.f x6_20 ((rdOf ByteArray.empty y132 x8_4) ++ (⟨#[10]⟩ : ByteArray))).bind fun t144 => (if t144 = true then (none) else (incipitlaw20_RenderSafe.l1 k4 t129 t131 x5_1 x6_20 y132 (wrap64 (x8_4 + 1)))))))))))) = some r := H
                                      have A30 := Aside0.mk A300
                                      clear A300
                                      by_cases c31 : t136 = true
                                      · subst c31
                                        have H1 : (none) = some r := by rw [if_pos rfl] at H; exact H
                                        cases H1
                                      · replace c31 := Bool.eq_false_iff.mpr c31
                                        subst c31
                                        have H1 : ((incipitref08_Begins.f x6_20 ((rdOf ByteArray.empty y132 x8_4) ++ (⟨#[62]⟩ : ByteArray))).bind fun t138 => (if t138 = true then (none) else ((incipitref08_Begins.f x6_20 ((rdOf ByteArray.empty y132 x8_4) ++ (⟨#[47]⟩ : ByteArray))).bind fun t140 => (if t140 = true then (none) else ((incipitref08_Begins.f x6_20 ((rdOf ByteArray.empty y132 x8_4) ++ (⟨#[9]⟩ : ByteArray))).bind fun t142 => (if t142 = true then (none) else ((incipitref08_Begins.f x6_20 ((rdOf ByteArray.empty y132 x8_4) ++ (⟨#[10]⟩ : ByteArray))).bind fun t144 => (if t144 = true then (none) else (incipitlaw20_RenderSafe.l1 k4 t129 t131 x5_1 x6_20 y132 (wrap64 (x8_4 + 1))))))))))) = some r := by rw [if_neg (show ¬ (false = true) by decide)] at H; exact H
                                        clear H
                                        have H := H1
                                        clear H1
                                        replace H := Option.bind_eq_some_iff.mp H
                                        obtain ⟨t138, A330, H⟩ := H
                                        replace H : (if t138 = true then (none) else ((incipitref08_Begins.f x6_20 ((rdOf ByteArray.empty y132 x8_4) ++ (⟨#[47]⟩ : ByteArray))).bind fun t140 => (if t140 = true then (none) else ((incipitref08_Begins.f x6_20 ((rdOf ByteArray.empty y132 x8_4) ++ (⟨#[9]⟩ : ByteArray))).bind fun t142 => (if t142 = true then (none) else ((incipitref08_Begins.f x6_20 ((rdOf ByteArray.empty y132 x8_4) ++ (⟨#[10]⟩ : ByteArray))).bind fun t144 => (if t144 = true then (none) else (incipitlaw20_RenderSafe.l1 k4 t129 t131 x5_1 x6_20 y132 (wrap64 (x8_4 + 1)))))))))) = some r := H
                                        have A33 := Aside0.mk A330
                                        clear A330
                                        by_cases c34 : t138 = true
                                        · subst c34
                                          have H1 : (none) = some r := by rw [if_pos rfl] at H; exact H
                                          cases H1
                                        · replace c34 := Bool.eq_false_iff.mpr c34
                                          subst c34
                                          have H1 : ((incipitref08_Begins.f x6_20 ((rdOf ByteArray.empty y132 x8_4) ++ (⟨#[47]⟩ : ByteArray))).bind fun t140 => (if t140 = true then (none) else ((incipitref08_Begins.f x6_20 ((rdOf ByteArray.empty y132 x8_4) ++ (⟨#[9]⟩ : ByteArray))).bind fun t142 => (if t142 = true then (none) else ((incipitref08_Begins.f x6_20 ((rdOf ByteArray.empty y132 x8_4) ++ (⟨#[10]⟩ : ByteArray))).bind fun t144 => (if t144 = true then (none) else (incipitlaw20_RenderSafe.l1 k4 t129 t131 x5_1 x6_20 y132 (wrap64 (x8_4 + 1))))))))) = some r := by rw [if_neg (show ¬ (false = true) by decide)] at H; exact H
                                          clear H
                                          have H := H1
                                          clear H1
                                          replace H := Option.bind_eq_some_iff.mp H
                                          obtain ⟨t140, A360, H⟩ := H
                                          replace H : (if t140 = true then (none) else ((incipitref08_Begins.f x6_20 ((rdOf ByteArray.empty y132 x8_4) ++ (⟨#[9]⟩ : ByteArray))).bind fun t142 => (if t142 = true then (none) else ((incipitref08_Begins.f x6_20 ((rdOf ByteArray.empty y132 x8_4) ++ (⟨#[10]⟩ : ByteArray))).bind fun t144 => (if t144 = true then (none) else (incipitlaw20_RenderSafe.l1 k4 t129 t131 x5_1 x6_20 y132 (wrap64 (x8_4 + 1)))))))) = some r := H
                                          have A36 := Aside0.mk A360
                                          clear A360
                                          by_cases c37 : t140 = true
                                          · subst c37
                                            have H1 : (none) = some r := by rw [if_pos rfl] at H; exact H
                                            cases H1
                                          · replace c37 := Bool.eq_false_iff.mpr c37
                                            subst c37
                                            have H1 : ((incipitref08_Begins.f x6_20 ((rdOf ByteArray.empty y132 x8_4) ++ (⟨#[9]⟩ : ByteArray))).bind fun t142 => (if t142 = true then (none) else ((incipitref08_Begins.f x6_20 ((rdOf ByteArray.empty y132 x8_4) ++ (⟨#[10]⟩ : ByteArray))).bind fun t144 => (if t144 = true then (none) else (incipitlaw20_RenderSafe.l1 k4 t129 t131 x5_1 x6_20 y132 (wrap64 (x8_4 + 1))))))) = some r := by rw [if_neg (show ¬ (false = true) by decide)] at H; exact H
                                            clear H
                                            have H := H1
                                            clear H1
                                            replace H := Option.bind_eq_some_iff.mp H
                                            obtain ⟨t142, A390, H⟩ := H
                                            replace H : (if t142 = true then (none) else ((incipitref08_Begins.f x6_20 ((rdOf ByteArray.empty y132 x8_4) ++ (⟨#[10]⟩ : ByteArray))).bind fun t144 => (if t144 = true then (none) else (incipitlaw20_RenderSafe.l1 k4 t129 t131 x5_1 x6_20 y132 (wrap64 (x8_4 + 1)))))) = some r := H
                                            have A39 := Aside0.mk A390
                                            clear A390
                                            by_cases c40 : t142 = true
                                            · subst c40
                                              have H1 : (none) = some r := by rw [if_pos rfl] at H; exact H
                                              cases H1
                                            · replace c40 := Bool.eq_false_iff.mpr c40
                                              subst c40
                                              have H1 : ((incipitref08_Begins.f x6_20 ((rdOf ByteArray.empty y132 x8_4) ++ (⟨#[10]⟩ : ByteArray))).bind fun t144 => (if t144 = true then (none) else (incipitlaw20_RenderSafe.l1 k4 t129 t131 x5_1 x6_20 y132 (wrap64 (x8_4 + 1))))) = some r := by rw [if_neg (show ¬ (false = true) by decide)] at H; exact H
                                              clear H
                                              have H := H1
                                              clear H1
                                              replace H := Option.bind_eq_some_iff.mp H
                                              obtain ⟨t144, A420, H⟩ := H
                                              replace H : (if t144 = true then (none) else (incipitlaw20_RenderSafe.l1 k4 t129 t131 x5_1 x6_20 y132 (wrap64 (x8_4 + 1)))) = some r := H
                                              have A42 := Aside0.mk A420
                                              clear A420
                                              by_cases c43 : t144 = true
                                              · subst c43
                                                have H1 : (none) = some r := by rw [if_pos rfl] at H; exact H
                                                cases H1
                                              · replace c43 := Bool.eq_false_iff.mpr c43
                                                subst c43
                                                have H1 : (incipitlaw20_RenderSafe.l1 k4 t129 t131 x5_1 x6_20 y132 (wrap64 (x8_4 + 1))) = some r := by rw [if_neg (show ¬ (false = true) by decide)] at H; exact H
                                                clear H
                                                have H := H1
                                                clear H1
                                                have H' := Aside0.mk H
                                                clear H
                                                obtain ⟨Ao45, co45, eo45⟩ := Kd.R_slice HO_7.out
                                                subst eo45
                                                have p135 : 0 ≤ (x8_4 : Int) := of_decide_eq_true (by first | (with_reducible assumption) | assumption)
                                                have q135 : x8_4 < (y132.length : Int) := of_decide_eq_true (by first | (with_reducible assumption) | assumption)
                                                obtain ⟨ad135, e135, hx135_0⟩ := Kd.at_string (Kd.R_reads' HO_7.out).2.2 x8_4 p135 q135
                                                cases e135
                                                replace p135 := eq_true p135
                                                replace q135 := eq_true q135
                                                go_wp2_with (first | ((with_reducible refine gate_callee (f := 11) rfl ?_); refine goesL_ (some 54) rfl rfl Tryz.func11 (by kernel_rfl) rfl #[.string (x6_20 ++ (⟨#[32]⟩ : ByteArray)), .string ((rdOf ByteArray.empty y132 x8_4) ++ (⟨#[32]⟩ : ByteArray))] rfl (by (try simp only [List.map_toArray, List.map_cons, List.map_nil]); first | done | rfl | (simp only [List.length_drop, List.length_take]; rfl)) ?_; (with_reducible refine (incipitref08_Begins.calls (x6_20 ++ (⟨#[32]⟩ : ByteArray)) ((rdOf ByteArray.empty y132 x8_4) ++ (⟨#[32]⟩ : ByteArray)) false _ A30.out).mono ?_); rintro e w' ⟨rfl, ⟨nd, rfl⟩⟩; refine ⟨_, rfl, ?_⟩; have p137 : 0 ≤ (x8_4 : Int) := of_decide_eq_true (by first | (with_reducible assumption) | assumption); have q137 : x8_4 < (y132.length : Int) := of_decide_eq_true (by first | (with_reducible assumption) | assumption); obtain ⟨ad137, e137, hx137_0⟩ := Kd.at_string (Kd.R_reads' HO_7.out).2.2 x8_4 p137 q137; obtain rfl : ad135 = ad137 := (by injection e137); replace p137 := eq_true p137; replace q137 := eq_true q137) | (go_at_call 11; (with_reducible refine (incipitref08_Begins.calls x6_20 ((rdOf ByteArray.empty y132 x8_4) ++ (⟨#[62]⟩ : ByteArray)) false _ A33.out).mono ?_); rintro e w' ⟨rfl, ⟨nd, rfl⟩⟩; have p139 : 0 ≤ (x8_4 : Int) := of_decide_eq_true (by first | (with_reducible assumption) | assumption); have q139 : x8_4 < (y132.length : Int) := of_decide_eq_true (by first | (with_reducible assumption) | assumption); obtain ⟨ad139, e139, hx139_0⟩ := Kd.at_string (Kd.R_reads' HO_7.out).2.2 x8_4 p139 q139; obtain rfl : ad135 = ad139 := (by injection e139); replace p139 := eq_true p139; replace q139 := eq_true q139) | (go_at_call 11; (with_reducible refine (incipitref08_Begins.calls x6_20 ((rdOf ByteArray.empty y132 x8_4) ++ (⟨#[47]⟩ : ByteArray)) false _ A36.out).mono ?_); rintro e w' ⟨rfl, ⟨nd, rfl⟩⟩; have p141 : 0 ≤ (x8_4 : Int) := of_decide_eq_true (by first | (with_reducible assumption) | assumption); have q141 : x8_4 < (y132.length : Int) := of_decide_eq_true (by first | (with_reducible assumption) | assumption); obtain ⟨ad141, e141, hx141_0⟩ := Kd.at_string (Kd.R_reads' HO_7.out).2.2 x8_4 p141 q141; obtain rfl : ad135 = ad141 := (by injection e141); replace p141 := eq_true p141; replace q141 := eq_true q141) | (go_at_call 11; (with_reducible refine (incipitref08_Begins.calls x6_20 ((rdOf ByteArray.empty y132 x8_4) ++ (⟨#[9]⟩ : ByteArray)) false _ A39.out).mono ?_); rintro e w' ⟨rfl, ⟨nd, rfl⟩⟩; have p143 : 0 ≤ (x8_4 : Int) := of_decide_eq_true (by first | (with_reducible assumption) | assumption); have q143 : x8_4 < (y132.length : Int) := of_decide_eq_true (by first | (with_reducible assumption) | assumption); obtain ⟨ad143, e143, hx143_0⟩ := Kd.at_string (Kd.R_reads' HO_7.out).2.2 x8_4 p143 q143; obtain rfl : ad135 = ad143 := (by injection e143); replace p143 := eq_true p143; replace q143 := eq_true q143) | (go_at_call 11; (with_reducible refine (incipitref08_Begins.calls x6_20 ((rdOf ByteArray.empty y132 x8_4) ++ (⟨#[10]⟩ : ByteArray)) false _ A42.out).mono ?_); rintro e w' ⟨rfl, ⟨nd, rfl⟩⟩))
                                                go_roundg k4
                                                case measure => have := HK1.out; have := HJ16.out; have := HJ20.out; have := HK4.out; omega
                                                case rel => exact ⟨(wrap64 (x8_4 + 1)), (by first | rfl | (simp; done) | (simp [*]; done)), H', ⟨by have := HK1.out; have := HJ16.out; have := HJ20.out; have := HK4.out; omega⟩, ⟨by (with_reducible repeat (first | apply Kd.R_alloc | apply Kd.R_drewN | apply Kd.R_drew)); exact HO_7.out⟩, ⟨by repeat (first | (with_reducible first | exact HB.out | apply below_alloc | apply pw_below_drewN | apply below_drew1) | exact HB.out)⟩⟩
                                    · rw [if_neg c29] at H
                                      exact absurd H (by simp)
                                  · rw [if_neg c28] at H
                                    exact absurd H (by simp)
                                · rw [if_neg c27] at H
                                  exact absurd H (by simp)
                              · rw [if_neg c26] at H
                                have c26b0 : decide (x8_4 < (y132.length : Int)) = false := decide_eq_false c26
                                clear c26
                                have H' := Aside0.mk H
                                clear H
                                obtain ⟨Ao46, co46, eo46⟩ := Kd.R_slice HO_7.out
                                subst eo46
                                go_wp2
                                go_roundg k4
                                case measure => have := HK1.out; have := HJ16.out; have := HJ20.out; have := HK4.out; omega
                                case rel => exact ⟨(wrap64 (x5_1 + 1)), (by first | rfl | (simp; done) | (simp [*]; done)), H', ⟨by have := HK1.out; have := HJ16.out; have := HJ20.out; have := HK4.out; omega⟩, ⟨by repeat (first | (with_reducible first | exact HB.out | apply below_alloc | apply pw_below_drewN | apply below_drew1) | exact HB.out)⟩⟩
                · rw [if_neg c16] at H
                  exact absurd H (by simp)
              · rw [if_neg c15] at H
                exact absurd H (by simp)
            · rw [if_neg c13] at H
              have c13b0 : ((bt t131 x5_1) == 60) = false := beq_eq_false_iff_ne.mpr c13
              have c13b1 : ((bt t131 x5_1) != 60) = true := bne_iff_ne.mpr c13
              have H' := Aside0.mk H
              clear H
              have p12 : 0 ≤ (x5_1 : Int) := of_decide_eq_true (by first | (with_reducible assumption) | assumption)
              have q12 : x5_1 < (t131.size : Int) := of_decide_eq_true (by first | (with_reducible assumption) | assumption)
              have hx12 := bt_at t131 x5_1
              replace p12 := eq_true p12
              replace q12 := eq_true q12
              go_wp2
              go_roundg k1
              case measure => have := HK1.out; omega
              case rel => exact ⟨(wrap64 (x5_1 + 1)), (by first | rfl | (simp; done) | (simp [*]; done)), H', ⟨by have := HK1.out; omega⟩, ⟨by repeat (first | (with_reducible first | exact HB.out | apply below_alloc | apply pw_below_drewN | apply below_drew1) | exact HB.out)⟩⟩
          · rw [if_neg c11] at H
            exact absurd H (by simp)
        · rw [if_neg c10] at H
          have c10b0 : decide (x5_1 < (t131.size : Int)) = false := decide_eq_false c10
          clear c10
          obtain rfl := Option.some.inj H
          go_wp2
          go_ret
          exact ⟨by first | rfl | exact retNe _ | (simp [errW_none, errW_some] <;> rfl) | (simp [*, errW_none, errW_some] <;> rfl), by repeat (first | (with_reducible first | exact HB.out | apply below_alloc | apply pw_below_drewN | apply below_drew1) | exact HB.out)⟩

end Go.Proofs.YtchdkiakdnanhaaGreatDoor.PA

namespace Go.Proofs.YtchdkiakdnanhaaGreatDoor.Pl
open Go.RowKit Go.Proofs.YtchdkiakdnanhaaGreatDoor.PA Go.Proofs.YtchdkiakdnanhaaGreatDoorW.PrintWords
set_option linter.unusedVariables false

theorem begins_f (a b : List UInt8) : incipitref08_Begins.f (B a) (B b) = some (decide (b.length ≤ a.length) && (a.take b.length == b)) := by
  unfold incipitref08_Begins.f
  rw [B_size, B_size]
  by_cases h : b.length ≤ a.length
  · rw [if_pos (by omega), if_pos (by omega), if_pos (by omega), Int.toNat_natCast, B_to, B_toList, B_toList, decide_eq_true h, Bool.true_and]
  · rw [if_neg (by omega), decide_eq_false h, Bool.false_and]
theorem pre_no {u n : List UInt8} (c : UInt8) (hc : isW c = true) (h : nmB n u = false) : (decide ((n ++ [c]).length ≤ (lwr u).length) && ((lwr u).take (n ++ [c]).length == n ++ [c])) = false := by
  cases he : (decide ((n ++ [c]).length ≤ (lwr u).length) && ((lwr u).take (n ++ [c]).length == n ++ [c]))
  · rfl
  exfalso
  simp only [Bool.and_eq_true, decide_eq_true_eq, beq_iff_eq] at he
  obtain ⟨h1, h2⟩ := he
  have hlu : (lwr u).length = u.length := by rw [lwr, List.length_map]
  rw [List.length_append, List.length_singleton] at h1 h2
  have hlt : n.length < u.length := by omega
  have e3 : (lwr u).take (n.length + 1) = lwr (u.take n.length) ++ [if 65 ≤ u[n.length].toNat ∧ u[n.length].toNat ≤ 90 then u[n.length] + 32 else u[n.length]] := by
    unfold lwr
    rw [← List.map_take, List.take_succ_eq_append_getElem hlt, List.map_append]
    rfl
  rw [e3] at h2
  have h5 : (lwr (u.take n.length)).length = n.length := by unfold lwr; rw [List.length_map, List.length_take]; omega
  obtain ⟨h6, h7⟩ := List.append_inj h2 h5
  have h8 : isW u[n.length] = true := by
    rw [← isW_lw1, List.singleton_inj.1 h7]
    exact hc
  have : nmB n u = true := by
    unfold nmB
    rw [decide_eq_true (by omega), h6, beq_self_eq_true, List.drop_eq_getElem_cons hlt, List.head?_cons, Option.any_some, h8]
    simp
  rw [this] at h
  cases h
theorem pre_no_end {u n : List UInt8} (h : nmB n u = false) : (decide ((n ++ [32]).length ≤ (lwr u ++ [32]).length) && ((lwr u ++ [32]).take (n ++ [32]).length == n ++ [32])) = false := by
  by_cases hl : n.length = u.length
  · cases he : (decide ((n ++ [32]).length ≤ (lwr u ++ [32]).length) && ((lwr u ++ [32]).take (n ++ [32]).length == n ++ [32]))
    · rfl
    exfalso
    simp only [Bool.and_eq_true, decide_eq_true_eq, beq_iff_eq] at he
    have hlu : (lwr u).length = u.length := by rw [lwr, List.length_map]
    have h2 := he.2
    rw [List.take_of_length_le (by simp; omega)] at h2
    have h3 := (List.append_inj h2 (by omega)).1
    have : nmB n u = true := by
      unfold nmB
      rw [decide_eq_true (by omega), hl, List.take_length, h3, beq_self_eq_true, decide_eq_true rfl]
      rfl
    rw [this] at h
    cases h
  · have h2 := pre_no 32 (by decide) h
    have hlu : (lwr u).length = u.length := by rw [lwr, List.length_map]
    by_cases h3 : n.length < u.length
    · rw [List.length_append, List.length_singleton] at h2 ⊢
      rw [decide_eq_true (by omega), Bool.true_and] at h2
      rw [List.take_append_of_le_length (by omega), h2, Bool.and_false]
    · rw [decide_eq_false (by simp; omega), Bool.false_and]
theorem safe_l1 (z u : List UInt8) (p : Int) (hu : u.length ≤ 1048576) (hno : ∀ n ∈ bads, nmB n u = false) : ∀ d i : Nat, i + d = bads.length → ∀ c, incipitlaw20_RenderSafe.l1 (c + d + 1) true (B z) p (B (lwr u)) (bads.map B) (i : Int) = incipitlaw20_RenderSafe.l0 c true (B z) (wrap64 (p + 1)) := by
  have hbl : bads.length = 9 := rfl
  have hlu : (lwr u).length = u.length := by rw [lwr, List.length_map]
  intro d
  induction d with
  | zero =>
    intro i hi c
    rw [incipitlaw20_RenderSafe.l1, List.length_map, if_neg (by omega)]
  | succ d ih =>
    intro i hi c
    have hil : i < bads.length := by omega
    have hnl := bads_len _ (List.getElem_mem hil)
    have hn := hno _ (List.getElem_mem hil)
    rw [show c + (d + 1) + 1 = (c + d + 1) + 1 by omega, incipitlaw20_RenderSafe.l1, List.length_map, if_pos (by omega), B_size, if_pos (by omega), if_pos (by omega), getD_B i hil, B_size, if_pos (by omega)]
    rw [show (⟨#[32]⟩ : ByteArray) = B [32] from rfl, show (⟨#[62]⟩ : ByteArray) = B [62] from rfl, show (⟨#[47]⟩ : ByteArray) = B [47] from rfl, show (⟨#[9]⟩ : ByteArray) = B [9] from rfl, show (⟨#[10]⟩ : ByteArray) = B [10] from rfl]
    simp only [B_append, begins_f]
    rw [pre_no_end hn, Option.bind_some, if_neg (by simp), pre_no 62 (by decide) hn, Option.bind_some, if_neg (by simp), pre_no 47 (by decide) hn, Option.bind_some, if_neg (by simp), pre_no 9 (by decide) hn, Option.bind_some, if_neg (by simp), pre_no 10 (by decide) hn, Option.bind_some, if_neg (by simp), w64 (by omega) (by omega), show (i : Int) + 1 = ((i + 1 : Nat) : Int) by omega]
    exact ih (i + 1) (by omega) c
theorem safe_j2 (z u : List UInt8) (p : Int) (hu : u.length ≤ 1048576) (hno : ∀ n ∈ bads, nmB n u = false) (c : Nat) : incipitlaw20_RenderSafe.j2 (c + 11) true (B z) p (B (lwr u)) = incipitlaw20_RenderSafe.l0 c true (B z) (wrap64 (p + 1)) := by
  rw [show c + 11 = (c + 9 + 1) + 1 by omega, incipitlaw20_RenderSafe.j2]
  exact safe_l1 z u p hu hno 9 0 rfl c
theorem lw47 (x : UInt8) : (if 65 ≤ x.toNat ∧ x.toNat ≤ 90 then x + 32 else x) = 47 ↔ x = 47 := by
  have h : ∀ y : Fin 256, (if 65 ≤ (UInt8.ofNat y.val).toNat ∧ (UInt8.ofNat y.val).toNat ≤ 90 then UInt8.ofNat y.val + 32 else UInt8.ofNat y.val) = 47 ↔ UInt8.ofNat y.val = 47 := by decide +kernel
  have := h ⟨x.toNat, x.toNat_lt⟩
  simpa using this
theorem lw60 (x : UInt8) : (if 65 ≤ x.toNat ∧ x.toNat ≤ 90 then x + 32 else x) = 60 ↔ x = 60 := by
  have h : ∀ y : Fin 256, (if 65 ≤ (UInt8.ofNat y.val).toNat ∧ (UInt8.ofNat y.val).toNat ≤ 90 then UInt8.ofNat y.val + 32 else UInt8.ofNat y.val) = 60 ↔ UInt8.ofNat y.val = 60 := by decide +kernel
  have := h ⟨x.toNat, x.toNat_lt⟩
  simpa using this
/-- One look behind a smaller-than sign. -/
theorem safe_at (z r : List UInt8) (p : Int) (hr : r.length ≤ 1048576) (hb : bad r = false) (c : Nat) :
    (if (B (lwr r)).toList = ([] : List UInt8) then (incipitlaw20_RenderSafe.j1 (c + 12) true (B z) p (B (lwr r)) false) else (if 0 < ((B (lwr r)).size : Int) then (incipitlaw20_RenderSafe.j1 (c + 12) true (B z) p (B (lwr r)) ((bt (B (lwr r)) 0) == 47)) else (none))) = incipitlaw20_RenderSafe.l0 c true (B z) (wrap64 (p + 1)) := by
  have hno : ∀ n ∈ bads, nmB n (stripS r) = false := by
    intro n hn
    rw [bad_iff] at hb
    have := List.any_eq_false.1 hb n hn
    simpa using this
  rw [B_toList, B_size]
  cases r with
  | nil =>
    rw [if_pos (show lwr [] = [] from rfl), incipitlaw20_RenderSafe.j1, if_neg (by simp)]
    exact safe_j2 z [] p (by simp) hno c
  | cons x t =>
    have e : lwr (x :: t) = (if 65 ≤ x.toNat ∧ x.toNat ≤ 90 then x + 32 else x) :: lwr t := rfl
    have e2 : bt (B (lwr (x :: t))) 0 = (((if 65 ≤ x.toNat ∧ x.toNat ≤ 90 then x + 32 else x) : UInt8).toNat : Int) := by
      rw [e, show (0 : Int) = ((0 : Nat) : Int) from rfl, B_bt _ 0 (by simp)]
      rfl
    rw [e2, if_neg (by rw [e]; simp), if_pos (by rw [e]; first | (simp; done) | (simp; omega)), incipitlaw20_RenderSafe.j1]
    by_cases hx : x = 47
    · subst hx
      rw [if_pos (by decide), B_size, if_pos (by rw [e]; first | (simp; done) | (simp; omega)), B_from _ _ _ rfl, e]
      simp only [List.drop_succ_cons, List.drop_zero]
      exact safe_j2 z t p (by simp at hr; omega) hno c
    · have h1 : ((((if 65 ≤ x.toNat ∧ x.toNat ≤ 90 then x + 32 else x) : UInt8).toNat : Int) == 47) = false := by
        rw [beq_eq_false_iff_ne]
        intro h
        exact hx ((lw47 x).1 ((u8_eq _ 47 (by decide)).1 h))
      rw [h1, if_neg (by simp)]
      have hs : stripS (x :: t) = x :: t := by unfold stripS; rw [List.head?_cons, if_neg (by simpa using hx)]
      rw [hs] at hno
      exact safe_j2 z (x :: t) p hr hno c
theorem safe_l0 (z : List UInt8) (hz : z.length ≤ 1048576) (hf : flt z = z) : ∀ d i : Nat, i + d = z.length → ∀ c, incipitlaw20_RenderSafe.l0 (c + 13 * d + 1) true (B (lwr z)) (i : Int) = some true := by
  have hlz : (lwr z).length = z.length := by rw [lwr, List.length_map]
  intro d
  induction d with
  | zero =>
    intro i hi c
    rw [show c + 13 * 0 + 1 = c + 1 by omega, incipitlaw20_RenderSafe.l0, B_size, if_neg (by omega)]
  | succ d ih =>
    intro i hi c
    have hil : i < z.length := by omega
    have hil2 : i < (lwr z).length := by omega
    have e0 : (lwr z)[i] = (if 65 ≤ z[i].toNat ∧ z[i].toNat ≤ 90 then z[i] + 32 else z[i]) := List.getElem_map _
    rw [show c + 13 * (d + 1) + 1 = ((c + 13 * d + 1) + 12) + 1 by omega, incipitlaw20_RenderSafe.l0, B_size, if_pos (by omega), if_pos (by omega), B_bt _ i hil2, e0]
    have hnx : ∀ m, incipitlaw20_RenderSafe.l0 (c + 13 * d + 1 + m) true (B (lwr z)) (wrap64 ((i : Int) + 1)) = some true := by
      intro m
      rw [w64 (by omega) (by omega), show (i : Int) + 1 = ((i + 1 : Nat) : Int) by omega, show c + 13 * d + 1 + m = (c + m) + 13 * d + 1 by omega]
      exact ih (i + 1) (by omega) (c + m)
    by_cases hx : z[i] = 60
    · rw [if_pos (by rw [hx]; rfl)]
      have hw : wrap64 ((i : Int) + 1) = ((i + 1 : Nat) : Int) := by rw [w64 (by omega) (by omega)]; omega
      have hd : (B (lwr z)).extract ((wrap64 ((i : Int) + 1)) : Int).toNat (lwr z).length = B (lwr (z.drop (i + 1))) := by
        rw [hw, Int.toNat_natCast, B_from _ _ _ rfl]
        unfold lwr
        rw [List.map_drop]
      rw [hd, if_pos (by rw [hw]; omega), if_pos (by rw [hw]; omega)]
      have hb : bad (z.drop (i + 1)) = false := by
        refine flt_fix (z.take i) _ ?_
        have : z.take i ++ 60 :: z.drop (i + 1) = z := by
          rw [← hx, ← List.drop_eq_getElem_cons hil, List.take_append_drop]
        rw [this]
        exact hf
      rw [safe_at (lwr z) (z.drop (i + 1)) (i : Int) (by rw [List.length_drop]; omega) hb (c + 13 * d + 1)]
      exact hnx 0
    · have h0 : ¬ ((((if 65 ≤ z[i].toNat ∧ z[i].toNat ≤ 90 then z[i] + 32 else z[i]) : UInt8).toNat : Int) = 60) := fun h => hx ((lw60 _).1 ((u8_eq _ 60 (by decide)).1 h))
      rw [if_neg h0]
      exact hnx 12
end Go.Proofs.YtchdkiakdnanhaaGreatDoor.Pl

namespace Go.Proofs.YtchdkiakdnanhaaGreatDoor.Pure
open Go.RowKit Go.Proofs.YtchdkiakdnanhaaGreatDoorW.PrintWords Go.Proofs.YtchdkiakdnanhaaGreatDoorW.PrintMore Go.Proofs.YtchdkiakdnanhaaGreatDoor.Pl

theorem RenderSafe : ∀ (a0 : ByteArray), a0.size ≤ 140737488351232 → ∃ k, PA.incipitlaw20_RenderSafe.f k a0 = some true := by
  intro a0 _
  obtain ⟨l, rfl⟩ : ∃ l, B l = a0 := ⟨_, B_eta a0⟩
  refine ⟨0 + 13 * (flt l).length + 1, ?_⟩
  unfold PA.incipitlaw20_RenderSafe.f PA.incipitlaw20_awake.f
  rw [Option.bind_some, B_size]
  by_cases h : (l.length : Int) > 1000
  · rw [if_pos h]
  · have h4 := flt_len l
    have e1 : PA.render_Filter.f (B l) = some (B (flt l)) := by
      unfold PA.render_Filter.f
      rw [B_size, if_pos (by omega), B_data]
    have e2 : PA.incipitref08_Lower.f (B (flt l)) = some (B (lwr (flt l))) := by
      unfold PA.incipitref08_Lower.f
      rw [B_size, if_pos (by omega), B_data]
    rw [if_neg h, e1, Option.bind_some, e2, Option.bind_some]
    exact safe_l0 (flt l) (by omega) (flt_idem l) (flt l).length 0 (by omega) 0
end Go.Proofs.YtchdkiakdnanhaaGreatDoor.Pure

namespace Go.Proofs.YtchdkiakdnanhaaGreatDoor.renderSafe
open Go.ChangeShapes Go.WideShapes Go.ChangeAt Go.RowKit Go.Proofs.YtchdkiakdnanhaaGreatDoorW.PrintWords Go.Proofs.YtchdkiakdnanhaaGreatDoor.RowU8
open Go.ChangeMaps (open_string shut_string)
set_option linter.unusedVariables false
set_option maxRecDepth 100000 in
theorem contract (H : Type) (enc : TypeId × Value → H) (W : World) (base : Nat) (args : Array Value) (ds gs : List (DataW H)) (before : List MemPlace)
    (hval0 : ∀ (j : Nat) t v, Tryz.f4.params[j]? = some t → args[j]? = some v → Value.okWide Tryz.prog W .any base t v)
    (hW : DataW.Whole enc Tryz.prog Tryz.f4.params.toList Rows.renderSafeSpec.vars false W args.toList ds gs before) (hsz0 : (DataW.weightsEach Tryz.prog (Tryz.f4.params.toList ++ (OpenSpec.ofChange Rows.renderSafeSpec).bare.plain.varTypes Tryz.prog) (ds ++ gs)).all (· ≤ reachBytes) = true) (hSh : W.ShapedOpen Tryz.prog) (hL : laidMetH Tryz.prog Rows.renderSafeRow.laid W) :
    Calls Tryz.prog 4 args W fun e W' => ∃ v, e = .returned v ∧ Rows.renderSafeSpec.post enc Tryz.prog Tryz.f4 false true false false W args v W' := by
  have hsz : (DataW.weightsEach Tryz.prog (Tryz.f4.params.toList ++ Rows.renderSafeSpec.plain.varTypes Tryz.prog) (ds ++ gs)).all (· ≤ reachBytes) = true := hsz0
  have hval : ∀ (j : Nat) t v, Tryz.f4.params[j]? = some t → args[j]? = some v → Value.okWide Tryz.prog W .any base t v := hval0
  have hW' := hW
  obtain ⟨p, q, hA0, hV, rfl, hfz, hnd⟩ := hW
  have hA : DataW.TrodAll enc Tryz.prog W 0 (fun _ => true) true Tryz.f4.params.toList args.toList ds p := hA0
  rw [Tryz.params4] at hA hval hsz
  obtain ⟨v0, vs0, d0, ds0, p0, q0, hargs, rfl, rfl, h0, r0⟩ := trodAll_cons hA
  obtain ⟨rfl, rfl, rfl⟩ := trodAll_nil r0
  obtain rfl : args = #[v0] := by cases args; simp_all
  obtain ⟨rfl, rfl⟩ := trodVars_none hV
  obtain ⟨a0, rfl, rfl, rfl, y0⟩ := open_string Tryz.underlying9 (hval 0 9 v0 rfl rfl) h0
  have w0 : a0.size ≤ 140737488351232 := by
    have z := sized_string hsz (j := 0) (t := 9) rfl rfl
    rw [Array.length_toList] at z
    exact z
  clear hA0 hval0 hsz0 hsz
  obtain ⟨k, hp⟩ := Pure.RenderSafe a0 w0
  refine (PA.incipitlaw20_RenderSafe.calls k a0 true W (laidOf hSh hL (by kernel_rfl) (by simp [Rows.renderSafeRow]) (by simp [Rows.renderSafeRow])) hp).mono ?_
  rintro e W' ⟨rfl, bel⟩
  exact ⟨_, rfl, _, _, _, [], _, [], hW', trodAll_mk1 (shut_bool Tryz.underlying4 _), (trodAll_cons_mk (shut_string Tryz.underlying9 y0) trodAll_mk0), rfl, bel.frame _, fun h => by cases h⟩
theorem laid_met (os : Os) : laidMet Tryz.prog Rows.renderSafeRow.laid ((laidWorld os).forCall (fun _ _ => 0) ⟨#[], #[.string ByteArray.empty], []⟩).memory :=
  laidMet_of_run' 8 (by kernel_rfl) (by kernel_rfl)
theorem reads (os : Os) {H : Type} (enc : TypeId × Value → H) : ∃ places, DataW.whole enc Tryz.prog ((laidWorld os).forCall (fun _ _ => 0) ⟨#[], #[.string ByteArray.empty], []⟩).memory Tryz.f4.params.toList Rows.renderSafeSpec.vars false (#[.string ByteArray.empty] : Array Value).toList 8 = some ([.lit (.string [])], [], places) :=
  ⟨[], by kernel_rfl⟩
set_option maxRecDepth 100000 in
theorem lifted (os : Os) (started : os.Started) (H : Type) (enc : TypeId × Value → H) (F : Stop.Interp) :
    ReturnsInHanded {} Tryz.checked os 4 .any ((OpenSpec.ofChange Rows.renderSafeSpec).preRow enc Tryz.prog Tryz.f4 Rows.renderSafeRow.domain false Rows.renderSafeRow.laid) (((OpenSpec.ofChange Rows.renderSafeSpec).at F).post enc Tryz.prog Tryz.f4 false true false false) := by
  obtain ⟨places, hx⟩ := reads os enc
  refine returnsInHanded_of_row (C := Tryz.checked) (s := OpenSpec.ofChange Rows.renderSafeSpec) own started (by kernel_rfl) Tryz.func4
    (witness_row_atRef (enc := enc) (C := Tryz.checked) false (laidWorld os) #[.string ByteArray.empty] (laidWorld_os os) (by kernel_rfl) (by kernel_rfl) (by kernel_rfl)
      (OpenSpec.preRow_of_cond 8 hx (by kernel_rfl) (fun k hk => by cases hk) (by kernel_rfl) (laid_met os))) ?_
  intro W base args ds gs before hval hW _ _ hsz hL hSh _
  exact contract H enc W base args ds gs before hval hW hsz hSh hL
theorem said : Rows.RenderSafeSaid :=
  OpenClaim.holds_of_cond 4 Tryz.f4 rfl rfl rfl rfl rfl rfl rfl ⟨rfl, rfl, rfl, rfl, rfl⟩ rfl rfl rfl rfl rfl (by kernel_rfl) Tryz.func4 (by kernel_rfl)
    (of_decide_eq_true (by kernel_rfl)) (by unfold Func.isWrapper; first | (rw [if_pos (by decide +kernel)]; kernel_rfl) | (rw [if_neg (by decide +kernel)]; exact ⟨rfl, rfl⟩))
    (fun os started H enc _ F => by rw [OpenClaim.pre_eq_preRow]; exact lifted os started H enc F)
theorem plain (f : FuncId) (fn : Func) (hf : Tryz.pinned.checked.prog.funcNamed "incipit/incipitlaw20.RenderSafe" = some f) (hfn : Tryz.pinned.checked.prog.funcs[f]? = some fn) :
    true = Tryz.pinned.checked.prog.looks [] ∧ ∀ (j : Nat) t, fn.params[j]? = some t → Tryz.pinned.checked.prog.wantsStandIn t = false := by
  obtain rfl : f = 4 := Option.some.inj ((show Tryz.prog.funcNamed "incipit/incipitlaw20.RenderSafe" = some 4 by kernel_rfl).symm.trans hf) |>.symm
  obtain rfl : fn = Tryz.f4 := (Option.some.inj (Tryz.func4.symm.trans hfn)).symm
  refine ⟨by kernel_rfl, fun j t ht => ?_⟩
  rw [Tryz.params4] at ht
  have hall : ∀ t ∈ (#[9] : Array Nat), Tryz.prog.wantsStandIn t = false := by
    intro t ht
    simp at ht
    subst ht
    exact (show Tryz.prog.wantsStandIn 9 = false by kernel_rfl)
  exact hall t (Array.mem_of_getElem? ht)
theorem card : Rows.RenderSafeCardSaid :=
  Claim7.holds_tied_plain_at .later [] _ _ _ _ said (fun _ h => by cases h) (by kernel_rfl) (fun _ h => by cases h) renderSafe_row_tie rfl ⟨rfl, rfl⟩ (by kernel_rfl) rfl plain (by kernel_rfl)
end Go.Proofs.YtchdkiakdnanhaaGreatDoor.renderSafe
namespace Go.Proofs.YtchdkiakdnanhaaGreatDoor
/-- The statement, under a short name, for the claim. -/
theorem renderSafe_holds : Rows.RenderSafeCardSaid := renderSafe.card
end Go.Proofs.YtchdkiakdnanhaaGreatDoor
