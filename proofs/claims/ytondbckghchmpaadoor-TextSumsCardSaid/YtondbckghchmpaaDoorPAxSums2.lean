/-
  The law TextSums, walked: for bytes it answers true; the tables of unicode/utf8 as their initialisers lay them ('Laid').
-/
import Derived.Test.YtondbckghchmpaaDoorPRunes
import Derived.Test.YtondbckghchmpaaDoorPAx1
import Derived.WalkKit
import Derived.BigCall
import Derived.Deep.RegionWith
namespace Go.Proofs.YtondbckghchmpaaDoor.PA
open Go.RowKit Go.Proofs.YtondbckghchmpaaDoorW.PrintWords Go.Proofs.YtondbckghchmpaaDoorW.PrintLast Go.Proofs.YtondbckghchmpaaDoorW.PrintMore Go.Proofs.YtondbckghchmpaaDoor.Pl
set_option linter.unusedVariables false

/-- '[]rune' as a string. -/
theorem runes_strS (ns : List Int) (A : Option Addr) (c : Nat) (w : World) (h : Kd.C (Kd.int .i32) w A ns.length ns) :
    (convert 33 9 (.slice A ns.length c)).run Tryd.prog w = .ok (.string (runesBytes ns)) w := by
  rw [run_convert_runes_string w 33 9 21 A _ c Tryd.underlying33 Tryd.underlying21 Tryd.underlying9]
  cases A with
  | none =>
    have hn : ns.length = 0 := by
      rcases Nat.eq_zero_or_pos ns.length with h0 | h0
      · exact h0
      · obtain ⟨ad, e, _⟩ := h.2.2 h0; cases e
    have : ns = [] := List.length_eq_zero_iff.1 hn
    subst this
    simp [Conv.runesToString, runesBytes, Sem.run_pure]
  | some a =>
    refine run_runesToString w a _ c ns ?_
    have hx : ∀ j, j < ns.length → w.cell? (a.add j) = some (.int .i32 (ns.getD j 0)) := fun j hj => by
      obtain ⟨ad, e, hc⟩ := Kd.at_int h (j : Int) (by omega) (by omega)
      cases e
      rw [Int.toNat_natCast] at hc
      exact hc
    rw [run_loadCells (P := Tryd.prog) w a ns.length (fun j => Value.int .i32 (ns.getD j 0)) hx]
    congr 2
    apply List.ext_getElem
    · simp
    · intro i h1 h2
      simp at h1
      simp [List.getD_eq_getElem?_getD, List.getElem?_eq_getElem h1]
/-- What the law needs of two cleaned texts. -/
structure Two (X Y : ByteArray) (n1 n2 n3 : List Int) : Prop where
  f1 : text_Runes.f (X ++ Y) = some n1
  f2 : text_Runes.f X = some n2
  f3 : text_Runes.f Y = some n3
  r1 : runesBytes n1 = X ++ Y
  r2 : runesBytes n2 = X
  r3 : runesBytes n3 = Y
  cl : text_Clean.f (bytesOf (X ++ Y)) = some (X ++ Y)
  z : (X ++ Y).size ≤ 1048576
theorem two_of (a b : List UInt8) (ha : a.length ≤ 1000) (hb : b.length ≤ 1000) : Two (B (clean a)) (B (clean b)) (chars (clean a ++ clean b)) (chars (clean a)) (chars (clean b)) := by
  have h1 := clean_le a
  have h2 := clean_le b
  have e : B (clean a) ++ B (clean b) = B (clean (clean a ++ clean b)) := by rw [B_append, clean_two]
  have hz : (clean a ++ clean b).length ≤ 6000 := by rw [List.length_append]; omega
  have hr : ∀ l : List UInt8, (clean l).length ≤ 6000 → text_Runes.f (B (clean l)) = some (chars (clean l)) := by
    intro l hl
    unfold text_Runes.f
    rw [if_pos (by rw [B_size]; omega), B_data, clean_clean, rns_chars]
  refine ⟨?_, hr a (by omega), hr b (by omega), ?_, text_back a, text_back b, ?_, by rw [B_append, B_size]; omega⟩
  · rw [e, hr _ (by rw [clean_two]; exact hz), clean_two]
  · rw [e, ← text_back, clean_two]
  · have hb : bytesOf (B (clean a) ++ B (clean b)) = bytesOf (B (clean a ++ clean b)) := by rw [B_append]
    rw [hb]
    unfold text_Clean.f
    have k1 : okB (bytesOf (B (clean a ++ clean b))) = true := by
      unfold okB bytesOf
      rw [List.all_map, List.all_eq_true]
      intro y _
      have := y.toNat_lt
      simp
      omega
    have k2 : u8s (bytesOf (B (clean a ++ clean b))) = clean a ++ clean b := by
      unfold u8s bytesOf
      rw [List.map_map, B_data]
      conv => rhs; rw [← List.map_id (clean a ++ clean b)]
      refine List.map_congr_left (fun y _ => ?_)
      simp
    rw [if_pos ⟨k1, by rw [bytesOf_length, B_size]; omega⟩, k2, clean_two, B_append]
    rfl
def incipitlaw01_TextSums.f (l0 l1 : List Int) : Option Bool := if okB l0 = true ∧ okB l1 = true then some true else none
set_option maxHeartbeats 200000000 in
set_option maxRecDepth 100000 in
theorem incipitlaw01_TextSums.calls (A0 : Option Addr) (c0 : Nat) (l0 : List Int) (A1 : Option Addr) (c1 : Nat) (l1 : List Int) (r : Bool) (w : World) (hLd : Laid w) (hr0 : Kd.C (Kd.int .u8) w A0 l0.length l0) (hc0 : l0.length ≤ c0) (hr1 : Kd.C (Kd.int .u8) w A1 l1.length l1) (hc1 : l1.length ≤ c1) (h : incipitlaw01_TextSums.f l0 l1 = some r) :
    Calls Tryd.prog 9 #[.slice A0 l0.length c0, .slice A1 l1.length c1] w fun e w' => e = .returned (.bool r) ∧ Below w.heap.size w w' := by
  have hok : okB l0 = true ∧ okB l1 = true := by
    unfold incipitlaw01_TextSums.f at h
    split at h
    · assumption
    · cases h
  have hr : r = true := by
    unfold incipitlaw01_TextSums.f at h
    rw [if_pos hok] at h
    exact (Option.some.inj h).symm
  subst hr
  clear h
  obtain ⟨k, hk⟩ := Ev.rounds awake_ev
  have HR0 := Aside0.mk hr0
  have HR1 := Aside0.mk hr1
  have HL := Aside0.mk hLd
  have hl9 : l0.length ≤ 9223372036854775807 := hr0.2.1
  have hl8 : l1.length ≤ 9223372036854775807 := hr1.2.1
  clear hr0 hr1
  go_enter Tryd.func9, Tryd.ntmps9
  go_wp2_with fail
  refine (incipitlaw01_awake.calls k true _ HL.out hk).mono ?_
  rintro e w1 ⟨rfl, hb1⟩
  have HB1 := Aside0.mk hb1
  clear hb1 hLd
  by_cases hlen : 1000 < l0.length
  · have q : decide ((1000 : Int) < (l0.length : Int)) = true := decide_eq_true (by omega)
    go_wp2
    go_ret
    exact ⟨rfl, HB1.out⟩
  · have q : decide ((1000 : Int) < (l0.length : Int)) = false := decide_eq_false (by omega)
    by_cases hlen2 : 1000 < l1.length
    · have q : decide ((1000 : Int) < (l1.length : Int)) = true := decide_eq_true (by omega)
      go_wp2
      go_ret
      exact ⟨rfl, HB1.out⟩
    · have q2 : decide ((1000 : Int) < (l1.length : Int)) = false := decide_eq_false (by omega)
      have hfa : text_Clean.f l0 = some (B (clean (u8s l0))) := by
        unfold text_Clean.f
        rw [if_pos ⟨hok.1, by omega⟩]
        rfl
      have hfb : text_Clean.f l1 = some (B (clean (u8s l1))) := by
        unfold text_Clean.f
        rw [if_pos ⟨hok.2, by omega⟩]
        rfl
      have hT := two_of (u8s l0) (u8s l1) (by rw [u8s_length]; omega) (by rw [u8s_length]; omega)
      generalize B (clean (u8s l0)) = X at hfa hT
      generalize B (clean (u8s l1)) = Y at hfb hT
      generalize chars (clean (u8s l0) ++ clean (u8s l1)) = n1 at hT
      generalize chars (clean (u8s l0)) = n2 at hT
      generalize chars (clean (u8s l1)) = n3 at hT
      have HT := Aside0.mk hT
      have FA := Aside0.mk hfa
      have FB := Aside0.mk hfb
      clear hT hfa hfb hok
      go_wp2_with fail
      refine (text_Clean.calls A0 c0 l0 X w1 (HL.out.go HB1.out) (Kd.C_below HR0.out HB1.out) hc0 FA.out).mono ?_
      rintro e w2 ⟨rfl, hb2⟩
      have HB2 := Aside0.mk (HB1.out.trans (hb2.mono HB1.out.size))
      clear hb2
      go_wp2_with fail
      refine (text_Clean.calls A1 c1 l1 Y w2 (HL.out.go HB2.out) (Kd.C_below HR1.out HB2.out) hc1 FB.out).mono ?_
      rintro e w3 ⟨rfl, hb3⟩
      have HB3 := Aside0.mk (HB2.out.trans (hb3.mono HB2.out.size))
      clear hb3 HB1 HB2 HR0 HR1
      go_wp2_with fail
      have bz : X.size + Y.size ≤ 1048576 := by have := HT.out.z; rw [ByteArray.size_append] at this; exact this
      have HB := Aside0.mk HB3.out.drew
      clear HB3 q q2
      have hcall : ∀ W, Below w.heap.size w W → Calls Tryd.prog 18 #[.slice (some ⟨W.heap.size, 0, none⟩) (X ++ Y).size (grownCap W (X ++ Y).size 0 5)] (Lib.bytesWorld W 5 (X ++ Y)) fun e w' => e = .returned (.string (X ++ Y)) ∧ Below w.heap.size w w' := by
        intro W hW
        have hbw := bytes_below hW hW.size 5 (X ++ Y)
        have hrd := bytes_reads W 5 (X ++ Y) (by have := HT.out.z; omega)
        have hcap := grownCap_ge W (X ++ Y).size 0 5
        have h1 := text_Clean.calls (some ⟨W.heap.size, 0, none⟩) (grownCap W (X ++ Y).size 0 5) (bytesOf (X ++ Y)) (X ++ Y) _ (HL.out.go hbw) (by rw [bytesOf_length]; exact Kd.C_of_reads (d := (0 : Int)) (h1 := fun _ => rfl) hrd) (by rw [bytesOf_length]; exact hcap) HT.out.cl
        rw [bytesOf_length] at h1
        exact h1.mono (fun e w' h => ⟨h.1, hbw.trans (h.2.mono hbw.size)⟩)
      have kb := fun W => print_bytes (P := Tryd.prog) 9 29 5 Tryd.underlying9 Tryd.underlying29 Tryd.underlying5 (X ++ Y) W
      obtain ⟨BW, hBW⟩ : ∃ BW : World → World, ∀ W, Lib.bytesWorld W 5 (X ++ Y) = BW W := ⟨fun W => Lib.bytesWorld W 5 (X ++ Y), fun _ => rfl⟩
      simp only [hBW] at kb hcall
      obtain ⟨BV, hBV⟩ : ∃ BV : World → Value, ∀ W : World, Value.slice (some ⟨W.heap.size, 0, none⟩) (X ++ Y).size (grownCap W (X ++ Y).size 0 5) = BV W := ⟨fun W => _, fun _ => rfl⟩
      simp only [hBV] at kb hcall
      have HCL := Aside0.mk hcall
      clear hcall hBW hBV
      refine wp_region_any (by kernel_rfl) ?_
      (try (change wpAny _ _ _ _ _ _ _ (World.drew _)))
      refine wpAny_take (i := 0) (v := ?_) rfl (by kernel_rfl) (by kernel_rfl) (by kernel_rfl) (fun _ _ _ h => h) (Or.inl ⟨by rfl, ?_⟩) ?_
      rotate_left
      · (intro w_; go_simp; try (first | with_reducible rfl | (rw [if_neg (by omega)])))
      refine wpAny_take (i := 1) (v := ?_) rfl (by kernel_rfl) (by kernel_rfl) (by kernel_rfl) (fun _ _ _ h => h) (Or.inl ⟨by rfl, ?_⟩) ?_
      rotate_left
      · (intro w_; go_simp; try (first | with_reducible rfl | (rw [if_neg (by omega)])))
      refine wpAny_take (i := 2) (v := ?_) rfl (by kernel_rfl) (by kernel_rfl) (by kernel_rfl) (fun _ _ _ h => h) (Or.inl ⟨by rfl, ?_⟩) ?_
      rotate_left
      · (intro w_; go_simp; try (first | with_reducible rfl | (rw [if_neg (by omega)])))
      refine wpAny_take (i := 3) (v := ?_) rfl (by kernel_rfl) (by kernel_rfl) (by kernel_rfl) (fun _ _ _ h => h) (Or.inl ⟨by rfl, ?_⟩) ?_
      rotate_left
      · (intro w_; go_simp; try (first | with_reducible rfl | (rw [if_neg (by omega)])))
      refine wpAny_take (i := 4) (v := ?_) rfl (by kernel_rfl) (by kernel_rfl) (by kernel_rfl) (fun _ _ _ h => h) (Or.inl ⟨by rfl, ?_⟩) ?_
      rotate_left
      · (intro w_; go_simp; try (first | with_reducible rfl | (rw [if_neg (by omega)])))
      go_simp
      refine wpAny_take (i := 7) (v := ?_) rfl (by kernel_rfl) (by kernel_rfl) (by kernel_rfl) (fun _ _ _ h => h) (Or.inl ⟨by rfl, ?_⟩) ?_
      rotate_left
      · (intro w_; go_simp; try (first | with_reducible rfl | (rw [if_neg (by omega)])))
      refine wpAny_take (i := 10) (v := ?_) rfl (by kernel_rfl) (by kernel_rfl) (by kernel_rfl) (fun _ _ _ h => h) (Or.inl ⟨by rfl, ?_⟩) ?_
      rotate_left
      · (intro w_; go_simp; try (first | with_reducible rfl | (rw [if_neg (by omega)])))
      go_simp
      refine wpAny_ready (rs := [5]) (by kernel_rfl) (by simp) ?_
      refine AllReady.cons rfl (fun K hK => ?_) ?_
      · -- operation 5
        go_simp
        go_wp2_with (refine (text_Runes.calls (X ++ Y) n1 _ ?_ HT.out.f1).mono ?_; exact HL.out.go HB.out; rintro e w4 ⟨v1_, rfl, hR_, hb_⟩; obtain ⟨A, c, rfl, hcn_, hC_⟩ := Kd.R_reads hR_; have K1 := Aside0.mk (show ∀ W, Below w4.heap.size w4 W → (convert 33 9 (.slice A n1.length c)).run Tryd.prog W = .ok (.string (X ++ Y)) W from (fun W hW => by have h := runes_strS n1 A c W (Kd.C_below hC_ hW); rw [HT.out.r1] at h; exact h)); have HB4 := Aside0.mk (HB.out.trans (hb_.mono HB.out.size)); clear HB; have HB := HB4; clear HB4 hR_ hC_ hb_)
        (first | (refine hK _ _ ?_; clear hK K) | skip)
        refine wpAny_ready (rs := [6, 8]) (by kernel_rfl) (by simp) ?_
        refine AllReady.cons rfl (fun K hK => ?_) ?_
        · -- operation 6
          have kk := K1.out w4 (by first | exact Below.refl _ _ | exact HB5.out | exact HB6.out | exact HB5.out.trans (HB6.out.mono HB5.out.size))
          go_simp
          (first | (refine hK _ _ ?_; clear hK K kk) | clear kk)
          refine wpAny_ready (rs := [8]) (by kernel_rfl) (by simp) ?_
          refine AllReady.cons rfl (fun K hK => ?_) ?_
          · -- operation 8
            go_simp
            go_wp2_with (refine (text_Runes.calls X n2 _ ?_ HT.out.f2).mono ?_; exact HL.out.go HB.out; rintro e w5 ⟨v2_, rfl, hR_, hb_⟩; obtain ⟨A2, c2, rfl, hcn_, hC_⟩ := Kd.R_reads hR_; have K2 := Aside0.mk (show ∀ W, Below w5.heap.size w5 W → (convert 33 9 (.slice A2 n2.length c2)).run Tryd.prog W = .ok (.string X) W from (fun W hW => by have h := runes_strS n2 A2 c2 W (Kd.C_below hC_ hW); rw [HT.out.r2] at h; exact h)); have HB4 := Aside0.mk (HB.out.trans (hb_.mono HB.out.size)); have HB5 := Aside0.mk hb_; clear HB; have HB := HB4; clear HB4 hR_ hC_ hb_)
            (first | (refine hK _ _ ?_; clear hK K) | skip)
            refine wpAny_ready (rs := [9, 11]) (by kernel_rfl) (by simp) ?_
            refine AllReady.cons rfl (fun K hK => ?_) ?_
            · -- operation 9
              have kk := K2.out w5 (by first | exact Below.refl _ _ | exact HB5.out | exact HB6.out | exact HB5.out.trans (HB6.out.mono HB5.out.size))
              go_simp
              (first | (refine hK _ _ ?_; clear hK K kk) | clear kk)
              refine wpAny_ready (rs := [11]) (by kernel_rfl) (by simp) ?_
              refine AllReady.cons rfl (fun K hK => ?_) ?_
              · -- operation 11
                go_simp
                go_wp2_with (refine (text_Runes.calls Y n3 _ ?_ HT.out.f3).mono ?_; exact HL.out.go HB.out; rintro e w6 ⟨v3_, rfl, hR_, hb_⟩; obtain ⟨A3, c3, rfl, hcn_, hC_⟩ := Kd.R_reads hR_; have K3 := Aside0.mk (show ∀ W, Below w6.heap.size w6 W → (convert 33 9 (.slice A3 n3.length c3)).run Tryd.prog W = .ok (.string Y) W from (fun W hW => by have h := runes_strS n3 A3 c3 W (Kd.C_below hC_ hW); rw [HT.out.r3] at h; exact h)); have HB4 := Aside0.mk (HB.out.trans (hb_.mono HB.out.size)); have HB6 := Aside0.mk hb_; clear HB; have HB := HB4; clear HB4 hR_ hC_ hb_)
                (first | (refine hK _ _ ?_; clear hK K) | skip)
                refine wpAny_ready (rs := [12]) (by kernel_rfl) (by simp) ?_
                refine AllReady.cons rfl (fun K hK => ?_) ?_
                · -- operation 12
                  have kk := K3.out w6 (by first | exact Below.refl _ _ | exact HB5.out | exact HB6.out | exact HB5.out.trans (HB6.out.mono HB5.out.size))
                  go_simp
                  (first | (refine hK _ _ ?_; clear hK K kk) | clear kk)
                  refine wpAny_take (i := 13) (v := ?_) rfl (by kernel_rfl) (by kernel_rfl) (by kernel_rfl) (fun _ _ _ h => h) (Or.inl ⟨by rfl, ?_⟩) ?_
                  rotate_left
                  · (intro w_; go_simp; try (first | with_reducible rfl | (rw [if_neg (by omega)])))
                  refine wpAny_take (i := 14) (v := ?_) rfl (by kernel_rfl) (by kernel_rfl) (by kernel_rfl) (fun _ _ _ h => h) (Or.inl ⟨by rfl, ?_⟩) ?_
                  rotate_left
                  · (intro w_; go_simp; try (first | with_reducible rfl | (rw [if_neg (by omega)])))
                  go_simp
                  refine wpAny_take (i := 15) (v := ?_) rfl (by kernel_rfl) (by kernel_rfl) (by kernel_rfl) (fun _ _ _ h => h) (Or.inl ⟨by rfl, ?_⟩) ?_
                  rotate_left
                  · (intro w_; go_simp; try (first | with_reducible rfl | (rw [if_neg (by omega)])))
                  refine wpAny_take (i := 16) (v := ?_) rfl (by kernel_rfl) (by kernel_rfl) (by kernel_rfl) (fun _ _ _ h => h) (Or.inl ⟨by rfl, ?_⟩) ?_
                  rotate_left
                  · (intro w_; go_simp; try (first | with_reducible rfl | (rw [if_neg (by omega)])))
                  go_simp
                  refine wpAny_take (i := 17) (v := ?_) rfl (by kernel_rfl) (by kernel_rfl) (by kernel_rfl) (fun _ _ _ h => h) (Or.inl ⟨by rfl, ?_⟩) ?_
                  rotate_left
                  · (intro w_; go_simp; try (first | with_reducible rfl | (rw [if_neg (by omega)])))
                  refine wpAny_take (i := 18) (v := ?_) rfl (by kernel_rfl) (by kernel_rfl) (by kernel_rfl) (fun _ _ _ h => h) (Or.inl ⟨by rfl, ?_⟩) ?_
                  rotate_left
                  · (intro w_; go_simp; try (first | with_reducible rfl | (rw [if_neg (by omega)])))
                  refine wpAny_take (i := 19) (v := ?_) rfl (by kernel_rfl) (by kernel_rfl) (by kernel_rfl) (fun _ _ _ h => h) (Or.inl ⟨by rfl, ?_⟩) ?_
                  rotate_left
                  · (intro w_; go_simp; try (first | with_reducible rfl | (rw [if_neg (by omega)])))
                  go_simp
                  refine wpAny_take (i := 22) (v := ?_) rfl (by kernel_rfl) (by kernel_rfl) (by kernel_rfl) (fun _ _ _ h => h) (Or.inl ⟨by rfl, ?_⟩) ?_
                  rotate_left
                  · (intro w_; go_simp; try (first | with_reducible rfl | (rw [if_neg (by omega)])))
                  refine wpAny_take (i := 23) (v := ?_) rfl (by kernel_rfl) (by kernel_rfl) (by kernel_rfl) (fun _ _ _ h => h) (Or.inl ⟨by rfl, ?_⟩) ?_
                  rotate_left
                  · (intro w_; go_simp; try (first | with_reducible rfl | (rw [if_neg (by omega)])))
                  go_simp
                  refine wpAny_take (i := 24) (v := ?_) rfl (by kernel_rfl) (by kernel_rfl) (by kernel_rfl) (fun _ _ _ h => h) (Or.inl ⟨by rfl, ?_⟩) ?_
                  rotate_left
                  · (intro w_; go_simp; try (first | with_reducible rfl | (rw [if_neg (by omega)])))
                  go_simp
                  refine wpAny_ready (rs := [20]) (by kernel_rfl) (by simp) ?_
                  refine AllReady.cons rfl (fun K hK => ?_) ?_
                  · -- operation 20
                    have kk := kb w6
                    go_simp
                    (first | (refine hK _ _ ?_; clear hK K kk) | clear kk)
                    refine wpAny_ready (rs := [21]) (by kernel_rfl) (by simp) ?_
                    refine AllReady.cons rfl (fun K hK => ?_) ?_
                    · -- operation 21
                      go_simp
                      go_wp2_with (refine (HCL.out w6 HB.out).mono ?_; rintro e w7 ⟨rfl, hb7⟩; have HB4 := Aside0.mk hb7; clear HB; have HB := HB4; clear HB4 hb7)
                      (first | (refine hK _ _ ?_; clear hK K) | skip)
                      refine wpAny_take (i := 25) (v := ?_) rfl (by kernel_rfl) (by kernel_rfl) (by kernel_rfl) (fun _ _ _ h => h) (Or.inl ⟨by rfl, ?_⟩) ?_
                      rotate_left
                      · (intro w_; go_simp; try (first | with_reducible rfl | (rw [if_neg (by omega)])))
                      go_simp
                      refine wpAny_take (i := 26) (v := ?_) rfl (by kernel_rfl) (by kernel_rfl) (by kernel_rfl) (fun _ _ _ h => h) (Or.inl ⟨by rfl, ?_⟩) ?_
                      rotate_left
                      · (intro w_; go_simp; try (first | with_reducible rfl | (rw [if_neg (by omega)])))
                      go_simp
                      refine wpAny_take (i := 27) (v := ?_) rfl (by kernel_rfl) (by kernel_rfl) (by kernel_rfl) (fun _ _ _ h => h) (Or.inl ⟨by rfl, ?_⟩) ?_
                      rotate_left
                      · (intro w_; go_simp; try (first | with_reducible rfl | (rw [if_neg (by omega)])))
                      refine wpAny_done (by kernel_rfl) ?_ _
                      go_wp2
                      go_ret
                      exact ⟨rfl, HB.out⟩
                    exact AllReady.nil
                  exact AllReady.nil
                exact AllReady.nil
              exact AllReady.nil
            refine AllReady.cons rfl (fun K hK => ?_) ?_
            · -- operation 11
              go_simp
              go_wp2_with (refine (text_Runes.calls Y n3 _ ?_ HT.out.f3).mono ?_; exact HL.out.go HB.out; rintro e w6 ⟨v3_, rfl, hR_, hb_⟩; obtain ⟨A3, c3, rfl, hcn_, hC_⟩ := Kd.R_reads hR_; have K3 := Aside0.mk (show ∀ W, Below w6.heap.size w6 W → (convert 33 9 (.slice A3 n3.length c3)).run Tryd.prog W = .ok (.string Y) W from (fun W hW => by have h := runes_strS n3 A3 c3 W (Kd.C_below hC_ hW); rw [HT.out.r3] at h; exact h)); have HB4 := Aside0.mk (HB.out.trans (hb_.mono HB.out.size)); have HB6 := Aside0.mk hb_; clear HB; have HB := HB4; clear HB4 hR_ hC_ hb_)
              (first | (refine hK _ _ ?_; clear hK K) | skip)
              refine wpAny_ready (rs := [9, 12]) (by kernel_rfl) (by simp) ?_
              refine AllReady.cons rfl (fun K hK => ?_) ?_
              · -- operation 9
                have kk := K2.out w6 (by first | exact Below.refl _ _ | exact HB5.out | exact HB6.out | exact HB5.out.trans (HB6.out.mono HB5.out.size))
                go_simp
                (first | (refine hK _ _ ?_; clear hK K kk) | clear kk)
                refine wpAny_ready (rs := [12]) (by kernel_rfl) (by simp) ?_
                refine AllReady.cons rfl (fun K hK => ?_) ?_
                · -- operation 12
                  have kk := K3.out w6 (by first | exact Below.refl _ _ | exact HB5.out | exact HB6.out | exact HB5.out.trans (HB6.out.mono HB5.out.size))
                  go_simp
                  (first | (refine hK _ _ ?_; clear hK K kk) | clear kk)
                  refine wpAny_take (i := 13) (v := ?_) rfl (by kernel_rfl) (by kernel_rfl) (by kernel_rfl) (fun _ _ _ h => h) (Or.inl ⟨by rfl, ?_⟩) ?_
                  rotate_left
                  · (intro w_; go_simp; try (first | with_reducible rfl | (rw [if_neg (by omega)])))
                  refine wpAny_take (i := 14) (v := ?_) rfl (by kernel_rfl) (by kernel_rfl) (by kernel_rfl) (fun _ _ _ h => h) (Or.inl ⟨by rfl, ?_⟩) ?_
                  rotate_left
                  · (intro w_; go_simp; try (first | with_reducible rfl | (rw [if_neg (by omega)])))
                  go_simp
                  refine wpAny_take (i := 15) (v := ?_) rfl (by kernel_rfl) (by kernel_rfl) (by kernel_rfl) (fun _ _ _ h => h) (Or.inl ⟨by rfl, ?_⟩) ?_
                  rotate_left
                  · (intro w_; go_simp; try (first | with_reducible rfl | (rw [if_neg (by omega)])))
                  refine wpAny_take (i := 16) (v := ?_) rfl (by kernel_rfl) (by kernel_rfl) (by kernel_rfl) (fun _ _ _ h => h) (Or.inl ⟨by rfl, ?_⟩) ?_
                  rotate_left
                  · (intro w_; go_simp; try (first | with_reducible rfl | (rw [if_neg (by omega)])))
                  go_simp
                  refine wpAny_take (i := 17) (v := ?_) rfl (by kernel_rfl) (by kernel_rfl) (by kernel_rfl) (fun _ _ _ h => h) (Or.inl ⟨by rfl, ?_⟩) ?_
                  rotate_left
                  · (intro w_; go_simp; try (first | with_reducible rfl | (rw [if_neg (by omega)])))
                  refine wpAny_take (i := 18) (v := ?_) rfl (by kernel_rfl) (by kernel_rfl) (by kernel_rfl) (fun _ _ _ h => h) (Or.inl ⟨by rfl, ?_⟩) ?_
                  rotate_left
                  · (intro w_; go_simp; try (first | with_reducible rfl | (rw [if_neg (by omega)])))
                  refine wpAny_take (i := 19) (v := ?_) rfl (by kernel_rfl) (by kernel_rfl) (by kernel_rfl) (fun _ _ _ h => h) (Or.inl ⟨by rfl, ?_⟩) ?_
                  rotate_left
                  · (intro w_; go_simp; try (first | with_reducible rfl | (rw [if_neg (by omega)])))
                  go_simp
                  refine wpAny_take (i := 22) (v := ?_) rfl (by kernel_rfl) (by kernel_rfl) (by kernel_rfl) (fun _ _ _ h => h) (Or.inl ⟨by rfl, ?_⟩) ?_
                  rotate_left
                  · (intro w_; go_simp; try (first | with_reducible rfl | (rw [if_neg (by omega)])))
                  refine wpAny_take (i := 23) (v := ?_) rfl (by kernel_rfl) (by kernel_rfl) (by kernel_rfl) (fun _ _ _ h => h) (Or.inl ⟨by rfl, ?_⟩) ?_
                  rotate_left
                  · (intro w_; go_simp; try (first | with_reducible rfl | (rw [if_neg (by omega)])))
                  go_simp
                  refine wpAny_take (i := 24) (v := ?_) rfl (by kernel_rfl) (by kernel_rfl) (by kernel_rfl) (fun _ _ _ h => h) (Or.inl ⟨by rfl, ?_⟩) ?_
                  rotate_left
                  · (intro w_; go_simp; try (first | with_reducible rfl | (rw [if_neg (by omega)])))
                  go_simp
                  refine wpAny_ready (rs := [20]) (by kernel_rfl) (by simp) ?_
                  refine AllReady.cons rfl (fun K hK => ?_) ?_
                  · -- operation 20
                    have kk := kb w6
                    go_simp
                    (first | (refine hK _ _ ?_; clear hK K kk) | clear kk)
                    refine wpAny_ready (rs := [21]) (by kernel_rfl) (by simp) ?_
                    refine AllReady.cons rfl (fun K hK => ?_) ?_
                    · -- operation 21
                      go_simp
                      go_wp2_with (refine (HCL.out w6 HB.out).mono ?_; rintro e w7 ⟨rfl, hb7⟩; have HB4 := Aside0.mk hb7; clear HB; have HB := HB4; clear HB4 hb7)
                      (first | (refine hK _ _ ?_; clear hK K) | skip)
                      refine wpAny_take (i := 25) (v := ?_) rfl (by kernel_rfl) (by kernel_rfl) (by kernel_rfl) (fun _ _ _ h => h) (Or.inl ⟨by rfl, ?_⟩) ?_
                      rotate_left
                      · (intro w_; go_simp; try (first | with_reducible rfl | (rw [if_neg (by omega)])))
                      go_simp
                      refine wpAny_take (i := 26) (v := ?_) rfl (by kernel_rfl) (by kernel_rfl) (by kernel_rfl) (fun _ _ _ h => h) (Or.inl ⟨by rfl, ?_⟩) ?_
                      rotate_left
                      · (intro w_; go_simp; try (first | with_reducible rfl | (rw [if_neg (by omega)])))
                      go_simp
                      refine wpAny_take (i := 27) (v := ?_) rfl (by kernel_rfl) (by kernel_rfl) (by kernel_rfl) (fun _ _ _ h => h) (Or.inl ⟨by rfl, ?_⟩) ?_
                      rotate_left
                      · (intro w_; go_simp; try (first | with_reducible rfl | (rw [if_neg (by omega)])))
                      refine wpAny_done (by kernel_rfl) ?_ _
                      go_wp2
                      go_ret
                      exact ⟨rfl, HB.out⟩
                    exact AllReady.nil
                  exact AllReady.nil
                exact AllReady.nil
              refine AllReady.cons rfl (fun K hK => ?_) ?_
              · -- operation 12
                have kk := K3.out w6 (by first | exact Below.refl _ _ | exact HB5.out | exact HB6.out | exact HB5.out.trans (HB6.out.mono HB5.out.size))
                go_simp
                (first | (refine hK _ _ ?_; clear hK K kk) | clear kk)
                refine wpAny_ready (rs := [9]) (by kernel_rfl) (by simp) ?_
                refine AllReady.cons rfl (fun K hK => ?_) ?_
                · -- operation 9
                  have kk := K2.out w6 (by first | exact Below.refl _ _ | exact HB5.out | exact HB6.out | exact HB5.out.trans (HB6.out.mono HB5.out.size))
                  go_simp
                  (first | (refine hK _ _ ?_; clear hK K kk) | clear kk)
                  refine wpAny_take (i := 13) (v := ?_) rfl (by kernel_rfl) (by kernel_rfl) (by kernel_rfl) (fun _ _ _ h => h) (Or.inl ⟨by rfl, ?_⟩) ?_
                  rotate_left
                  · (intro w_; go_simp; try (first | with_reducible rfl | (rw [if_neg (by omega)])))
                  refine wpAny_take (i := 14) (v := ?_) rfl (by kernel_rfl) (by kernel_rfl) (by kernel_rfl) (fun _ _ _ h => h) (Or.inl ⟨by rfl, ?_⟩) ?_
                  rotate_left
                  · (intro w_; go_simp; try (first | with_reducible rfl | (rw [if_neg (by omega)])))
                  go_simp
                  refine wpAny_take (i := 15) (v := ?_) rfl (by kernel_rfl) (by kernel_rfl) (by kernel_rfl) (fun _ _ _ h => h) (Or.inl ⟨by rfl, ?_⟩) ?_
                  rotate_left
                  · (intro w_; go_simp; try (first | with_reducible rfl | (rw [if_neg (by omega)])))
                  refine wpAny_take (i := 16) (v := ?_) rfl (by kernel_rfl) (by kernel_rfl) (by kernel_rfl) (fun _ _ _ h => h) (Or.inl ⟨by rfl, ?_⟩) ?_
                  rotate_left
                  · (intro w_; go_simp; try (first | with_reducible rfl | (rw [if_neg (by omega)])))
                  go_simp
                  refine wpAny_take (i := 17) (v := ?_) rfl (by kernel_rfl) (by kernel_rfl) (by kernel_rfl) (fun _ _ _ h => h) (Or.inl ⟨by rfl, ?_⟩) ?_
                  rotate_left
                  · (intro w_; go_simp; try (first | with_reducible rfl | (rw [if_neg (by omega)])))
                  refine wpAny_take (i := 18) (v := ?_) rfl (by kernel_rfl) (by kernel_rfl) (by kernel_rfl) (fun _ _ _ h => h) (Or.inl ⟨by rfl, ?_⟩) ?_
                  rotate_left
                  · (intro w_; go_simp; try (first | with_reducible rfl | (rw [if_neg (by omega)])))
                  refine wpAny_take (i := 19) (v := ?_) rfl (by kernel_rfl) (by kernel_rfl) (by kernel_rfl) (fun _ _ _ h => h) (Or.inl ⟨by rfl, ?_⟩) ?_
                  rotate_left
                  · (intro w_; go_simp; try (first | with_reducible rfl | (rw [if_neg (by omega)])))
                  go_simp
                  refine wpAny_take (i := 22) (v := ?_) rfl (by kernel_rfl) (by kernel_rfl) (by kernel_rfl) (fun _ _ _ h => h) (Or.inl ⟨by rfl, ?_⟩) ?_
                  rotate_left
                  · (intro w_; go_simp; try (first | with_reducible rfl | (rw [if_neg (by omega)])))
                  refine wpAny_take (i := 23) (v := ?_) rfl (by kernel_rfl) (by kernel_rfl) (by kernel_rfl) (fun _ _ _ h => h) (Or.inl ⟨by rfl, ?_⟩) ?_
                  rotate_left
                  · (intro w_; go_simp; try (first | with_reducible rfl | (rw [if_neg (by omega)])))
                  go_simp
                  refine wpAny_take (i := 24) (v := ?_) rfl (by kernel_rfl) (by kernel_rfl) (by kernel_rfl) (fun _ _ _ h => h) (Or.inl ⟨by rfl, ?_⟩) ?_
                  rotate_left
                  · (intro w_; go_simp; try (first | with_reducible rfl | (rw [if_neg (by omega)])))
                  go_simp
                  refine wpAny_ready (rs := [20]) (by kernel_rfl) (by simp) ?_
                  refine AllReady.cons rfl (fun K hK => ?_) ?_
                  · -- operation 20
                    have kk := kb w6
                    go_simp
                    (first | (refine hK _ _ ?_; clear hK K kk) | clear kk)
                    refine wpAny_ready (rs := [21]) (by kernel_rfl) (by simp) ?_
                    refine AllReady.cons rfl (fun K hK => ?_) ?_
                    · -- operation 21
                      go_simp
                      go_wp2_with (refine (HCL.out w6 HB.out).mono ?_; rintro e w7 ⟨rfl, hb7⟩; have HB4 := Aside0.mk hb7; clear HB; have HB := HB4; clear HB4 hb7)
                      (first | (refine hK _ _ ?_; clear hK K) | skip)
                      refine wpAny_take (i := 25) (v := ?_) rfl (by kernel_rfl) (by kernel_rfl) (by kernel_rfl) (fun _ _ _ h => h) (Or.inl ⟨by rfl, ?_⟩) ?_
                      rotate_left
                      · (intro w_; go_simp; try (first | with_reducible rfl | (rw [if_neg (by omega)])))
                      go_simp
                      refine wpAny_take (i := 26) (v := ?_) rfl (by kernel_rfl) (by kernel_rfl) (by kernel_rfl) (fun _ _ _ h => h) (Or.inl ⟨by rfl, ?_⟩) ?_
                      rotate_left
                      · (intro w_; go_simp; try (first | with_reducible rfl | (rw [if_neg (by omega)])))
                      go_simp
                      refine wpAny_take (i := 27) (v := ?_) rfl (by kernel_rfl) (by kernel_rfl) (by kernel_rfl) (fun _ _ _ h => h) (Or.inl ⟨by rfl, ?_⟩) ?_
                      rotate_left
                      · (intro w_; go_simp; try (first | with_reducible rfl | (rw [if_neg (by omega)])))
                      refine wpAny_done (by kernel_rfl) ?_ _
                      go_wp2
                      go_ret
                      exact ⟨rfl, HB.out⟩
                    exact AllReady.nil
                  exact AllReady.nil
                exact AllReady.nil
              exact AllReady.nil
            exact AllReady.nil
          exact AllReady.nil
        refine AllReady.cons rfl (fun K hK => ?_) ?_
        · -- operation 8
          go_simp
          go_wp2_with (refine (text_Runes.calls X n2 _ ?_ HT.out.f2).mono ?_; exact HL.out.go HB.out; rintro e w5 ⟨v2_, rfl, hR_, hb_⟩; obtain ⟨A2, c2, rfl, hcn_, hC_⟩ := Kd.R_reads hR_; have K2 := Aside0.mk (show ∀ W, Below w5.heap.size w5 W → (convert 33 9 (.slice A2 n2.length c2)).run Tryd.prog W = .ok (.string X) W from (fun W hW => by have h := runes_strS n2 A2 c2 W (Kd.C_below hC_ hW); rw [HT.out.r2] at h; exact h)); have HB4 := Aside0.mk (HB.out.trans (hb_.mono HB.out.size)); have HB5 := Aside0.mk hb_; clear HB; have HB := HB4; clear HB4 hR_ hC_ hb_)
          (first | (refine hK _ _ ?_; clear hK K) | skip)
          refine wpAny_ready (rs := [6, 9, 11]) (by kernel_rfl) (by simp) ?_
          refine AllReady.cons rfl (fun K hK => ?_) ?_
          · -- operation 6
            have kk := K1.out w5 (by first | exact Below.refl _ _ | exact HB5.out | exact HB6.out | exact HB5.out.trans (HB6.out.mono HB5.out.size))
            go_simp
            (first | (refine hK _ _ ?_; clear hK K kk) | clear kk)
            refine wpAny_ready (rs := [9, 11]) (by kernel_rfl) (by simp) ?_
            refine AllReady.cons rfl (fun K hK => ?_) ?_
            · -- operation 9
              have kk := K2.out w5 (by first | exact Below.refl _ _ | exact HB5.out | exact HB6.out | exact HB5.out.trans (HB6.out.mono HB5.out.size))
              go_simp
              (first | (refine hK _ _ ?_; clear hK K kk) | clear kk)
              refine wpAny_ready (rs := [11]) (by kernel_rfl) (by simp) ?_
              refine AllReady.cons rfl (fun K hK => ?_) ?_
              · -- operation 11
                go_simp
                go_wp2_with (refine (text_Runes.calls Y n3 _ ?_ HT.out.f3).mono ?_; exact HL.out.go HB.out; rintro e w6 ⟨v3_, rfl, hR_, hb_⟩; obtain ⟨A3, c3, rfl, hcn_, hC_⟩ := Kd.R_reads hR_; have K3 := Aside0.mk (show ∀ W, Below w6.heap.size w6 W → (convert 33 9 (.slice A3 n3.length c3)).run Tryd.prog W = .ok (.string Y) W from (fun W hW => by have h := runes_strS n3 A3 c3 W (Kd.C_below hC_ hW); rw [HT.out.r3] at h; exact h)); have HB4 := Aside0.mk (HB.out.trans (hb_.mono HB.out.size)); have HB6 := Aside0.mk hb_; clear HB; have HB := HB4; clear HB4 hR_ hC_ hb_)
                (first | (refine hK _ _ ?_; clear hK K) | skip)
                refine wpAny_ready (rs := [12]) (by kernel_rfl) (by simp) ?_
                refine AllReady.cons rfl (fun K hK => ?_) ?_
                · -- operation 12
                  have kk := K3.out w6 (by first | exact Below.refl _ _ | exact HB5.out | exact HB6.out | exact HB5.out.trans (HB6.out.mono HB5.out.size))
                  go_simp
                  (first | (refine hK _ _ ?_; clear hK K kk) | clear kk)
                  refine wpAny_take (i := 13) (v := ?_) rfl (by kernel_rfl) (by kernel_rfl) (by kernel_rfl) (fun _ _ _ h => h) (Or.inl ⟨by rfl, ?_⟩) ?_
                  rotate_left
                  · (intro w_; go_simp; try (first | with_reducible rfl | (rw [if_neg (by omega)])))
                  refine wpAny_take (i := 14) (v := ?_) rfl (by kernel_rfl) (by kernel_rfl) (by kernel_rfl) (fun _ _ _ h => h) (Or.inl ⟨by rfl, ?_⟩) ?_
                  rotate_left
                  · (intro w_; go_simp; try (first | with_reducible rfl | (rw [if_neg (by omega)])))
                  go_simp
                  refine wpAny_take (i := 15) (v := ?_) rfl (by kernel_rfl) (by kernel_rfl) (by kernel_rfl) (fun _ _ _ h => h) (Or.inl ⟨by rfl, ?_⟩) ?_
                  rotate_left
                  · (intro w_; go_simp; try (first | with_reducible rfl | (rw [if_neg (by omega)])))
                  refine wpAny_take (i := 16) (v := ?_) rfl (by kernel_rfl) (by kernel_rfl) (by kernel_rfl) (fun _ _ _ h => h) (Or.inl ⟨by rfl, ?_⟩) ?_
                  rotate_left
                  · (intro w_; go_simp; try (first | with_reducible rfl | (rw [if_neg (by omega)])))
                  go_simp
                  refine wpAny_take (i := 17) (v := ?_) rfl (by kernel_rfl) (by kernel_rfl) (by kernel_rfl) (fun _ _ _ h => h) (Or.inl ⟨by rfl, ?_⟩) ?_
                  rotate_left
                  · (intro w_; go_simp; try (first | with_reducible rfl | (rw [if_neg (by omega)])))
                  refine wpAny_take (i := 18) (v := ?_) rfl (by kernel_rfl) (by kernel_rfl) (by kernel_rfl) (fun _ _ _ h => h) (Or.inl ⟨by rfl, ?_⟩) ?_
                  rotate_left
                  · (intro w_; go_simp; try (first | with_reducible rfl | (rw [if_neg (by omega)])))
                  refine wpAny_take (i := 19) (v := ?_) rfl (by kernel_rfl) (by kernel_rfl) (by kernel_rfl) (fun _ _ _ h => h) (Or.inl ⟨by rfl, ?_⟩) ?_
                  rotate_left
                  · (intro w_; go_simp; try (first | with_reducible rfl | (rw [if_neg (by omega)])))
                  go_simp
                  refine wpAny_take (i := 22) (v := ?_) rfl (by kernel_rfl) (by kernel_rfl) (by kernel_rfl) (fun _ _ _ h => h) (Or.inl ⟨by rfl, ?_⟩) ?_
                  rotate_left
                  · (intro w_; go_simp; try (first | with_reducible rfl | (rw [if_neg (by omega)])))
                  refine wpAny_take (i := 23) (v := ?_) rfl (by kernel_rfl) (by kernel_rfl) (by kernel_rfl) (fun _ _ _ h => h) (Or.inl ⟨by rfl, ?_⟩) ?_
                  rotate_left
                  · (intro w_; go_simp; try (first | with_reducible rfl | (rw [if_neg (by omega)])))
                  go_simp
                  refine wpAny_take (i := 24) (v := ?_) rfl (by kernel_rfl) (by kernel_rfl) (by kernel_rfl) (fun _ _ _ h => h) (Or.inl ⟨by rfl, ?_⟩) ?_
                  rotate_left
                  · (intro w_; go_simp; try (first | with_reducible rfl | (rw [if_neg (by omega)])))
                  go_simp
                  refine wpAny_ready (rs := [20]) (by kernel_rfl) (by simp) ?_
                  refine AllReady.cons rfl (fun K hK => ?_) ?_
                  · -- operation 20
                    have kk := kb w6
                    go_simp
                    (first | (refine hK _ _ ?_; clear hK K kk) | clear kk)
                    refine wpAny_ready (rs := [21]) (by kernel_rfl) (by simp) ?_
                    refine AllReady.cons rfl (fun K hK => ?_) ?_
                    · -- operation 21
                      go_simp
                      go_wp2_with (refine (HCL.out w6 HB.out).mono ?_; rintro e w7 ⟨rfl, hb7⟩; have HB4 := Aside0.mk hb7; clear HB; have HB := HB4; clear HB4 hb7)
                      (first | (refine hK _ _ ?_; clear hK K) | skip)
                      refine wpAny_take (i := 25) (v := ?_) rfl (by kernel_rfl) (by kernel_rfl) (by kernel_rfl) (fun _ _ _ h => h) (Or.inl ⟨by rfl, ?_⟩) ?_
                      rotate_left
                      · (intro w_; go_simp; try (first | with_reducible rfl | (rw [if_neg (by omega)])))
                      go_simp
                      refine wpAny_take (i := 26) (v := ?_) rfl (by kernel_rfl) (by kernel_rfl) (by kernel_rfl) (fun _ _ _ h => h) (Or.inl ⟨by rfl, ?_⟩) ?_
                      rotate_left
                      · (intro w_; go_simp; try (first | with_reducible rfl | (rw [if_neg (by omega)])))
                      go_simp
                      refine wpAny_take (i := 27) (v := ?_) rfl (by kernel_rfl) (by kernel_rfl) (by kernel_rfl) (fun _ _ _ h => h) (Or.inl ⟨by rfl, ?_⟩) ?_
                      rotate_left
                      · (intro w_; go_simp; try (first | with_reducible rfl | (rw [if_neg (by omega)])))
                      refine wpAny_done (by kernel_rfl) ?_ _
                      go_wp2
                      go_ret
                      exact ⟨rfl, HB.out⟩
                    exact AllReady.nil
                  exact AllReady.nil
                exact AllReady.nil
              exact AllReady.nil
            refine AllReady.cons rfl (fun K hK => ?_) ?_
            · -- operation 11
              go_simp
              go_wp2_with (refine (text_Runes.calls Y n3 _ ?_ HT.out.f3).mono ?_; exact HL.out.go HB.out; rintro e w6 ⟨v3_, rfl, hR_, hb_⟩; obtain ⟨A3, c3, rfl, hcn_, hC_⟩ := Kd.R_reads hR_; have K3 := Aside0.mk (show ∀ W, Below w6.heap.size w6 W → (convert 33 9 (.slice A3 n3.length c3)).run Tryd.prog W = .ok (.string Y) W from (fun W hW => by have h := runes_strS n3 A3 c3 W (Kd.C_below hC_ hW); rw [HT.out.r3] at h; exact h)); have HB4 := Aside0.mk (HB.out.trans (hb_.mono HB.out.size)); have HB6 := Aside0.mk hb_; clear HB; have HB := HB4; clear HB4 hR_ hC_ hb_)
              (first | (refine hK _ _ ?_; clear hK K) | skip)
              refine wpAny_ready (rs := [9, 12]) (by kernel_rfl) (by simp) ?_
              refine AllReady.cons rfl (fun K hK => ?_) ?_
              · -- operation 9
                have kk := K2.out w6 (by first | exact Below.refl _ _ | exact HB5.out | exact HB6.out | exact HB5.out.trans (HB6.out.mono HB5.out.size))
                go_simp
                (first | (refine hK _ _ ?_; clear hK K kk) | clear kk)
                refine wpAny_ready (rs := [12]) (by kernel_rfl) (by simp) ?_
                refine AllReady.cons rfl (fun K hK => ?_) ?_
                · -- operation 12
                  have kk := K3.out w6 (by first | exact Below.refl _ _ | exact HB5.out | exact HB6.out | exact HB5.out.trans (HB6.out.mono HB5.out.size))
                  go_simp
                  (first | (refine hK _ _ ?_; clear hK K kk) | clear kk)
                  refine wpAny_take (i := 13) (v := ?_) rfl (by kernel_rfl) (by kernel_rfl) (by kernel_rfl) (fun _ _ _ h => h) (Or.inl ⟨by rfl, ?_⟩) ?_
                  rotate_left
                  · (intro w_; go_simp; try (first | with_reducible rfl | (rw [if_neg (by omega)])))
                  refine wpAny_take (i := 14) (v := ?_) rfl (by kernel_rfl) (by kernel_rfl) (by kernel_rfl) (fun _ _ _ h => h) (Or.inl ⟨by rfl, ?_⟩) ?_
                  rotate_left
                  · (intro w_; go_simp; try (first | with_reducible rfl | (rw [if_neg (by omega)])))
                  go_simp
                  refine wpAny_take (i := 15) (v := ?_) rfl (by kernel_rfl) (by kernel_rfl) (by kernel_rfl) (fun _ _ _ h => h) (Or.inl ⟨by rfl, ?_⟩) ?_
                  rotate_left
                  · (intro w_; go_simp; try (first | with_reducible rfl | (rw [if_neg (by omega)])))
                  refine wpAny_take (i := 16) (v := ?_) rfl (by kernel_rfl) (by kernel_rfl) (by kernel_rfl) (fun _ _ _ h => h) (Or.inl ⟨by rfl, ?_⟩) ?_
                  rotate_left
                  · (intro w_; go_simp; try (first | with_reducible rfl | (rw [if_neg (by omega)])))
                  go_simp
                  refine wpAny_take (i := 17) (v := ?_) rfl (by kernel_rfl) (by kernel_rfl) (by kernel_rfl) (fun _ _ _ h => h) (Or.inl ⟨by rfl, ?_⟩) ?_
                  rotate_left
                  · (intro w_; go_simp; try (first | with_reducible rfl | (rw [if_neg (by omega)])))
                  refine wpAny_take (i := 18) (v := ?_) rfl (by kernel_rfl) (by kernel_rfl) (by kernel_rfl) (fun _ _ _ h => h) (Or.inl ⟨by rfl, ?_⟩) ?_
                  rotate_left
                  · (intro w_; go_simp; try (first | with_reducible rfl | (rw [if_neg (by omega)])))
                  refine wpAny_take (i := 19) (v := ?_) rfl (by kernel_rfl) (by kernel_rfl) (by kernel_rfl) (fun _ _ _ h => h) (Or.inl ⟨by rfl, ?_⟩) ?_
                  rotate_left
                  · (intro w_; go_simp; try (first | with_reducible rfl | (rw [if_neg (by omega)])))
                  go_simp
                  refine wpAny_take (i := 22) (v := ?_) rfl (by kernel_rfl) (by kernel_rfl) (by kernel_rfl) (fun _ _ _ h => h) (Or.inl ⟨by rfl, ?_⟩) ?_
                  rotate_left
                  · (intro w_; go_simp; try (first | with_reducible rfl | (rw [if_neg (by omega)])))
                  refine wpAny_take (i := 23) (v := ?_) rfl (by kernel_rfl) (by kernel_rfl) (by kernel_rfl) (fun _ _ _ h => h) (Or.inl ⟨by rfl, ?_⟩) ?_
                  rotate_left
                  · (intro w_; go_simp; try (first | with_reducible rfl | (rw [if_neg (by omega)])))
                  go_simp
                  refine wpAny_take (i := 24) (v := ?_) rfl (by kernel_rfl) (by kernel_rfl) (by kernel_rfl) (fun _ _ _ h => h) (Or.inl ⟨by rfl, ?_⟩) ?_
                  rotate_left
                  · (intro w_; go_simp; try (first | with_reducible rfl | (rw [if_neg (by omega)])))
                  go_simp
                  refine wpAny_ready (rs := [20]) (by kernel_rfl) (by simp) ?_
                  refine AllReady.cons rfl (fun K hK => ?_) ?_
                  · -- operation 20
                    have kk := kb w6
                    go_simp
                    (first | (refine hK _ _ ?_; clear hK K kk) | clear kk)
                    refine wpAny_ready (rs := [21]) (by kernel_rfl) (by simp) ?_
                    refine AllReady.cons rfl (fun K hK => ?_) ?_
                    · -- operation 21
                      go_simp
                      go_wp2_with (refine (HCL.out w6 HB.out).mono ?_; rintro e w7 ⟨rfl, hb7⟩; have HB4 := Aside0.mk hb7; clear HB; have HB := HB4; clear HB4 hb7)
                      (first | (refine hK _ _ ?_; clear hK K) | skip)
                      refine wpAny_take (i := 25) (v := ?_) rfl (by kernel_rfl) (by kernel_rfl) (by kernel_rfl) (fun _ _ _ h => h) (Or.inl ⟨by rfl, ?_⟩) ?_
                      rotate_left
                      · (intro w_; go_simp; try (first | with_reducible rfl | (rw [if_neg (by omega)])))
                      go_simp
                      refine wpAny_take (i := 26) (v := ?_) rfl (by kernel_rfl) (by kernel_rfl) (by kernel_rfl) (fun _ _ _ h => h) (Or.inl ⟨by rfl, ?_⟩) ?_
                      rotate_left
                      · (intro w_; go_simp; try (first | with_reducible rfl | (rw [if_neg (by omega)])))
                      go_simp
                      refine wpAny_take (i := 27) (v := ?_) rfl (by kernel_rfl) (by kernel_rfl) (by kernel_rfl) (fun _ _ _ h => h) (Or.inl ⟨by rfl, ?_⟩) ?_
                      rotate_left
                      · (intro w_; go_simp; try (first | with_reducible rfl | (rw [if_neg (by omega)])))
                      refine wpAny_done (by kernel_rfl) ?_ _
                      go_wp2
                      go_ret
                      exact ⟨rfl, HB.out⟩
                    exact AllReady.nil
                  exact AllReady.nil
                exact AllReady.nil
              refine AllReady.cons rfl (fun K hK => ?_) ?_
              · -- operation 12
                have kk := K3.out w6 (by first | exact Below.refl _ _ | exact HB5.out | exact HB6.out | exact HB5.out.trans (HB6.out.mono HB5.out.size))
                go_simp
                (first | (refine hK _ _ ?_; clear hK K kk) | clear kk)
                refine wpAny_ready (rs := [9]) (by kernel_rfl) (by simp) ?_
                refine AllReady.cons rfl (fun K hK => ?_) ?_
                · -- operation 9
                  have kk := K2.out w6 (by first | exact Below.refl _ _ | exact HB5.out | exact HB6.out | exact HB5.out.trans (HB6.out.mono HB5.out.size))
                  go_simp
                  (first | (refine hK _ _ ?_; clear hK K kk) | clear kk)
                  refine wpAny_take (i := 13) (v := ?_) rfl (by kernel_rfl) (by kernel_rfl) (by kernel_rfl) (fun _ _ _ h => h) (Or.inl ⟨by rfl, ?_⟩) ?_
                  rotate_left
                  · (intro w_; go_simp; try (first | with_reducible rfl | (rw [if_neg (by omega)])))
                  refine wpAny_take (i := 14) (v := ?_) rfl (by kernel_rfl) (by kernel_rfl) (by kernel_rfl) (fun _ _ _ h => h) (Or.inl ⟨by rfl, ?_⟩) ?_
                  rotate_left
                  · (intro w_; go_simp; try (first | with_reducible rfl | (rw [if_neg (by omega)])))
                  go_simp
                  refine wpAny_take (i := 15) (v := ?_) rfl (by kernel_rfl) (by kernel_rfl) (by kernel_rfl) (fun _ _ _ h => h) (Or.inl ⟨by rfl, ?_⟩) ?_
                  rotate_left
                  · (intro w_; go_simp; try (first | with_reducible rfl | (rw [if_neg (by omega)])))
                  refine wpAny_take (i := 16) (v := ?_) rfl (by kernel_rfl) (by kernel_rfl) (by kernel_rfl) (fun _ _ _ h => h) (Or.inl ⟨by rfl, ?_⟩) ?_
                  rotate_left
                  · (intro w_; go_simp; try (first | with_reducible rfl | (rw [if_neg (by omega)])))
                  go_simp
                  refine wpAny_take (i := 17) (v := ?_) rfl (by kernel_rfl) (by kernel_rfl) (by kernel_rfl) (fun _ _ _ h => h) (Or.inl ⟨by rfl, ?_⟩) ?_
                  rotate_left
                  · (intro w_; go_simp; try (first | with_reducible rfl | (rw [if_neg (by omega)])))
                  refine wpAny_take (i := 18) (v := ?_) rfl (by kernel_rfl) (by kernel_rfl) (by kernel_rfl) (fun _ _ _ h => h) (Or.inl ⟨by rfl, ?_⟩) ?_
                  rotate_left
                  · (intro w_; go_simp; try (first | with_reducible rfl | (rw [if_neg (by omega)])))
                  refine wpAny_take (i := 19) (v := ?_) rfl (by kernel_rfl) (by kernel_rfl) (by kernel_rfl) (fun _ _ _ h => h) (Or.inl ⟨by rfl, ?_⟩) ?_
                  rotate_left
                  · (intro w_; go_simp; try (first | with_reducible rfl | (rw [if_neg (by omega)])))
                  go_simp
                  refine wpAny_take (i := 22) (v := ?_) rfl (by kernel_rfl) (by kernel_rfl) (by kernel_rfl) (fun _ _ _ h => h) (Or.inl ⟨by rfl, ?_⟩) ?_
                  rotate_left
                  · (intro w_; go_simp; try (first | with_reducible rfl | (rw [if_neg (by omega)])))
                  refine wpAny_take (i := 23) (v := ?_) rfl (by kernel_rfl) (by kernel_rfl) (by kernel_rfl) (fun _ _ _ h => h) (Or.inl ⟨by rfl, ?_⟩) ?_
                  rotate_left
                  · (intro w_; go_simp; try (first | with_reducible rfl | (rw [if_neg (by omega)])))
                  go_simp
                  refine wpAny_take (i := 24) (v := ?_) rfl (by kernel_rfl) (by kernel_rfl) (by kernel_rfl) (fun _ _ _ h => h) (Or.inl ⟨by rfl, ?_⟩) ?_
                  rotate_left
                  · (intro w_; go_simp; try (first | with_reducible rfl | (rw [if_neg (by omega)])))
                  go_simp
                  refine wpAny_ready (rs := [20]) (by kernel_rfl) (by simp) ?_
                  refine AllReady.cons rfl (fun K hK => ?_) ?_
                  · -- operation 20
                    have kk := kb w6
                    go_simp
                    (first | (refine hK _ _ ?_; clear hK K kk) | clear kk)
                    refine wpAny_ready (rs := [21]) (by kernel_rfl) (by simp) ?_
                    refine AllReady.cons rfl (fun K hK => ?_) ?_
                    · -- operation 21
                      go_simp
                      go_wp2_with (refine (HCL.out w6 HB.out).mono ?_; rintro e w7 ⟨rfl, hb7⟩; have HB4 := Aside0.mk hb7; clear HB; have HB := HB4; clear HB4 hb7)
                      (first | (refine hK _ _ ?_; clear hK K) | skip)
                      refine wpAny_take (i := 25) (v := ?_) rfl (by kernel_rfl) (by kernel_rfl) (by kernel_rfl) (fun _ _ _ h => h) (Or.inl ⟨by rfl, ?_⟩) ?_
                      rotate_left
                      · (intro w_; go_simp; try (first | with_reducible rfl | (rw [if_neg (by omega)])))
                      go_simp
                      refine wpAny_take (i := 26) (v := ?_) rfl (by kernel_rfl) (by kernel_rfl) (by kernel_rfl) (fun _ _ _ h => h) (Or.inl ⟨by rfl, ?_⟩) ?_
                      rotate_left
                      · (intro w_; go_simp; try (first | with_reducible rfl | (rw [if_neg (by omega)])))
                      go_simp
                      refine wpAny_take (i := 27) (v := ?_) rfl (by kernel_rfl) (by kernel_rfl) (by kernel_rfl) (fun _ _ _ h => h) (Or.inl ⟨by rfl, ?_⟩) ?_
                      rotate_left
                      · (intro w_; go_simp; try (first | with_reducible rfl | (rw [if_neg (by omega)])))
                      refine wpAny_done (by kernel_rfl) ?_ _
                      go_wp2
                      go_ret
                      exact ⟨rfl, HB.out⟩
                    exact AllReady.nil
                  exact AllReady.nil
                exact AllReady.nil
              exact AllReady.nil
            exact AllReady.nil
          refine AllReady.cons rfl (fun K hK => ?_) ?_
          · -- operation 9
            have kk := K2.out w5 (by first | exact Below.refl _ _ | exact HB5.out | exact HB6.out | exact HB5.out.trans (HB6.out.mono HB5.out.size))
            go_simp
            (first | (refine hK _ _ ?_; clear hK K kk) | clear kk)
            refine wpAny_ready (rs := [6, 11]) (by kernel_rfl) (by simp) ?_
            refine AllReady.cons rfl (fun K hK => ?_) ?_
            · -- operation 6
              have kk := K1.out w5 (by first | exact Below.refl _ _ | exact HB5.out | exact HB6.out | exact HB5.out.trans (HB6.out.mono HB5.out.size))
              go_simp
              (first | (refine hK _ _ ?_; clear hK K kk) | clear kk)
              refine wpAny_ready (rs := [11]) (by kernel_rfl) (by simp) ?_
              refine AllReady.cons rfl (fun K hK => ?_) ?_
              · -- operation 11
                go_simp
                go_wp2_with (refine (text_Runes.calls Y n3 _ ?_ HT.out.f3).mono ?_; exact HL.out.go HB.out; rintro e w6 ⟨v3_, rfl, hR_, hb_⟩; obtain ⟨A3, c3, rfl, hcn_, hC_⟩ := Kd.R_reads hR_; have K3 := Aside0.mk (show ∀ W, Below w6.heap.size w6 W → (convert 33 9 (.slice A3 n3.length c3)).run Tryd.prog W = .ok (.string Y) W from (fun W hW => by have h := runes_strS n3 A3 c3 W (Kd.C_below hC_ hW); rw [HT.out.r3] at h; exact h)); have HB4 := Aside0.mk (HB.out.trans (hb_.mono HB.out.size)); have HB6 := Aside0.mk hb_; clear HB; have HB := HB4; clear HB4 hR_ hC_ hb_)
                (first | (refine hK _ _ ?_; clear hK K) | skip)
                refine wpAny_ready (rs := [12]) (by kernel_rfl) (by simp) ?_
                refine AllReady.cons rfl (fun K hK => ?_) ?_
                · -- operation 12
                  have kk := K3.out w6 (by first | exact Below.refl _ _ | exact HB5.out | exact HB6.out | exact HB5.out.trans (HB6.out.mono HB5.out.size))
                  go_simp
                  (first | (refine hK _ _ ?_; clear hK K kk) | clear kk)
                  refine wpAny_take (i := 13) (v := ?_) rfl (by kernel_rfl) (by kernel_rfl) (by kernel_rfl) (fun _ _ _ h => h) (Or.inl ⟨by rfl, ?_⟩) ?_
                  rotate_left
                  · (intro w_; go_simp; try (first | with_reducible rfl | (rw [if_neg (by omega)])))
                  refine wpAny_take (i := 14) (v := ?_) rfl (by kernel_rfl) (by kernel_rfl) (by kernel_rfl) (fun _ _ _ h => h) (Or.inl ⟨by rfl, ?_⟩) ?_
                  rotate_left
                  · (intro w_; go_simp; try (first | with_reducible rfl | (rw [if_neg (by omega)])))
                  go_simp
                  refine wpAny_take (i := 15) (v := ?_) rfl (by kernel_rfl) (by kernel_rfl) (by kernel_rfl) (fun _ _ _ h => h) (Or.inl ⟨by rfl, ?_⟩) ?_
                  rotate_left
                  · (intro w_; go_simp; try (first | with_reducible rfl | (rw [if_neg (by omega)])))
                  refine wpAny_take (i := 16) (v := ?_) rfl (by kernel_rfl) (by kernel_rfl) (by kernel_rfl) (fun _ _ _ h => h) (Or.inl ⟨by rfl, ?_⟩) ?_
                  rotate_left
                  · (intro w_; go_simp; try (first | with_reducible rfl | (rw [if_neg (by omega)])))
                  go_simp
                  refine wpAny_take (i := 17) (v := ?_) rfl (by kernel_rfl) (by kernel_rfl) (by kernel_rfl) (fun _ _ _ h => h) (Or.inl ⟨by rfl, ?_⟩) ?_
                  rotate_left
                  · (intro w_; go_simp; try (first | with_reducible rfl | (rw [if_neg (by omega)])))
                  refine wpAny_take (i := 18) (v := ?_) rfl (by kernel_rfl) (by kernel_rfl) (by kernel_rfl) (fun _ _ _ h => h) (Or.inl ⟨by rfl, ?_⟩) ?_
                  rotate_left
                  · (intro w_; go_simp; try (first | with_reducible rfl | (rw [if_neg (by omega)])))
                  refine wpAny_take (i := 19) (v := ?_) rfl (by kernel_rfl) (by kernel_rfl) (by kernel_rfl) (fun _ _ _ h => h) (Or.inl ⟨by rfl, ?_⟩) ?_
                  rotate_left
                  · (intro w_; go_simp; try (first | with_reducible rfl | (rw [if_neg (by omega)])))
                  go_simp
                  refine wpAny_take (i := 22) (v := ?_) rfl (by kernel_rfl) (by kernel_rfl) (by kernel_rfl) (fun _ _ _ h => h) (Or.inl ⟨by rfl, ?_⟩) ?_
                  rotate_left
                  · (intro w_; go_simp; try (first | with_reducible rfl | (rw [if_neg (by omega)])))
                  refine wpAny_take (i := 23) (v := ?_) rfl (by kernel_rfl) (by kernel_rfl) (by kernel_rfl) (fun _ _ _ h => h) (Or.inl ⟨by rfl, ?_⟩) ?_
                  rotate_left
                  · (intro w_; go_simp; try (first | with_reducible rfl | (rw [if_neg (by omega)])))
                  go_simp
                  refine wpAny_take (i := 24) (v := ?_) rfl (by kernel_rfl) (by kernel_rfl) (by kernel_rfl) (fun _ _ _ h => h) (Or.inl ⟨by rfl, ?_⟩) ?_
                  rotate_left
                  · (intro w_; go_simp; try (first | with_reducible rfl | (rw [if_neg (by omega)])))
                  go_simp
                  refine wpAny_ready (rs := [20]) (by kernel_rfl) (by simp) ?_
                  refine AllReady.cons rfl (fun K hK => ?_) ?_
                  · -- operation 20
                    have kk := kb w6
                    go_simp
                    (first | (refine hK _ _ ?_; clear hK K kk) | clear kk)
                    refine wpAny_ready (rs := [21]) (by kernel_rfl) (by simp) ?_
                    refine AllReady.cons rfl (fun K hK => ?_) ?_
                    · -- operation 21
                      go_simp
                      go_wp2_with (refine (HCL.out w6 HB.out).mono ?_; rintro e w7 ⟨rfl, hb7⟩; have HB4 := Aside0.mk hb7; clear HB; have HB := HB4; clear HB4 hb7)
                      (first | (refine hK _ _ ?_; clear hK K) | skip)
                      refine wpAny_take (i := 25) (v := ?_) rfl (by kernel_rfl) (by kernel_rfl) (by kernel_rfl) (fun _ _ _ h => h) (Or.inl ⟨by rfl, ?_⟩) ?_
                      rotate_left
                      · (intro w_; go_simp; try (first | with_reducible rfl | (rw [if_neg (by omega)])))
                      go_simp
                      refine wpAny_take (i := 26) (v := ?_) rfl (by kernel_rfl) (by kernel_rfl) (by kernel_rfl) (fun _ _ _ h => h) (Or.inl ⟨by rfl, ?_⟩) ?_
                      rotate_left
                      · (intro w_; go_simp; try (first | with_reducible rfl | (rw [if_neg (by omega)])))
                      go_simp
                      refine wpAny_take (i := 27) (v := ?_) rfl (by kernel_rfl) (by kernel_rfl) (by kernel_rfl) (fun _ _ _ h => h) (Or.inl ⟨by rfl, ?_⟩) ?_
                      rotate_left
                      · (intro w_; go_simp; try (first | with_reducible rfl | (rw [if_neg (by omega)])))
                      refine wpAny_done (by kernel_rfl) ?_ _
                      go_wp2
                      go_ret
                      exact ⟨rfl, HB.out⟩
                    exact AllReady.nil
                  exact AllReady.nil
                exact AllReady.nil
              exact AllReady.nil
            refine AllReady.cons rfl (fun K hK => ?_) ?_
            · -- operation 11
              go_simp
              go_wp2_with (refine (text_Runes.calls Y n3 _ ?_ HT.out.f3).mono ?_; exact HL.out.go HB.out; rintro e w6 ⟨v3_, rfl, hR_, hb_⟩; obtain ⟨A3, c3, rfl, hcn_, hC_⟩ := Kd.R_reads hR_; have K3 := Aside0.mk (show ∀ W, Below w6.heap.size w6 W → (convert 33 9 (.slice A3 n3.length c3)).run Tryd.prog W = .ok (.string Y) W from (fun W hW => by have h := runes_strS n3 A3 c3 W (Kd.C_below hC_ hW); rw [HT.out.r3] at h; exact h)); have HB4 := Aside0.mk (HB.out.trans (hb_.mono HB.out.size)); have HB6 := Aside0.mk hb_; clear HB; have HB := HB4; clear HB4 hR_ hC_ hb_)
              (first | (refine hK _ _ ?_; clear hK K) | skip)
              refine wpAny_ready (rs := [6, 12]) (by kernel_rfl) (by simp) ?_
              refine AllReady.cons rfl (fun K hK => ?_) ?_
              · -- operation 6
                have kk := K1.out w6 (by first | exact Below.refl _ _ | exact HB5.out | exact HB6.out | exact HB5.out.trans (HB6.out.mono HB5.out.size))
                go_simp
                (first | (refine hK _ _ ?_; clear hK K kk) | clear kk)
                refine wpAny_ready (rs := [12]) (by kernel_rfl) (by simp) ?_
                refine AllReady.cons rfl (fun K hK => ?_) ?_
                · -- operation 12
                  have kk := K3.out w6 (by first | exact Below.refl _ _ | exact HB5.out | exact HB6.out | exact HB5.out.trans (HB6.out.mono HB5.out.size))
                  go_simp
                  (first | (refine hK _ _ ?_; clear hK K kk) | clear kk)
                  refine wpAny_take (i := 13) (v := ?_) rfl (by kernel_rfl) (by kernel_rfl) (by kernel_rfl) (fun _ _ _ h => h) (Or.inl ⟨by rfl, ?_⟩) ?_
                  rotate_left
                  · (intro w_; go_simp; try (first | with_reducible rfl | (rw [if_neg (by omega)])))
                  refine wpAny_take (i := 14) (v := ?_) rfl (by kernel_rfl) (by kernel_rfl) (by kernel_rfl) (fun _ _ _ h => h) (Or.inl ⟨by rfl, ?_⟩) ?_
                  rotate_left
                  · (intro w_; go_simp; try (first | with_reducible rfl | (rw [if_neg (by omega)])))
                  go_simp
                  refine wpAny_take (i := 15) (v := ?_) rfl (by kernel_rfl) (by kernel_rfl) (by kernel_rfl) (fun _ _ _ h => h) (Or.inl ⟨by rfl, ?_⟩) ?_
                  rotate_left
                  · (intro w_; go_simp; try (first | with_reducible rfl | (rw [if_neg (by omega)])))
                  refine wpAny_take (i := 16) (v := ?_) rfl (by kernel_rfl) (by kernel_rfl) (by kernel_rfl) (fun _ _ _ h => h) (Or.inl ⟨by rfl, ?_⟩) ?_
                  rotate_left
                  · (intro w_; go_simp; try (first | with_reducible rfl | (rw [if_neg (by omega)])))
                  go_simp
                  refine wpAny_take (i := 17) (v := ?_) rfl (by kernel_rfl) (by kernel_rfl) (by kernel_rfl) (fun _ _ _ h => h) (Or.inl ⟨by rfl, ?_⟩) ?_
                  rotate_left
                  · (intro w_; go_simp; try (first | with_reducible rfl | (rw [if_neg (by omega)])))
                  refine wpAny_take (i := 18) (v := ?_) rfl (by kernel_rfl) (by kernel_rfl) (by kernel_rfl) (fun _ _ _ h => h) (Or.inl ⟨by rfl, ?_⟩) ?_
                  rotate_left
                  · (intro w_; go_simp; try (first | with_reducible rfl | (rw [if_neg (by omega)])))
                  refine wpAny_take (i := 19) (v := ?_) rfl (by kernel_rfl) (by kernel_rfl) (by kernel_rfl) (fun _ _ _ h => h) (Or.inl ⟨by rfl, ?_⟩) ?_
                  rotate_left
                  · (intro w_; go_simp; try (first | with_reducible rfl | (rw [if_neg (by omega)])))
                  go_simp
                  refine wpAny_take (i := 22) (v := ?_) rfl (by kernel_rfl) (by kernel_rfl) (by kernel_rfl) (fun _ _ _ h => h) (Or.inl ⟨by rfl, ?_⟩) ?_
                  rotate_left
                  · (intro w_; go_simp; try (first | with_reducible rfl | (rw [if_neg (by omega)])))
                  refine wpAny_take (i := 23) (v := ?_) rfl (by kernel_rfl) (by kernel_rfl) (by kernel_rfl) (fun _ _ _ h => h) (Or.inl ⟨by rfl, ?_⟩) ?_
                  rotate_left
                  · (intro w_; go_simp; try (first | with_reducible rfl | (rw [if_neg (by omega)])))
                  go_simp
                  refine wpAny_take (i := 24) (v := ?_) rfl (by kernel_rfl) (by kernel_rfl) (by kernel_rfl) (fun _ _ _ h => h) (Or.inl ⟨by rfl, ?_⟩) ?_
                  rotate_left
                  · (intro w_; go_simp; try (first | with_reducible rfl | (rw [if_neg (by omega)])))
                  go_simp
                  refine wpAny_ready (rs := [20]) (by kernel_rfl) (by simp) ?_
                  refine AllReady.cons rfl (fun K hK => ?_) ?_
                  · -- operation 20
                    have kk := kb w6
                    go_simp
                    (first | (refine hK _ _ ?_; clear hK K kk) | clear kk)
                    refine wpAny_ready (rs := [21]) (by kernel_rfl) (by simp) ?_
                    refine AllReady.cons rfl (fun K hK => ?_) ?_
                    · -- operation 21
                      go_simp
                      go_wp2_with (refine (HCL.out w6 HB.out).mono ?_; rintro e w7 ⟨rfl, hb7⟩; have HB4 := Aside0.mk hb7; clear HB; have HB := HB4; clear HB4 hb7)
                      (first | (refine hK _ _ ?_; clear hK K) | skip)
                      refine wpAny_take (i := 25) (v := ?_) rfl (by kernel_rfl) (by kernel_rfl) (by kernel_rfl) (fun _ _ _ h => h) (Or.inl ⟨by rfl, ?_⟩) ?_
                      rotate_left
                      · (intro w_; go_simp; try (first | with_reducible rfl | (rw [if_neg (by omega)])))
                      go_simp
                      refine wpAny_take (i := 26) (v := ?_) rfl (by kernel_rfl) (by kernel_rfl) (by kernel_rfl) (fun _ _ _ h => h) (Or.inl ⟨by rfl, ?_⟩) ?_
                      rotate_left
                      · (intro w_; go_simp; try (first | with_reducible rfl | (rw [if_neg (by omega)])))
                      go_simp
                      refine wpAny_take (i := 27) (v := ?_) rfl (by kernel_rfl) (by kernel_rfl) (by kernel_rfl) (fun _ _ _ h => h) (Or.inl ⟨by rfl, ?_⟩) ?_
                      rotate_left
                      · (intro w_; go_simp; try (first | with_reducible rfl | (rw [if_neg (by omega)])))
                      refine wpAny_done (by kernel_rfl) ?_ _
                      go_wp2
                      go_ret
                      exact ⟨rfl, HB.out⟩
                    exact AllReady.nil
                  exact AllReady.nil
                exact AllReady.nil
              refine AllReady.cons rfl (fun K hK => ?_) ?_
              · -- operation 12
                have kk := K3.out w6 (by first | exact Below.refl _ _ | exact HB5.out | exact HB6.out | exact HB5.out.trans (HB6.out.mono HB5.out.size))
                go_simp
                (first | (refine hK _ _ ?_; clear hK K kk) | clear kk)
                refine wpAny_take (i := 13) (v := ?_) rfl (by kernel_rfl) (by kernel_rfl) (by kernel_rfl) (fun _ _ _ h => h) (Or.inl ⟨by rfl, ?_⟩) ?_
                rotate_left
                · (intro w_; go_simp; try (first | with_reducible rfl | (rw [if_neg (by omega)])))
                refine wpAny_ready (rs := [6]) (by kernel_rfl) (by simp) ?_
                refine AllReady.cons rfl (fun K hK => ?_) ?_
                · -- operation 6
                  have kk := K1.out w6 (by first | exact Below.refl _ _ | exact HB5.out | exact HB6.out | exact HB5.out.trans (HB6.out.mono HB5.out.size))
                  go_simp
                  (first | (refine hK _ _ ?_; clear hK K kk) | clear kk)
                  refine wpAny_take (i := 14) (v := ?_) rfl (by kernel_rfl) (by kernel_rfl) (by kernel_rfl) (fun _ _ _ h => h) (Or.inl ⟨by rfl, ?_⟩) ?_
                  rotate_left
                  · (intro w_; go_simp; try (first | with_reducible rfl | (rw [if_neg (by omega)])))
                  go_simp
                  refine wpAny_take (i := 15) (v := ?_) rfl (by kernel_rfl) (by kernel_rfl) (by kernel_rfl) (fun _ _ _ h => h) (Or.inl ⟨by rfl, ?_⟩) ?_
                  rotate_left
                  · (intro w_; go_simp; try (first | with_reducible rfl | (rw [if_neg (by omega)])))
                  refine wpAny_take (i := 16) (v := ?_) rfl (by kernel_rfl) (by kernel_rfl) (by kernel_rfl) (fun _ _ _ h => h) (Or.inl ⟨by rfl, ?_⟩) ?_
                  rotate_left
                  · (intro w_; go_simp; try (first | with_reducible rfl | (rw [if_neg (by omega)])))
                  go_simp
                  refine wpAny_take (i := 17) (v := ?_) rfl (by kernel_rfl) (by kernel_rfl) (by kernel_rfl) (fun _ _ _ h => h) (Or.inl ⟨by rfl, ?_⟩) ?_
                  rotate_left
                  · (intro w_; go_simp; try (first | with_reducible rfl | (rw [if_neg (by omega)])))
                  refine wpAny_take (i := 18) (v := ?_) rfl (by kernel_rfl) (by kernel_rfl) (by kernel_rfl) (fun _ _ _ h => h) (Or.inl ⟨by rfl, ?_⟩) ?_
                  rotate_left
                  · (intro w_; go_simp; try (first | with_reducible rfl | (rw [if_neg (by omega)])))
                  refine wpAny_take (i := 19) (v := ?_) rfl (by kernel_rfl) (by kernel_rfl) (by kernel_rfl) (fun _ _ _ h => h) (Or.inl ⟨by rfl, ?_⟩) ?_
                  rotate_left
                  · (intro w_; go_simp; try (first | with_reducible rfl | (rw [if_neg (by omega)])))
                  go_simp
                  refine wpAny_take (i := 22) (v := ?_) rfl (by kernel_rfl) (by kernel_rfl) (by kernel_rfl) (fun _ _ _ h => h) (Or.inl ⟨by rfl, ?_⟩) ?_
                  rotate_left
                  · (intro w_; go_simp; try (first | with_reducible rfl | (rw [if_neg (by omega)])))
                  refine wpAny_take (i := 23) (v := ?_) rfl (by kernel_rfl) (by kernel_rfl) (by kernel_rfl) (fun _ _ _ h => h) (Or.inl ⟨by rfl, ?_⟩) ?_
                  rotate_left
                  · (intro w_; go_simp; try (first | with_reducible rfl | (rw [if_neg (by omega)])))
                  go_simp
                  refine wpAny_take (i := 24) (v := ?_) rfl (by kernel_rfl) (by kernel_rfl) (by kernel_rfl) (fun _ _ _ h => h) (Or.inl ⟨by rfl, ?_⟩) ?_
                  rotate_left
                  · (intro w_; go_simp; try (first | with_reducible rfl | (rw [if_neg (by omega)])))
                  go_simp
                  refine wpAny_ready (rs := [20]) (by kernel_rfl) (by simp) ?_
                  refine AllReady.cons rfl (fun K hK => ?_) ?_
                  · -- operation 20
                    have kk := kb w6
                    go_simp
                    (first | (refine hK _ _ ?_; clear hK K kk) | clear kk)
                    refine wpAny_ready (rs := [21]) (by kernel_rfl) (by simp) ?_
                    refine AllReady.cons rfl (fun K hK => ?_) ?_
                    · -- operation 21
                      go_simp
                      go_wp2_with (refine (HCL.out w6 HB.out).mono ?_; rintro e w7 ⟨rfl, hb7⟩; have HB4 := Aside0.mk hb7; clear HB; have HB := HB4; clear HB4 hb7)
                      (first | (refine hK _ _ ?_; clear hK K) | skip)
                      refine wpAny_take (i := 25) (v := ?_) rfl (by kernel_rfl) (by kernel_rfl) (by kernel_rfl) (fun _ _ _ h => h) (Or.inl ⟨by rfl, ?_⟩) ?_
                      rotate_left
                      · (intro w_; go_simp; try (first | with_reducible rfl | (rw [if_neg (by omega)])))
                      go_simp
                      refine wpAny_take (i := 26) (v := ?_) rfl (by kernel_rfl) (by kernel_rfl) (by kernel_rfl) (fun _ _ _ h => h) (Or.inl ⟨by rfl, ?_⟩) ?_
                      rotate_left
                      · (intro w_; go_simp; try (first | with_reducible rfl | (rw [if_neg (by omega)])))
                      go_simp
                      refine wpAny_take (i := 27) (v := ?_) rfl (by kernel_rfl) (by kernel_rfl) (by kernel_rfl) (fun _ _ _ h => h) (Or.inl ⟨by rfl, ?_⟩) ?_
                      rotate_left
                      · (intro w_; go_simp; try (first | with_reducible rfl | (rw [if_neg (by omega)])))
                      refine wpAny_done (by kernel_rfl) ?_ _
                      go_wp2
                      go_ret
                      exact ⟨rfl, HB.out⟩
                    exact AllReady.nil
                  exact AllReady.nil
                exact AllReady.nil
              exact AllReady.nil
            exact AllReady.nil
          refine AllReady.cons rfl (fun K hK => ?_) ?_
          · -- operation 11
            go_simp
            go_wp2_with (refine (text_Runes.calls Y n3 _ ?_ HT.out.f3).mono ?_; exact HL.out.go HB.out; rintro e w6 ⟨v3_, rfl, hR_, hb_⟩; obtain ⟨A3, c3, rfl, hcn_, hC_⟩ := Kd.R_reads hR_; have K3 := Aside0.mk (show ∀ W, Below w6.heap.size w6 W → (convert 33 9 (.slice A3 n3.length c3)).run Tryd.prog W = .ok (.string Y) W from (fun W hW => by have h := runes_strS n3 A3 c3 W (Kd.C_below hC_ hW); rw [HT.out.r3] at h; exact h)); have HB4 := Aside0.mk (HB.out.trans (hb_.mono HB.out.size)); have HB6 := Aside0.mk hb_; clear HB; have HB := HB4; clear HB4 hR_ hC_ hb_)
            (first | (refine hK _ _ ?_; clear hK K) | skip)
            refine wpAny_ready (rs := [6, 9, 12]) (by kernel_rfl) (by simp) ?_
            refine AllReady.cons rfl (fun K hK => ?_) ?_
            · -- operation 6
              have kk := K1.out w6 (by first | exact Below.refl _ _ | exact HB5.out | exact HB6.out | exact HB5.out.trans (HB6.out.mono HB5.out.size))
              go_simp
              (first | (refine hK _ _ ?_; clear hK K kk) | clear kk)
              refine wpAny_ready (rs := [9, 12]) (by kernel_rfl) (by simp) ?_
              refine AllReady.cons rfl (fun K hK => ?_) ?_
              · -- operation 9
                have kk := K2.out w6 (by first | exact Below.refl _ _ | exact HB5.out | exact HB6.out | exact HB5.out.trans (HB6.out.mono HB5.out.size))
                go_simp
                (first | (refine hK _ _ ?_; clear hK K kk) | clear kk)
                refine wpAny_ready (rs := [12]) (by kernel_rfl) (by simp) ?_
                refine AllReady.cons rfl (fun K hK => ?_) ?_
                · -- operation 12
                  have kk := K3.out w6 (by first | exact Below.refl _ _ | exact HB5.out | exact HB6.out | exact HB5.out.trans (HB6.out.mono HB5.out.size))
                  go_simp
                  (first | (refine hK _ _ ?_; clear hK K kk) | clear kk)
                  refine wpAny_take (i := 13) (v := ?_) rfl (by kernel_rfl) (by kernel_rfl) (by kernel_rfl) (fun _ _ _ h => h) (Or.inl ⟨by rfl, ?_⟩) ?_
                  rotate_left
                  · (intro w_; go_simp; try (first | with_reducible rfl | (rw [if_neg (by omega)])))
                  refine wpAny_take (i := 14) (v := ?_) rfl (by kernel_rfl) (by kernel_rfl) (by kernel_rfl) (fun _ _ _ h => h) (Or.inl ⟨by rfl, ?_⟩) ?_
                  rotate_left
                  · (intro w_; go_simp; try (first | with_reducible rfl | (rw [if_neg (by omega)])))
                  go_simp
                  refine wpAny_take (i := 15) (v := ?_) rfl (by kernel_rfl) (by kernel_rfl) (by kernel_rfl) (fun _ _ _ h => h) (Or.inl ⟨by rfl, ?_⟩) ?_
                  rotate_left
                  · (intro w_; go_simp; try (first | with_reducible rfl | (rw [if_neg (by omega)])))
                  refine wpAny_take (i := 16) (v := ?_) rfl (by kernel_rfl) (by kernel_rfl) (by kernel_rfl) (fun _ _ _ h => h) (Or.inl ⟨by rfl, ?_⟩) ?_
                  rotate_left
                  · (intro w_; go_simp; try (first | with_reducible rfl | (rw [if_neg (by omega)])))
                  go_simp
                  refine wpAny_take (i := 17) (v := ?_) rfl (by kernel_rfl) (by kernel_rfl) (by kernel_rfl) (fun _ _ _ h => h) (Or.inl ⟨by rfl, ?_⟩) ?_
                  rotate_left
                  · (intro w_; go_simp; try (first | with_reducible rfl | (rw [if_neg (by omega)])))
                  refine wpAny_take (i := 18) (v := ?_) rfl (by kernel_rfl) (by kernel_rfl) (by kernel_rfl) (fun _ _ _ h => h) (Or.inl ⟨by rfl, ?_⟩) ?_
                  rotate_left
                  · (intro w_; go_simp; try (first | with_reducible rfl | (rw [if_neg (by omega)])))
                  refine wpAny_take (i := 19) (v := ?_) rfl (by kernel_rfl) (by kernel_rfl) (by kernel_rfl) (fun _ _ _ h => h) (Or.inl ⟨by rfl, ?_⟩) ?_
                  rotate_left
                  · (intro w_; go_simp; try (first | with_reducible rfl | (rw [if_neg (by omega)])))
                  go_simp
                  refine wpAny_take (i := 22) (v := ?_) rfl (by kernel_rfl) (by kernel_rfl) (by kernel_rfl) (fun _ _ _ h => h) (Or.inl ⟨by rfl, ?_⟩) ?_
                  rotate_left
                  · (intro w_; go_simp; try (first | with_reducible rfl | (rw [if_neg (by omega)])))
                  refine wpAny_take (i := 23) (v := ?_) rfl (by kernel_rfl) (by kernel_rfl) (by kernel_rfl) (fun _ _ _ h => h) (Or.inl ⟨by rfl, ?_⟩) ?_
                  rotate_left
                  · (intro w_; go_simp; try (first | with_reducible rfl | (rw [if_neg (by omega)])))
                  go_simp
                  refine wpAny_take (i := 24) (v := ?_) rfl (by kernel_rfl) (by kernel_rfl) (by kernel_rfl) (fun _ _ _ h => h) (Or.inl ⟨by rfl, ?_⟩) ?_
                  rotate_left
                  · (intro w_; go_simp; try (first | with_reducible rfl | (rw [if_neg (by omega)])))
                  go_simp
                  refine wpAny_ready (rs := [20]) (by kernel_rfl) (by simp) ?_
                  refine AllReady.cons rfl (fun K hK => ?_) ?_
                  · -- operation 20
                    have kk := kb w6
                    go_simp
                    (first | (refine hK _ _ ?_; clear hK K kk) | clear kk)
                    refine wpAny_ready (rs := [21]) (by kernel_rfl) (by simp) ?_
                    refine AllReady.cons rfl (fun K hK => ?_) ?_
                    · -- operation 21
                      go_simp
                      go_wp2_with (refine (HCL.out w6 HB.out).mono ?_; rintro e w7 ⟨rfl, hb7⟩; have HB4 := Aside0.mk hb7; clear HB; have HB := HB4; clear HB4 hb7)
                      (first | (refine hK _ _ ?_; clear hK K) | skip)
                      refine wpAny_take (i := 25) (v := ?_) rfl (by kernel_rfl) (by kernel_rfl) (by kernel_rfl) (fun _ _ _ h => h) (Or.inl ⟨by rfl, ?_⟩) ?_
                      rotate_left
                      · (intro w_; go_simp; try (first | with_reducible rfl | (rw [if_neg (by omega)])))
                      go_simp
                      refine wpAny_take (i := 26) (v := ?_) rfl (by kernel_rfl) (by kernel_rfl) (by kernel_rfl) (fun _ _ _ h => h) (Or.inl ⟨by rfl, ?_⟩) ?_
                      rotate_left
                      · (intro w_; go_simp; try (first | with_reducible rfl | (rw [if_neg (by omega)])))
                      go_simp
                      refine wpAny_take (i := 27) (v := ?_) rfl (by kernel_rfl) (by kernel_rfl) (by kernel_rfl) (fun _ _ _ h => h) (Or.inl ⟨by rfl, ?_⟩) ?_
                      rotate_left
                      · (intro w_; go_simp; try (first | with_reducible rfl | (rw [if_neg (by omega)])))
                      refine wpAny_done (by kernel_rfl) ?_ _
                      go_wp2
                      go_ret
                      exact ⟨rfl, HB.out⟩
                    exact AllReady.nil
                  exact AllReady.nil
                exact AllReady.nil
              refine AllReady.cons rfl (fun K hK => ?_) ?_
              · -- operation 12
                have kk := K3.out w6 (by first | exact Below.refl _ _ | exact HB5.out | exact HB6.out | exact HB5.out.trans (HB6.out.mono HB5.out.size))
                go_simp
                (first | (refine hK _ _ ?_; clear hK K kk) | clear kk)
                refine wpAny_ready (rs := [9]) (by kernel_rfl) (by simp) ?_
                refine AllReady.cons rfl (fun K hK => ?_) ?_
                · -- operation 9
                  have kk := K2.out w6 (by first | exact Below.refl _ _ | exact HB5.out | exact HB6.out | exact HB5.out.trans (HB6.out.mono HB5.out.size))
                  go_simp
                  (first | (refine hK _ _ ?_; clear hK K kk) | clear kk)
                  refine wpAny_take (i := 13) (v := ?_) rfl (by kernel_rfl) (by kernel_rfl) (by kernel_rfl) (fun _ _ _ h => h) (Or.inl ⟨by rfl, ?_⟩) ?_
                  rotate_left
                  · (intro w_; go_simp; try (first | with_reducible rfl | (rw [if_neg (by omega)])))
                  refine wpAny_take (i := 14) (v := ?_) rfl (by kernel_rfl) (by kernel_rfl) (by kernel_rfl) (fun _ _ _ h => h) (Or.inl ⟨by rfl, ?_⟩) ?_
                  rotate_left
                  · (intro w_; go_simp; try (first | with_reducible rfl | (rw [if_neg (by omega)])))
                  go_simp
                  refine wpAny_take (i := 15) (v := ?_) rfl (by kernel_rfl) (by kernel_rfl) (by kernel_rfl) (fun _ _ _ h => h) (Or.inl ⟨by rfl, ?_⟩) ?_
                  rotate_left
                  · (intro w_; go_simp; try (first | with_reducible rfl | (rw [if_neg (by omega)])))
                  refine wpAny_take (i := 16) (v := ?_) rfl (by kernel_rfl) (by kernel_rfl) (by kernel_rfl) (fun _ _ _ h => h) (Or.inl ⟨by rfl, ?_⟩) ?_
                  rotate_left
                  · (intro w_; go_simp; try (first | with_reducible rfl | (rw [if_neg (by omega)])))
                  go_simp
                  refine wpAny_take (i := 17) (v := ?_) rfl (by kernel_rfl) (by kernel_rfl) (by kernel_rfl) (fun _ _ _ h => h) (Or.inl ⟨by rfl, ?_⟩) ?_
                  rotate_left
                  · (intro w_; go_simp; try (first | with_reducible rfl | (rw [if_neg (by omega)])))
                  refine wpAny_take (i := 18) (v := ?_) rfl (by kernel_rfl) (by kernel_rfl) (by kernel_rfl) (fun _ _ _ h => h) (Or.inl ⟨by rfl, ?_⟩) ?_
                  rotate_left
                  · (intro w_; go_simp; try (first | with_reducible rfl | (rw [if_neg (by omega)])))
                  refine wpAny_take (i := 19) (v := ?_) rfl (by kernel_rfl) (by kernel_rfl) (by kernel_rfl) (fun _ _ _ h => h) (Or.inl ⟨by rfl, ?_⟩) ?_
                  rotate_left
                  · (intro w_; go_simp; try (first | with_reducible rfl | (rw [if_neg (by omega)])))
                  go_simp
                  refine wpAny_take (i := 22) (v := ?_) rfl (by kernel_rfl) (by kernel_rfl) (by kernel_rfl) (fun _ _ _ h => h) (Or.inl ⟨by rfl, ?_⟩) ?_
                  rotate_left
                  · (intro w_; go_simp; try (first | with_reducible rfl | (rw [if_neg (by omega)])))
                  refine wpAny_take (i := 23) (v := ?_) rfl (by kernel_rfl) (by kernel_rfl) (by kernel_rfl) (fun _ _ _ h => h) (Or.inl ⟨by rfl, ?_⟩) ?_
                  rotate_left
                  · (intro w_; go_simp; try (first | with_reducible rfl | (rw [if_neg (by omega)])))
                  go_simp
                  refine wpAny_take (i := 24) (v := ?_) rfl (by kernel_rfl) (by kernel_rfl) (by kernel_rfl) (fun _ _ _ h => h) (Or.inl ⟨by rfl, ?_⟩) ?_
                  rotate_left
                  · (intro w_; go_simp; try (first | with_reducible rfl | (rw [if_neg (by omega)])))
                  go_simp
                  refine wpAny_ready (rs := [20]) (by kernel_rfl) (by simp) ?_
                  refine AllReady.cons rfl (fun K hK => ?_) ?_
                  · -- operation 20
                    have kk := kb w6
                    go_simp
                    (first | (refine hK _ _ ?_; clear hK K kk) | clear kk)
                    refine wpAny_ready (rs := [21]) (by kernel_rfl) (by simp) ?_
                    refine AllReady.cons rfl (fun K hK => ?_) ?_
                    · -- operation 21
                      go_simp
                      go_wp2_with (refine (HCL.out w6 HB.out).mono ?_; rintro e w7 ⟨rfl, hb7⟩; have HB4 := Aside0.mk hb7; clear HB; have HB := HB4; clear HB4 hb7)
                      (first | (refine hK _ _ ?_; clear hK K) | skip)
                      refine wpAny_take (i := 25) (v := ?_) rfl (by kernel_rfl) (by kernel_rfl) (by kernel_rfl) (fun _ _ _ h => h) (Or.inl ⟨by rfl, ?_⟩) ?_
                      rotate_left
                      · (intro w_; go_simp; try (first | with_reducible rfl | (rw [if_neg (by omega)])))
                      go_simp
                      refine wpAny_take (i := 26) (v := ?_) rfl (by kernel_rfl) (by kernel_rfl) (by kernel_rfl) (fun _ _ _ h => h) (Or.inl ⟨by rfl, ?_⟩) ?_
                      rotate_left
                      · (intro w_; go_simp; try (first | with_reducible rfl | (rw [if_neg (by omega)])))
                      go_simp
                      refine wpAny_take (i := 27) (v := ?_) rfl (by kernel_rfl) (by kernel_rfl) (by kernel_rfl) (fun _ _ _ h => h) (Or.inl ⟨by rfl, ?_⟩) ?_
                      rotate_left
                      · (intro w_; go_simp; try (first | with_reducible rfl | (rw [if_neg (by omega)])))
                      refine wpAny_done (by kernel_rfl) ?_ _
                      go_wp2
                      go_ret
                      exact ⟨rfl, HB.out⟩
                    exact AllReady.nil
                  exact AllReady.nil
                exact AllReady.nil
              exact AllReady.nil
            refine AllReady.cons rfl (fun K hK => ?_) ?_
            · -- operation 9
              have kk := K2.out w6 (by first | exact Below.refl _ _ | exact HB5.out | exact HB6.out | exact HB5.out.trans (HB6.out.mono HB5.out.size))
              go_simp
              (first | (refine hK _ _ ?_; clear hK K kk) | clear kk)
              refine wpAny_ready (rs := [6, 12]) (by kernel_rfl) (by simp) ?_
              refine AllReady.cons rfl (fun K hK => ?_) ?_
              · -- operation 6
                have kk := K1.out w6 (by first | exact Below.refl _ _ | exact HB5.out | exact HB6.out | exact HB5.out.trans (HB6.out.mono HB5.out.size))
                go_simp
                (first | (refine hK _ _ ?_; clear hK K kk) | clear kk)
                refine wpAny_ready (rs := [12]) (by kernel_rfl) (by simp) ?_
                refine AllReady.cons rfl (fun K hK => ?_) ?_
                · -- operation 12
                  have kk := K3.out w6 (by first | exact Below.refl _ _ | exact HB5.out | exact HB6.out | exact HB5.out.trans (HB6.out.mono HB5.out.size))
                  go_simp
                  (first | (refine hK _ _ ?_; clear hK K kk) | clear kk)
                  refine wpAny_take (i := 13) (v := ?_) rfl (by kernel_rfl) (by kernel_rfl) (by kernel_rfl) (fun _ _ _ h => h) (Or.inl ⟨by rfl, ?_⟩) ?_
                  rotate_left
                  · (intro w_; go_simp; try (first | with_reducible rfl | (rw [if_neg (by omega)])))
                  refine wpAny_take (i := 14) (v := ?_) rfl (by kernel_rfl) (by kernel_rfl) (by kernel_rfl) (fun _ _ _ h => h) (Or.inl ⟨by rfl, ?_⟩) ?_
                  rotate_left
                  · (intro w_; go_simp; try (first | with_reducible rfl | (rw [if_neg (by omega)])))
                  go_simp
                  refine wpAny_take (i := 15) (v := ?_) rfl (by kernel_rfl) (by kernel_rfl) (by kernel_rfl) (fun _ _ _ h => h) (Or.inl ⟨by rfl, ?_⟩) ?_
                  rotate_left
                  · (intro w_; go_simp; try (first | with_reducible rfl | (rw [if_neg (by omega)])))
                  refine wpAny_take (i := 16) (v := ?_) rfl (by kernel_rfl) (by kernel_rfl) (by kernel_rfl) (fun _ _ _ h => h) (Or.inl ⟨by rfl, ?_⟩) ?_
                  rotate_left
                  · (intro w_; go_simp; try (first | with_reducible rfl | (rw [if_neg (by omega)])))
                  go_simp
                  refine wpAny_take (i := 17) (v := ?_) rfl (by kernel_rfl) (by kernel_rfl) (by kernel_rfl) (fun _ _ _ h => h) (Or.inl ⟨by rfl, ?_⟩) ?_
                  rotate_left
                  · (intro w_; go_simp; try (first | with_reducible rfl | (rw [if_neg (by omega)])))
                  refine wpAny_take (i := 18) (v := ?_) rfl (by kernel_rfl) (by kernel_rfl) (by kernel_rfl) (fun _ _ _ h => h) (Or.inl ⟨by rfl, ?_⟩) ?_
                  rotate_left
                  · (intro w_; go_simp; try (first | with_reducible rfl | (rw [if_neg (by omega)])))
                  refine wpAny_take (i := 19) (v := ?_) rfl (by kernel_rfl) (by kernel_rfl) (by kernel_rfl) (fun _ _ _ h => h) (Or.inl ⟨by rfl, ?_⟩) ?_
                  rotate_left
                  · (intro w_; go_simp; try (first | with_reducible rfl | (rw [if_neg (by omega)])))
                  go_simp
                  refine wpAny_take (i := 22) (v := ?_) rfl (by kernel_rfl) (by kernel_rfl) (by kernel_rfl) (fun _ _ _ h => h) (Or.inl ⟨by rfl, ?_⟩) ?_
                  rotate_left
                  · (intro w_; go_simp; try (first | with_reducible rfl | (rw [if_neg (by omega)])))
                  refine wpAny_take (i := 23) (v := ?_) rfl (by kernel_rfl) (by kernel_rfl) (by kernel_rfl) (fun _ _ _ h => h) (Or.inl ⟨by rfl, ?_⟩) ?_
                  rotate_left
                  · (intro w_; go_simp; try (first | with_reducible rfl | (rw [if_neg (by omega)])))
                  go_simp
                  refine wpAny_take (i := 24) (v := ?_) rfl (by kernel_rfl) (by kernel_rfl) (by kernel_rfl) (fun _ _ _ h => h) (Or.inl ⟨by rfl, ?_⟩) ?_
                  rotate_left
                  · (intro w_; go_simp; try (first | with_reducible rfl | (rw [if_neg (by omega)])))
                  go_simp
                  refine wpAny_ready (rs := [20]) (by kernel_rfl) (by simp) ?_
                  refine AllReady.cons rfl (fun K hK => ?_) ?_
                  · -- operation 20
                    have kk := kb w6
                    go_simp
                    (first | (refine hK _ _ ?_; clear hK K kk) | clear kk)
                    refine wpAny_ready (rs := [21]) (by kernel_rfl) (by simp) ?_
                    refine AllReady.cons rfl (fun K hK => ?_) ?_
                    · -- operation 21
                      go_simp
                      go_wp2_with (refine (HCL.out w6 HB.out).mono ?_; rintro e w7 ⟨rfl, hb7⟩; have HB4 := Aside0.mk hb7; clear HB; have HB := HB4; clear HB4 hb7)
                      (first | (refine hK _ _ ?_; clear hK K) | skip)
                      refine wpAny_take (i := 25) (v := ?_) rfl (by kernel_rfl) (by kernel_rfl) (by kernel_rfl) (fun _ _ _ h => h) (Or.inl ⟨by rfl, ?_⟩) ?_
                      rotate_left
                      · (intro w_; go_simp; try (first | with_reducible rfl | (rw [if_neg (by omega)])))
                      go_simp
                      refine wpAny_take (i := 26) (v := ?_) rfl (by kernel_rfl) (by kernel_rfl) (by kernel_rfl) (fun _ _ _ h => h) (Or.inl ⟨by rfl, ?_⟩) ?_
                      rotate_left
                      · (intro w_; go_simp; try (first | with_reducible rfl | (rw [if_neg (by omega)])))
                      go_simp
                      refine wpAny_take (i := 27) (v := ?_) rfl (by kernel_rfl) (by kernel_rfl) (by kernel_rfl) (fun _ _ _ h => h) (Or.inl ⟨by rfl, ?_⟩) ?_
                      rotate_left
                      · (intro w_; go_simp; try (first | with_reducible rfl | (rw [if_neg (by omega)])))
                      refine wpAny_done (by kernel_rfl) ?_ _
                      go_wp2
                      go_ret
                      exact ⟨rfl, HB.out⟩
                    exact AllReady.nil
                  exact AllReady.nil
                exact AllReady.nil
              refine AllReady.cons rfl (fun K hK => ?_) ?_
              · -- operation 12
                have kk := K3.out w6 (by first | exact Below.refl _ _ | exact HB5.out | exact HB6.out | exact HB5.out.trans (HB6.out.mono HB5.out.size))
                go_simp
                (first | (refine hK _ _ ?_; clear hK K kk) | clear kk)
                refine wpAny_take (i := 13) (v := ?_) rfl (by kernel_rfl) (by kernel_rfl) (by kernel_rfl) (fun _ _ _ h => h) (Or.inl ⟨by rfl, ?_⟩) ?_
                rotate_left
                · (intro w_; go_simp; try (first | with_reducible rfl | (rw [if_neg (by omega)])))
                refine wpAny_ready (rs := [6]) (by kernel_rfl) (by simp) ?_
                refine AllReady.cons rfl (fun K hK => ?_) ?_
                · -- operation 6
                  have kk := K1.out w6 (by first | exact Below.refl _ _ | exact HB5.out | exact HB6.out | exact HB5.out.trans (HB6.out.mono HB5.out.size))
                  go_simp
                  (first | (refine hK _ _ ?_; clear hK K kk) | clear kk)
                  refine wpAny_take (i := 14) (v := ?_) rfl (by kernel_rfl) (by kernel_rfl) (by kernel_rfl) (fun _ _ _ h => h) (Or.inl ⟨by rfl, ?_⟩) ?_
                  rotate_left
                  · (intro w_; go_simp; try (first | with_reducible rfl | (rw [if_neg (by omega)])))
                  go_simp
                  refine wpAny_take (i := 15) (v := ?_) rfl (by kernel_rfl) (by kernel_rfl) (by kernel_rfl) (fun _ _ _ h => h) (Or.inl ⟨by rfl, ?_⟩) ?_
                  rotate_left
                  · (intro w_; go_simp; try (first | with_reducible rfl | (rw [if_neg (by omega)])))
                  refine wpAny_take (i := 16) (v := ?_) rfl (by kernel_rfl) (by kernel_rfl) (by kernel_rfl) (fun _ _ _ h => h) (Or.inl ⟨by rfl, ?_⟩) ?_
                  rotate_left
                  · (intro w_; go_simp; try (first | with_reducible rfl | (rw [if_neg (by omega)])))
                  go_simp
                  refine wpAny_take (i := 17) (v := ?_) rfl (by kernel_rfl) (by kernel_rfl) (by kernel_rfl) (fun _ _ _ h => h) (Or.inl ⟨by rfl, ?_⟩) ?_
                  rotate_left
                  · (intro w_; go_simp; try (first | with_reducible rfl | (rw [if_neg (by omega)])))
                  refine wpAny_take (i := 18) (v := ?_) rfl (by kernel_rfl) (by kernel_rfl) (by kernel_rfl) (fun _ _ _ h => h) (Or.inl ⟨by rfl, ?_⟩) ?_
                  rotate_left
                  · (intro w_; go_simp; try (first | with_reducible rfl | (rw [if_neg (by omega)])))
                  refine wpAny_take (i := 19) (v := ?_) rfl (by kernel_rfl) (by kernel_rfl) (by kernel_rfl) (fun _ _ _ h => h) (Or.inl ⟨by rfl, ?_⟩) ?_
                  rotate_left
                  · (intro w_; go_simp; try (first | with_reducible rfl | (rw [if_neg (by omega)])))
                  go_simp
                  refine wpAny_take (i := 22) (v := ?_) rfl (by kernel_rfl) (by kernel_rfl) (by kernel_rfl) (fun _ _ _ h => h) (Or.inl ⟨by rfl, ?_⟩) ?_
                  rotate_left
                  · (intro w_; go_simp; try (first | with_reducible rfl | (rw [if_neg (by omega)])))
                  refine wpAny_take (i := 23) (v := ?_) rfl (by kernel_rfl) (by kernel_rfl) (by kernel_rfl) (fun _ _ _ h => h) (Or.inl ⟨by rfl, ?_⟩) ?_
                  rotate_left
                  · (intro w_; go_simp; try (first | with_reducible rfl | (rw [if_neg (by omega)])))
                  go_simp
                  refine wpAny_take (i := 24) (v := ?_) rfl (by kernel_rfl) (by kernel_rfl) (by kernel_rfl) (fun _ _ _ h => h) (Or.inl ⟨by rfl, ?_⟩) ?_
                  rotate_left
                  · (intro w_; go_simp; try (first | with_reducible rfl | (rw [if_neg (by omega)])))
                  go_simp
                  refine wpAny_ready (rs := [20]) (by kernel_rfl) (by simp) ?_
                  refine AllReady.cons rfl (fun K hK => ?_) ?_
                  · -- operation 20
                    have kk := kb w6
                    go_simp
                    (first | (refine hK _ _ ?_; clear hK K kk) | clear kk)
                    refine wpAny_ready (rs := [21]) (by kernel_rfl) (by simp) ?_
                    refine AllReady.cons rfl (fun K hK => ?_) ?_
                    · -- operation 21
                      go_simp
                      go_wp2_with (refine (HCL.out w6 HB.out).mono ?_; rintro e w7 ⟨rfl, hb7⟩; have HB4 := Aside0.mk hb7; clear HB; have HB := HB4; clear HB4 hb7)
                      (first | (refine hK _ _ ?_; clear hK K) | skip)
                      refine wpAny_take (i := 25) (v := ?_) rfl (by kernel_rfl) (by kernel_rfl) (by kernel_rfl) (fun _ _ _ h => h) (Or.inl ⟨by rfl, ?_⟩) ?_
                      rotate_left
                      · (intro w_; go_simp; try (first | with_reducible rfl | (rw [if_neg (by omega)])))
                      go_simp
                      refine wpAny_take (i := 26) (v := ?_) rfl (by kernel_rfl) (by kernel_rfl) (by kernel_rfl) (fun _ _ _ h => h) (Or.inl ⟨by rfl, ?_⟩) ?_
                      rotate_left
                      · (intro w_; go_simp; try (first | with_reducible rfl | (rw [if_neg (by omega)])))
                      go_simp
                      refine wpAny_take (i := 27) (v := ?_) rfl (by kernel_rfl) (by kernel_rfl) (by kernel_rfl) (fun _ _ _ h => h) (Or.inl ⟨by rfl, ?_⟩) ?_
                      rotate_left
                      · (intro w_; go_simp; try (first | with_reducible rfl | (rw [if_neg (by omega)])))
                      refine wpAny_done (by kernel_rfl) ?_ _
                      go_wp2
                      go_ret
                      exact ⟨rfl, HB.out⟩
                    exact AllReady.nil
                  exact AllReady.nil
                exact AllReady.nil
              exact AllReady.nil
            refine AllReady.cons rfl (fun K hK => ?_) ?_
            · -- operation 12
              have kk := K3.out w6 (by first | exact Below.refl _ _ | exact HB5.out | exact HB6.out | exact HB5.out.trans (HB6.out.mono HB5.out.size))
              go_simp
              (first | (refine hK _ _ ?_; clear hK K kk) | clear kk)
              refine wpAny_ready (rs := [6, 9]) (by kernel_rfl) (by simp) ?_
              refine AllReady.cons rfl (fun K hK => ?_) ?_
              · -- operation 6
                have kk := K1.out w6 (by first | exact Below.refl _ _ | exact HB5.out | exact HB6.out | exact HB5.out.trans (HB6.out.mono HB5.out.size))
                go_simp
                (first | (refine hK _ _ ?_; clear hK K kk) | clear kk)
                refine wpAny_ready (rs := [9]) (by kernel_rfl) (by simp) ?_
                refine AllReady.cons rfl (fun K hK => ?_) ?_
                · -- operation 9
                  have kk := K2.out w6 (by first | exact Below.refl _ _ | exact HB5.out | exact HB6.out | exact HB5.out.trans (HB6.out.mono HB5.out.size))
                  go_simp
                  (first | (refine hK _ _ ?_; clear hK K kk) | clear kk)
                  refine wpAny_take (i := 13) (v := ?_) rfl (by kernel_rfl) (by kernel_rfl) (by kernel_rfl) (fun _ _ _ h => h) (Or.inl ⟨by rfl, ?_⟩) ?_
                  rotate_left
                  · (intro w_; go_simp; try (first | with_reducible rfl | (rw [if_neg (by omega)])))
                  refine wpAny_take (i := 14) (v := ?_) rfl (by kernel_rfl) (by kernel_rfl) (by kernel_rfl) (fun _ _ _ h => h) (Or.inl ⟨by rfl, ?_⟩) ?_
                  rotate_left
                  · (intro w_; go_simp; try (first | with_reducible rfl | (rw [if_neg (by omega)])))
                  go_simp
                  refine wpAny_take (i := 15) (v := ?_) rfl (by kernel_rfl) (by kernel_rfl) (by kernel_rfl) (fun _ _ _ h => h) (Or.inl ⟨by rfl, ?_⟩) ?_
                  rotate_left
                  · (intro w_; go_simp; try (first | with_reducible rfl | (rw [if_neg (by omega)])))
                  refine wpAny_take (i := 16) (v := ?_) rfl (by kernel_rfl) (by kernel_rfl) (by kernel_rfl) (fun _ _ _ h => h) (Or.inl ⟨by rfl, ?_⟩) ?_
                  rotate_left
                  · (intro w_; go_simp; try (first | with_reducible rfl | (rw [if_neg (by omega)])))
                  go_simp
                  refine wpAny_take (i := 17) (v := ?_) rfl (by kernel_rfl) (by kernel_rfl) (by kernel_rfl) (fun _ _ _ h => h) (Or.inl ⟨by rfl, ?_⟩) ?_
                  rotate_left
                  · (intro w_; go_simp; try (first | with_reducible rfl | (rw [if_neg (by omega)])))
                  refine wpAny_take (i := 18) (v := ?_) rfl (by kernel_rfl) (by kernel_rfl) (by kernel_rfl) (fun _ _ _ h => h) (Or.inl ⟨by rfl, ?_⟩) ?_
                  rotate_left
                  · (intro w_; go_simp; try (first | with_reducible rfl | (rw [if_neg (by omega)])))
                  refine wpAny_take (i := 19) (v := ?_) rfl (by kernel_rfl) (by kernel_rfl) (by kernel_rfl) (fun _ _ _ h => h) (Or.inl ⟨by rfl, ?_⟩) ?_
                  rotate_left
                  · (intro w_; go_simp; try (first | with_reducible rfl | (rw [if_neg (by omega)])))
                  go_simp
                  refine wpAny_take (i := 22) (v := ?_) rfl (by kernel_rfl) (by kernel_rfl) (by kernel_rfl) (fun _ _ _ h => h) (Or.inl ⟨by rfl, ?_⟩) ?_
                  rotate_left
                  · (intro w_; go_simp; try (first | with_reducible rfl | (rw [if_neg (by omega)])))
                  refine wpAny_take (i := 23) (v := ?_) rfl (by kernel_rfl) (by kernel_rfl) (by kernel_rfl) (fun _ _ _ h => h) (Or.inl ⟨by rfl, ?_⟩) ?_
                  rotate_left
                  · (intro w_; go_simp; try (first | with_reducible rfl | (rw [if_neg (by omega)])))
                  go_simp
                  refine wpAny_take (i := 24) (v := ?_) rfl (by kernel_rfl) (by kernel_rfl) (by kernel_rfl) (fun _ _ _ h => h) (Or.inl ⟨by rfl, ?_⟩) ?_
                  rotate_left
                  · (intro w_; go_simp; try (first | with_reducible rfl | (rw [if_neg (by omega)])))
                  go_simp
                  refine wpAny_ready (rs := [20]) (by kernel_rfl) (by simp) ?_
                  refine AllReady.cons rfl (fun K hK => ?_) ?_
                  · -- operation 20
                    have kk := kb w6
                    go_simp
                    (first | (refine hK _ _ ?_; clear hK K kk) | clear kk)
                    refine wpAny_ready (rs := [21]) (by kernel_rfl) (by simp) ?_
                    refine AllReady.cons rfl (fun K hK => ?_) ?_
                    · -- operation 21
                      go_simp
                      go_wp2_with (refine (HCL.out w6 HB.out).mono ?_; rintro e w7 ⟨rfl, hb7⟩; have HB4 := Aside0.mk hb7; clear HB; have HB := HB4; clear HB4 hb7)
                      (first | (refine hK _ _ ?_; clear hK K) | skip)
                      refine wpAny_take (i := 25) (v := ?_) rfl (by kernel_rfl) (by kernel_rfl) (by kernel_rfl) (fun _ _ _ h => h) (Or.inl ⟨by rfl, ?_⟩) ?_
                      rotate_left
                      · (intro w_; go_simp; try (first | with_reducible rfl | (rw [if_neg (by omega)])))
                      go_simp
                      refine wpAny_take (i := 26) (v := ?_) rfl (by kernel_rfl) (by kernel_rfl) (by kernel_rfl) (fun _ _ _ h => h) (Or.inl ⟨by rfl, ?_⟩) ?_
                      rotate_left
                      · (intro w_; go_simp; try (first | with_reducible rfl | (rw [if_neg (by omega)])))
                      go_simp
                      refine wpAny_take (i := 27) (v := ?_) rfl (by kernel_rfl) (by kernel_rfl) (by kernel_rfl) (fun _ _ _ h => h) (Or.inl ⟨by rfl, ?_⟩) ?_
                      rotate_left
                      · (intro w_; go_simp; try (first | with_reducible rfl | (rw [if_neg (by omega)])))
                      refine wpAny_done (by kernel_rfl) ?_ _
                      go_wp2
                      go_ret
                      exact ⟨rfl, HB.out⟩
                    exact AllReady.nil
                  exact AllReady.nil
                exact AllReady.nil
              refine AllReady.cons rfl (fun K hK => ?_) ?_
              · -- operation 9
                have kk := K2.out w6 (by first | exact Below.refl _ _ | exact HB5.out | exact HB6.out | exact HB5.out.trans (HB6.out.mono HB5.out.size))
                go_simp
                (first | (refine hK _ _ ?_; clear hK K kk) | clear kk)
                refine wpAny_take (i := 13) (v := ?_) rfl (by kernel_rfl) (by kernel_rfl) (by kernel_rfl) (fun _ _ _ h => h) (Or.inl ⟨by rfl, ?_⟩) ?_
                rotate_left
                · (intro w_; go_simp; try (first | with_reducible rfl | (rw [if_neg (by omega)])))
                refine wpAny_ready (rs := [6]) (by kernel_rfl) (by simp) ?_
                refine AllReady.cons rfl (fun K hK => ?_) ?_
                · -- operation 6
                  have kk := K1.out w6 (by first | exact Below.refl _ _ | exact HB5.out | exact HB6.out | exact HB5.out.trans (HB6.out.mono HB5.out.size))
                  go_simp
                  (first | (refine hK _ _ ?_; clear hK K kk) | clear kk)
                  refine wpAny_take (i := 14) (v := ?_) rfl (by kernel_rfl) (by kernel_rfl) (by kernel_rfl) (fun _ _ _ h => h) (Or.inl ⟨by rfl, ?_⟩) ?_
                  rotate_left
                  · (intro w_; go_simp; try (first | with_reducible rfl | (rw [if_neg (by omega)])))
                  go_simp
                  refine wpAny_take (i := 15) (v := ?_) rfl (by kernel_rfl) (by kernel_rfl) (by kernel_rfl) (fun _ _ _ h => h) (Or.inl ⟨by rfl, ?_⟩) ?_
                  rotate_left
                  · (intro w_; go_simp; try (first | with_reducible rfl | (rw [if_neg (by omega)])))
                  refine wpAny_take (i := 16) (v := ?_) rfl (by kernel_rfl) (by kernel_rfl) (by kernel_rfl) (fun _ _ _ h => h) (Or.inl ⟨by rfl, ?_⟩) ?_
                  rotate_left
                  · (intro w_; go_simp; try (first | with_reducible rfl | (rw [if_neg (by omega)])))
                  go_simp
                  refine wpAny_take (i := 17) (v := ?_) rfl (by kernel_rfl) (by kernel_rfl) (by kernel_rfl) (fun _ _ _ h => h) (Or.inl ⟨by rfl, ?_⟩) ?_
                  rotate_left
                  · (intro w_; go_simp; try (first | with_reducible rfl | (rw [if_neg (by omega)])))
                  refine wpAny_take (i := 18) (v := ?_) rfl (by kernel_rfl) (by kernel_rfl) (by kernel_rfl) (fun _ _ _ h => h) (Or.inl ⟨by rfl, ?_⟩) ?_
                  rotate_left
                  · (intro w_; go_simp; try (first | with_reducible rfl | (rw [if_neg (by omega)])))
                  refine wpAny_take (i := 19) (v := ?_) rfl (by kernel_rfl) (by kernel_rfl) (by kernel_rfl) (fun _ _ _ h => h) (Or.inl ⟨by rfl, ?_⟩) ?_
                  rotate_left
                  · (intro w_; go_simp; try (first | with_reducible rfl | (rw [if_neg (by omega)])))
                  go_simp
                  refine wpAny_take (i := 22) (v := ?_) rfl (by kernel_rfl) (by kernel_rfl) (by kernel_rfl) (fun _ _ _ h => h) (Or.inl ⟨by rfl, ?_⟩) ?_
                  rotate_left
                  · (intro w_; go_simp; try (first | with_reducible rfl | (rw [if_neg (by omega)])))
                  refine wpAny_take (i := 23) (v := ?_) rfl (by kernel_rfl) (by kernel_rfl) (by kernel_rfl) (fun _ _ _ h => h) (Or.inl ⟨by rfl, ?_⟩) ?_
                  rotate_left
                  · (intro w_; go_simp; try (first | with_reducible rfl | (rw [if_neg (by omega)])))
                  go_simp
                  refine wpAny_take (i := 24) (v := ?_) rfl (by kernel_rfl) (by kernel_rfl) (by kernel_rfl) (fun _ _ _ h => h) (Or.inl ⟨by rfl, ?_⟩) ?_
                  rotate_left
                  · (intro w_; go_simp; try (first | with_reducible rfl | (rw [if_neg (by omega)])))
                  go_simp
                  refine wpAny_ready (rs := [20]) (by kernel_rfl) (by simp) ?_
                  refine AllReady.cons rfl (fun K hK => ?_) ?_
                  · -- operation 20
                    have kk := kb w6
                    go_simp
                    (first | (refine hK _ _ ?_; clear hK K kk) | clear kk)
                    refine wpAny_ready (rs := [21]) (by kernel_rfl) (by simp) ?_
                    refine AllReady.cons rfl (fun K hK => ?_) ?_
                    · -- operation 21
                      go_simp
                      go_wp2_with (refine (HCL.out w6 HB.out).mono ?_; rintro e w7 ⟨rfl, hb7⟩; have HB4 := Aside0.mk hb7; clear HB; have HB := HB4; clear HB4 hb7)
                      (first | (refine hK _ _ ?_; clear hK K) | skip)
                      refine wpAny_take (i := 25) (v := ?_) rfl (by kernel_rfl) (by kernel_rfl) (by kernel_rfl) (fun _ _ _ h => h) (Or.inl ⟨by rfl, ?_⟩) ?_
                      rotate_left
                      · (intro w_; go_simp; try (first | with_reducible rfl | (rw [if_neg (by omega)])))
                      go_simp
                      refine wpAny_take (i := 26) (v := ?_) rfl (by kernel_rfl) (by kernel_rfl) (by kernel_rfl) (fun _ _ _ h => h) (Or.inl ⟨by rfl, ?_⟩) ?_
                      rotate_left
                      · (intro w_; go_simp; try (first | with_reducible rfl | (rw [if_neg (by omega)])))
                      go_simp
                      refine wpAny_take (i := 27) (v := ?_) rfl (by kernel_rfl) (by kernel_rfl) (by kernel_rfl) (fun _ _ _ h => h) (Or.inl ⟨by rfl, ?_⟩) ?_
                      rotate_left
                      · (intro w_; go_simp; try (first | with_reducible rfl | (rw [if_neg (by omega)])))
                      refine wpAny_done (by kernel_rfl) ?_ _
                      go_wp2
                      go_ret
                      exact ⟨rfl, HB.out⟩
                    exact AllReady.nil
                  exact AllReady.nil
                exact AllReady.nil
              exact AllReady.nil
            exact AllReady.nil
          exact AllReady.nil
        exact AllReady.nil
      exact AllReady.nil
end Go.Proofs.YtondbckghchmpaaDoor.PA
