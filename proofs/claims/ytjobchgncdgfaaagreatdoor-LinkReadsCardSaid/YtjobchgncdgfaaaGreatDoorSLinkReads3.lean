/-
  Texts of the proof of LinkReads, part 3 of 5: contracts and plain laws. Conditions: see each statement.
-/
import Derived.Test.YtjobchgncdgfaaaGreatDoorSLinkReads1
import Derived.Test.YtjobchgncdgfaaaGreatDoorSLinkReads2
set_option linter.unusedVariables false
namespace Go.Proofs.YtjobchgncdgfaaaGreatDoor.PA
open Go.RowKit Go.Proofs.YtjobchgncdgfaaaGreatDoorW.PrintWords Go.Proofs.YtjobchgncdgfaaaGreatDoorW.PrintLast Go.Proofs.YtjobchgncdgfaaaGreatDoorW.PrintMore
attribute [local go_sem] max2_int min2_int max_two min_two max_three min_three max_four min_four   -- for this text's walks alone
set_option linter.unusedVariables false
set_option linter.unusedSimpArgs false





/-! ### link_White: function 18 -/
def link_White.f (a0 : ByteArray) : Option (Int) := (strings_TrimLeft.f a0 (⟨#[32, 9, 10]⟩ : ByteArray)).bind fun t101 => (some (wrap64 ((a0.size : Int) - (t101.size : Int))))
set_option maxHeartbeats 8000000 in
set_option maxRecDepth 100000 in
theorem link_White.calls (a0 : ByteArray) (r : Int) (w : World) (h : link_White.f a0 = some r) :
    Calls Tryz.prog 18 #[.string a0] w fun e w' => e = .returned (.int .i64 r) ∧ Below w.heap.size w w' := by
  have HB := Aside0.mk (Below.refl w.heap.size w)
  have H : ((strings_TrimLeft.f a0 (⟨#[32, 9, 10]⟩ : ByteArray)).bind fun t101 => (some (wrap64 ((a0.size : Int) - (t101.size : Int))))) = some r := h
  clear h
  replace H := Option.bind_eq_some_iff.mp H
  obtain ⟨t101, A20, H⟩ := H
  replace H : (some (wrap64 ((a0.size : Int) - (t101.size : Int)))) = some r := H
  have A2 := Aside0.mk A20
  clear A20
  obtain rfl := Option.some.inj H
  go_enter Tryz.func18, Tryz.ntmps18
  go_wp2_with (first | ((with_reducible refine gate_callee (f := 33) rfl ?_); refine goesL_ (some 6) rfl rfl Tryz.func33 (by kernel_rfl) rfl #[.string a0, .string (⟨#[32, 9, 10]⟩ : ByteArray)] rfl (by (try simp only [List.map_toArray, List.map_cons, List.map_nil]); first | done | rfl | (simp only [List.length_drop, List.length_take]; rfl)) ?_; (with_reducible refine (strings_TrimLeft.calls a0 (⟨#[32, 9, 10]⟩ : ByteArray) t101 _ A2.out).mono ?_); rintro e w3 ⟨rfl, hb⟩; refine ⟨_, rfl, ?_⟩; have n0_ := Aside0.mk (below_step (by repeat (first | (with_reducible first | exact HB.out | apply below_alloc | apply pw_below_drewN | apply below_drew1) | exact HB.out)) hb); clear HB; have HB := n0_; clear n0_; (try clear hb); (try clear hb2); (try clear hk); (try clear hi)))
  go_ret
  exact ⟨by first | rfl | (simp [errW_none, errW_some] <;> rfl) | (simp [*, errW_none, errW_some] <;> rfl), by repeat (first | (with_reducible first | exact HB.out | apply below_alloc | apply pw_below_drewN | apply below_drew1) | exact HB.out)⟩


/-! ### link_Tail: function 16 -/
mutual
def link_Tail.j0 : Nat → ByteArray → Int → ByteArray → ByteArray → Int → Bool → Option (ByteArray × ByteArray × Int)
  | 0, _, _, _, _, _, _ => none
  | k + 1, x0, x5, x6, x9, x10, x40 => if x40 = true then (if 0 ≤ (wrap64 (x5 + x10)) then (if (wrap64 (x5 + x10)) ≤ (x0.size : Int) then ((link_Title.f (x0.extract ((wrap64 (x5 + x10)) : Int).toNat x0.size)).bind fun bt108 => (if bt108.2 > 0 then (link_Tail.j1 k x0 (wrap64 ((wrap64 (x5 + x10)) + bt108.2)) x6 bt108.1) else (link_Tail.j1 k x0 x5 x6 x9))) else (none)) else (none)) else (link_Tail.j1 k x0 x5 x6 x9)
def link_Tail.j1 : Nat → ByteArray → Int → ByteArray → ByteArray → Option (ByteArray × ByteArray × Int)
  | 0, _, _, _, _ => none
  | k + 1, x0, x5, x6, x9 => if 0 ≤ x5 then (if x5 ≤ (x0.size : Int) then ((link_White.f (x0.extract (x5 : Int).toNat x0.size)).bind fun t110 => (if 0 ≤ (wrap64 (x5 + t110)) then (if (wrap64 (x5 + t110)) ≤ (x0.size : Int) then ((strings_HasPrefix.f (x0.extract ((wrap64 (x5 + t110)) : Int).toNat x0.size) (⟨#[41]⟩ : ByteArray)).bind fun t111 => (if t111 = true then (some (x6, x9, wrap64 ((wrap64 (x5 + t110)) + 1))) else (some ((⟨#[]⟩ : ByteArray), (⟨#[]⟩ : ByteArray), 0)))) else (none)) else (none))) else (none)) else (none)
end
def link_Tail.f (k : Nat) (a0 : ByteArray) : Option (ByteArray × ByteArray × Int) := (strings_HasPrefix.f a0 (⟨#[40]⟩ : ByteArray)).bind fun t102 => (if t102 = true then (if 1 ≤ (a0.size : Int) then ((link_White.f (a0.extract 1 a0.size)).bind fun t103 => (if 0 ≤ (wrap64 (1 + t103)) then (if (wrap64 (1 + t103)) ≤ (a0.size : Int) then ((link_Dest.f (a0.extract ((wrap64 (1 + t103)) : Int).toNat a0.size)).bind fun bt104 => (if 0 ≤ (wrap64 ((wrap64 (1 + t103)) + bt104.2.1)) then (if (wrap64 ((wrap64 (1 + t103)) + bt104.2.1)) ≤ (a0.size : Int) then ((link_White.f (a0.extract ((wrap64 ((wrap64 (1 + t103)) + bt104.2.1)) : Int).toNat a0.size)).bind fun t107 => (if bt104.2.1 > 0 then (link_Tail.j0 k a0 (wrap64 ((wrap64 (1 + t103)) + bt104.2.1)) bt104.1 (⟨#[]⟩ : ByteArray) t107 (decide (t107 > 0))) else (link_Tail.j0 k a0 (wrap64 ((wrap64 (1 + t103)) + bt104.2.1)) bt104.1 (⟨#[]⟩ : ByteArray) t107 false))) else (none)) else (none))) else (none)) else (none))) else (none)) else (some ((⟨#[]⟩ : ByteArray), (⟨#[]⟩ : ByteArray), 0)))
theorem link_Tail.mono_l : ∀ k, (∀ y0 y1 y2 y3 y4 y5, LeO (link_Tail.j0 k y0 y1 y2 y3 y4 y5) (link_Tail.j0 (k + 1) y0 y1 y2 y3 y4 y5)) ∧ (∀ y0 y1 y2 y3, LeO (link_Tail.j1 k y0 y1 y2 y3) (link_Tail.j1 (k + 1) y0 y1 y2 y3))
  | 0 => ⟨fun _ _ _ _ _ _ r h => by simp [link_Tail.j0] at h, fun _ _ _ _ r h => by simp [link_Tail.j1] at h⟩
  | k + 1 => by
    obtain ⟨ih0, ih1⟩ := link_Tail.mono_l k
    refine ⟨?_, ?_⟩
    · intro y0 y1 y2 y3 y4 y5
      unfold link_Tail.j0
      repeat' first
      | (with_reducible exact ih0 _ _ _ _ _ _)
      | (with_reducible exact ih1 _ _ _ _)
      | (with_reducible exact LeO.refl _)
      | (with_reducible exact LeO.none _)
      | (with_reducible refine LeO.ite ?_ ?_)
      | (with_reducible refine LeO.bind ?_ (fun _ => ?_))
      | exact ih0 _ _ _ _ _ _
      | exact ih1 _ _ _ _
      | exact LeO.none _
      | refine LeO.ite ?_ ?_
      | refine LeO.bind ?_ (fun _ => ?_)
    · intro y0 y1 y2 y3
      unfold link_Tail.j1
      repeat' first
      | (with_reducible exact ih0 _ _ _ _ _ _)
      | (with_reducible exact ih1 _ _ _ _)
      | (with_reducible exact LeO.refl _)
      | (with_reducible exact LeO.none _)
      | (with_reducible refine LeO.ite ?_ ?_)
      | (with_reducible refine LeO.bind ?_ (fun _ => ?_))
      | exact ih0 _ _ _ _ _ _
      | exact ih1 _ _ _ _
      | exact LeO.none _
      | refine LeO.ite ?_ ?_
      | refine LeO.bind ?_ (fun _ => ?_)
theorem link_Tail.mono : ∀ a0 k, LeO (link_Tail.f k a0) (link_Tail.f (k + 1) a0) := by
  intro a0 k
  obtain ⟨ih0, ih1⟩ := link_Tail.mono_l k
  unfold link_Tail.f
  repeat' first
      | (with_reducible exact ih0 _ _ _ _ _ _)
      | (with_reducible exact ih1 _ _ _ _)
      | (with_reducible exact LeO.refl _)
      | (with_reducible exact LeO.none _)
      | (with_reducible refine LeO.ite ?_ ?_)
      | (with_reducible refine LeO.bind ?_ (fun _ => ?_))
      | exact ih0 _ _ _ _ _ _
      | exact ih1 _ _ _ _
      | exact LeO.none _
      | refine LeO.ite ?_ ?_
      | refine LeO.bind ?_ (fun _ => ?_)
set_option maxHeartbeats 8000000 in
set_option maxRecDepth 100000 in
theorem link_Tail.calls (k : Nat) (a0 : ByteArray) (r1 : ByteArray) (r2 : ByteArray) (r3 : Int) (w : World) (hLd : Laid w) (h : link_Tail.f k a0 = some (r1, r2, r3)) :
    Calls Tryz.prog 16 #[.string a0] w fun e w' => e = .returned (.tuple #[.string r1, .string r2, .int .i64 r3]) ∧ Below w.heap.size w w' := by
  have HB := Aside0.mk (Below.refl w.heap.size w)
  have H : ((strings_HasPrefix.f a0 (⟨#[40]⟩ : ByteArray)).bind fun t102 => (if t102 = true then (if 1 ≤ (a0.size : Int) then ((link_White.f (a0.extract 1 a0.size)).bind fun t103 => (if 0 ≤ (wrap64 (1 + t103)) then (if (wrap64 (1 + t103)) ≤ (a0.size : Int) then ((link_Dest.f (a0.extract ((wrap64 (1 + t103)) : Int).toNat a0.size)).bind fun bt104 => (if 0 ≤ (wrap64 ((wrap64 (1 + t103)) + bt104.2.1)) then (if (wrap64 ((wrap64 (1 + t103)) + bt104.2.1)) ≤ (a0.size : Int) then ((link_White.f (a0.extract ((wrap64 ((wrap64 (1 + t103)) + bt104.2.1)) : Int).toNat a0.size)).bind fun t107 => (if bt104.2.1 > 0 then (link_Tail.j0 k a0 (wrap64 ((wrap64 (1 + t103)) + bt104.2.1)) bt104.1 (⟨#[]⟩ : ByteArray) t107 (decide (t107 > 0))) else (link_Tail.j0 k a0 (wrap64 ((wrap64 (1 + t103)) + bt104.2.1)) bt104.1 (⟨#[]⟩ : ByteArray) t107 false))) else (none)) else (none))) else (none)) else (none))) else (none)) else (some ((⟨#[]⟩ : ByteArray), (⟨#[]⟩ : ByteArray), 0)))) = some (r1, r2, r3) := h
  clear h
  replace H := Option.bind_eq_some_iff.mp H
  obtain ⟨t102, A20, H⟩ := H
  replace H : (if t102 = true then (if 1 ≤ (a0.size : Int) then ((link_White.f (a0.extract 1 a0.size)).bind fun t103 => (if 0 ≤ (wrap64 (1 + t103)) then (if (wrap64 (1 + t103)) ≤ (a0.size : Int) then ((link_Dest.f (a0.extract ((wrap64 (1 + t103)) : Int).toNat a0.size)).bind fun bt104 => (if 0 ≤ (wrap64 ((wrap64 (1 + t103)) + bt104.2.1)) then (if (wrap64 ((wrap64 (1 + t103)) + bt104.2.1)) ≤ (a0.size : Int) then ((link_White.f (a0.extract ((wrap64 ((wrap64 (1 + t103)) + bt104.2.1)) : Int).toNat a0.size)).bind fun t107 => (if bt104.2.1 > 0 then (link_Tail.j0 k a0 (wrap64 ((wrap64 (1 + t103)) + bt104.2.1)) bt104.1 (⟨#[]⟩ : ByteArray) t107 (decide (t107 > 0))) else (link_Tail.j0 k a0 (wrap64 ((wrap64 (1 + t103)) + bt104.2.1)) bt104.1 (⟨#[]⟩ : ByteArray) t107 false))) else (none)) else (none))) else (none)) else (none))) else (none)) else (some ((⟨#[]⟩ : ByteArray), (⟨#[]⟩ : ByteArray), 0))) = some (r1, r2, r3) := H
  have A2 := Aside0.mk A20
  clear A20
  by_cases c3 : t102 = true
  · subst c3
    have H1 : (if 1 ≤ (a0.size : Int) then ((link_White.f (a0.extract 1 a0.size)).bind fun t103 => (if 0 ≤ (wrap64 (1 + t103)) then (if (wrap64 (1 + t103)) ≤ (a0.size : Int) then ((link_Dest.f (a0.extract ((wrap64 (1 + t103)) : Int).toNat a0.size)).bind fun bt104 => (if 0 ≤ (wrap64 ((wrap64 (1 + t103)) + bt104.2.1)) then (if (wrap64 ((wrap64 (1 + t103)) + bt104.2.1)) ≤ (a0.size : Int) then ((link_White.f (a0.extract ((wrap64 ((wrap64 (1 + t103)) + bt104.2.1)) : Int).toNat a0.size)).bind fun t107 => (if bt104.2.1 > 0 then (link_Tail.j0 k a0 (wrap64 ((wrap64 (1 + t103)) + bt104.2.1)) bt104.1 (⟨#[]⟩ : ByteArray) t107 (decide (t107 > 0))) else (link_Tail.j0 k a0 (wrap64 ((wrap64 (1 + t103)) + bt104.2.1)) bt104.1 (⟨#[]⟩ : ByteArray) t107 false))) else (none)) else (none))) else (none)) else (none))) else (none)) = some (r1, r2, r3) := by rw [if_pos rfl] at H; exact H
    clear H
    have H := H1
    clear H1
    by_cases c4 : 1 ≤ (a0.size : Int)
    · rw [if_pos c4] at H
      have c4b0 := eq_true c4
      have c4b1 : decide (1 ≤ (a0.size : Int)) = true := decide_eq_true c4
      clear c4
      replace H := Option.bind_eq_some_iff.mp H
      obtain ⟨t103, A50, H⟩ := H
      replace H : (if 0 ≤ (wrap64 (1 + t103)) then (if (wrap64 (1 + t103)) ≤ (a0.size : Int) then ((link_Dest.f (a0.extract ((wrap64 (1 + t103)) : Int).toNat a0.size)).bind fun bt104 => (if 0 ≤ (wrap64 ((wrap64 (1 + t103)) + bt104.2.1)) then (if (wrap64 ((wrap64 (1 + t103)) + bt104.2.1)) ≤ (a0.size : Int) then ((link_White.f (a0.extract ((wrap64 ((wrap64 (1 + t103)) + bt104.2.1)) : Int).toNat a0.size)).bind fun t107 => (if bt104.2.1 > 0 then (link_Tail.j0 k a0 (wrap64 ((wrap64 (1 + t103)) + bt104.2.1)) bt104.1 (⟨#[]⟩ : ByteArray) t107 (decide (t107 > 0))) else (link_Tail.j0 k a0 (wrap64 ((wrap64 (1 + t103)) + bt104.2.1)) bt104.1 (⟨#[]⟩ : ByteArray) t107 false))) else (none)) else (none))) else (none)) else (none)) = some (r1, r2, r3) := H
      have A5 := Aside0.mk A50
      clear A50
      obtain ⟨ji6, hji6⟩ : ∃ j_ : Int, (wrap64 (1 + t103)) = j_ := ⟨_, rfl⟩
      replace H : (if 0 ≤ (ji6) then (if (ji6) ≤ (a0.size : Int) then ((link_Dest.f (a0.extract ((ji6) : Int).toNat a0.size)).bind fun bt104 => (if 0 ≤ (wrap64 ((ji6) + bt104.2.1)) then (if (wrap64 ((ji6) + bt104.2.1)) ≤ (a0.size : Int) then ((link_White.f (a0.extract ((wrap64 ((ji6) + bt104.2.1)) : Int).toNat a0.size)).bind fun t107 => (if bt104.2.1 > 0 then (link_Tail.j0 k a0 (wrap64 ((ji6) + bt104.2.1)) bt104.1 (⟨#[]⟩ : ByteArray) t107 (decide (t107 > 0))) else (link_Tail.j0 k a0 (wrap64 ((ji6) + bt104.2.1)) bt104.1 (⟨#[]⟩ : ByteArray) t107 false))) else (none)) else (none))) else (none)) else (none)) = some (r1, r2, r3) := by first | (rw [hji6] at H; exact H) | (simp only [hji6] at H ⊢; exact H)
      (try rw [hji6] at A2)
      (try rw [hji6] at A5)
      have hji6w : (IntKind.i64.wrap (1 + t103)) = ji6 := (i64_w _).trans hji6
      by_cases c7 : 0 ≤ (ji6)
      · rw [if_pos c7] at H
        have c7b0 := eq_true c7
        have c7b1 : decide (0 ≤ (ji6)) = true := decide_eq_true c7
        clear c7
        by_cases c8 : (ji6) ≤ (a0.size : Int)
        · rw [if_pos c8] at H
          have c8b0 := eq_true c8
          have c8b1 : decide ((ji6) ≤ (a0.size : Int)) = true := decide_eq_true c8
          clear c8
          replace H := Option.bind_eq_some_iff.mp H
          obtain ⟨⟨t104, t105, t106⟩, A90, H⟩ := H
          replace H : (if 0 ≤ (wrap64 ((ji6) + t105)) then (if (wrap64 ((ji6) + t105)) ≤ (a0.size : Int) then ((link_White.f (a0.extract ((wrap64 ((ji6) + t105)) : Int).toNat a0.size)).bind fun t107 => (if t105 > 0 then (link_Tail.j0 k a0 (wrap64 ((ji6) + t105)) t104 (⟨#[]⟩ : ByteArray) t107 (decide (t107 > 0))) else (link_Tail.j0 k a0 (wrap64 ((ji6) + t105)) t104 (⟨#[]⟩ : ByteArray) t107 false))) else (none)) else (none)) = some (r1, r2, r3) := H
          have A9 := Aside0.mk A90
          clear A90
          obtain ⟨ji10, hji10⟩ : ∃ j_ : Int, (wrap64 ((ji6) + t105)) = j_ := ⟨_, rfl⟩
          replace H : (if 0 ≤ (ji10) then (if (ji10) ≤ (a0.size : Int) then ((link_White.f (a0.extract ((ji10) : Int).toNat a0.size)).bind fun t107 => (if t105 > 0 then (link_Tail.j0 k a0 ji10 t104 (⟨#[]⟩ : ByteArray) t107 (decide (t107 > 0))) else (link_Tail.j0 k a0 ji10 t104 (⟨#[]⟩ : ByteArray) t107 false))) else (none)) else (none)) = some (r1, r2, r3) := by first | (rw [hji10] at H; exact H) | (simp only [hji10] at H ⊢; exact H)
          (try rw [hji10] at A2)
          (try rw [hji10] at A5)
          (try rw [hji10] at A9)
          have hji10w : (IntKind.i64.wrap ((ji6) + t105)) = ji10 := (i64_w _).trans hji10
          by_cases c11 : 0 ≤ (ji10)
          · rw [if_pos c11] at H
            have c11b0 := eq_true c11
            have c11b1 : decide (0 ≤ (ji10)) = true := decide_eq_true c11
            clear c11
            by_cases c12 : (ji10) ≤ (a0.size : Int)
            · rw [if_pos c12] at H
              have c12b0 := eq_true c12
              have c12b1 : decide ((ji10) ≤ (a0.size : Int)) = true := decide_eq_true c12
              clear c12
              replace H := Option.bind_eq_some_iff.mp H
              obtain ⟨t107, A130, H⟩ := H
              replace H : (if t105 > 0 then (link_Tail.j0 k a0 ji10 t104 (⟨#[]⟩ : ByteArray) t107 (decide (t107 > 0))) else (link_Tail.j0 k a0 ji10 t104 (⟨#[]⟩ : ByteArray) t107 false)) = some (r1, r2, r3) := H
              have A13 := Aside0.mk A130
              clear A130
              have HC14 := Aside0.mk H
              clear H
              go_enter Tryz.func16, Tryz.ntmps16
              go_upto_region 8 with (first | ((with_reducible refine gate_callee (f := 20) rfl ?_); refine goesL_ (some 14) rfl rfl Tryz.func20 (by kernel_rfl) rfl #[.string a0, .string (⟨#[40]⟩ : ByteArray)] rfl (by (try simp only [List.map_toArray, List.map_cons, List.map_nil]); first | done | rfl | (simp only [List.length_drop, List.length_take]; rfl)) ?_; (with_reducible refine (strings_HasPrefix.calls a0 (⟨#[40]⟩ : ByteArray) true _ A2.out).mono ?_); rintro e w' ⟨rfl, ⟨nd, rfl⟩⟩; refine ⟨_, rfl, ?_⟩) | ((with_reducible refine gate_callee (f := 18) rfl ?_); refine goesL_ (some 18) rfl rfl Tryz.func18 (by kernel_rfl) rfl #[.string (a0.extract 1 a0.size)] rfl (by (try simp only [List.map_toArray, List.map_cons, List.map_nil]); first | done | rfl | (simp only [List.length_drop, List.length_take]; rfl)) ?_; (with_reducible refine (link_White.calls (a0.extract 1 a0.size) t103 _ A5.out).mono ?_); rintro e w15 ⟨rfl, hb⟩; refine ⟨_, rfl, ?_⟩; have n0_ := Aside0.mk (below_step (by repeat (first | (with_reducible first | exact HB.out | apply below_alloc | apply pw_below_drewN | apply below_drew1) | exact HB.out)) hb); clear HB; have HB := n0_; clear n0_; (try clear hb); (try clear hb2); (try clear hk); (try clear hi)) | ((with_reducible refine gate_callee (f := 12) rfl ?_); refine goesL_ (some 24) rfl rfl Tryz.func12 (by kernel_rfl) rfl #[.string (a0.extract ((ji6) : Int).toNat a0.size)] rfl (by (try simp only [List.map_toArray, List.map_cons, List.map_nil]); first | done | (simp only [hji6]; rfl) | rfl | (simp only [List.length_drop, List.length_take]; rfl)) ?_; (with_reducible refine (link_Dest.calls (a0.extract ((ji6) : Int).toNat a0.size) t104 t105 t106 _ ?side1 A9.out).mono ?_); (case side1 => exact Laid.go hLd (by repeat (first | (with_reducible first | exact HB.out | apply below_alloc | apply pw_below_drewN | apply below_drew1) | exact HB.out))); rintro e w16 ⟨rfl, hb⟩; refine ⟨_, rfl, ?_⟩; have n0_ := Aside0.mk (below_step (by repeat (first | (with_reducible first | exact HB.out | apply below_alloc | apply pw_below_drewN | apply below_drew1) | exact HB.out)) hb); clear HB; have HB := n0_; clear n0_; (try clear hb); (try clear hb2); (try clear hk); (try clear hi)) | ((with_reducible refine gate_callee (f := 18) rfl ?_); refine goesL_ (some 34) rfl rfl Tryz.func18 (by kernel_rfl) rfl #[.string (a0.extract ((ji10) : Int).toNat a0.size)] rfl (by (try simp only [List.map_toArray, List.map_cons, List.map_nil]); first | done | (simp only [hji10]; rfl) | rfl | (simp only [List.length_drop, List.length_take]; rfl)) ?_; (with_reducible refine (link_White.calls (a0.extract ((ji10) : Int).toNat a0.size) t107 _ A13.out).mono ?_); rintro e w17 ⟨rfl, hb⟩; refine ⟨_, rfl, ?_⟩; have n0_ := Aside0.mk (below_step (by repeat (first | (with_reducible first | exact HB.out | apply below_alloc | apply pw_below_drewN | apply below_drew1) | exact HB.out)) hb); clear HB; have HB := n0_; clear n0_; (try clear hb); (try clear hb2); (try clear hk); (try clear hi)))
              (try simp only [Act.put, List.setIfInBounds_toArray, List.set_cons_zero, List.set_cons_succ])
              go_cut [40] (fun v40 wc => ∃ (kq : Nat) (x40_13 : Bool), v40 = .bool x40_13 ∧ Aside0 (link_Tail.j0 kq a0 ji10 t104 (⟨#[]⟩ : ByteArray) t107 x40_13 = some (r1, r2, r3)) ∧ Aside0 (kq ≤ k) ∧ Aside0 (Below w.heap.size w wc))
              case first =>
                have H := HC14.out
                clear HC14
                by_cases c18 : t105 > 0
                · rw [if_pos c18] at H
                  have c18b0 : decide (0 < t105) = true := decide_eq_true c18
                  clear c18
                  (first | rw [c18b0] | (simp only [i64_w, i32_w]; rw [c18b0]) | skip)
                  have H' := Aside0.mk H
                  clear H
                  go_wp2
                  go_meet
                  case rel => exact ⟨_, (decide (t107 > 0)), (by first | rfl | (simp; done) | (simp [*]; done)), H', ⟨by first | omega | exact Nat.le_refl _⟩, ⟨by repeat (first | (with_reducible first | exact HB.out | apply below_alloc | apply pw_below_drewN | apply below_drew1) | exact HB.out)⟩⟩
                · rw [if_neg c18] at H
                  have c18b0 : decide (0 < t105) = false := decide_eq_false c18
                  clear c18
                  (first | rw [c18b0] | (simp only [i64_w, i32_w]; rw [c18b0]) | skip)
                  have H' := Aside0.mk H
                  clear H
                  go_wp2
                  go_meet
                  case rel => exact ⟨_, (false), (by first | rfl | (simp; done) | (simp [*]; done)), H', ⟨by first | omega | exact Nat.le_refl _⟩, ⟨by repeat (first | (with_reducible first | exact HB.out | apply below_alloc | apply pw_below_drewN | apply below_drew1) | exact HB.out)⟩⟩
              case rest =>
                clear HC14
                try clear c1
                try clear c2
                try clear p2
                try clear c3
                try clear c4
                try clear c4b0
                try clear c4b1
                try clear p6
                try clear c7
                try clear c7b0
                try clear c7b1
                try clear c8
                try clear c8b0
                try clear c8b1
                try clear c11
                try clear c11b0
                try clear c11b1
                try clear c12
                try clear c12b0
                try clear c12b1
                try clear c16
                try clear c18
                try clear c18b0
                obtain ⟨kq, x40_13, rfl, HA, HJ13, HB⟩ := hcut
                cases kq with
                | zero => exact absurd HA.out (by simp [link_Tail.j0])
                | succ kj13 =>
                  have H := HA.out
                  clear HA
                  simp only [link_Tail.j0] at H
                  have HC19 := Aside0.mk H
                  clear H
                  go_upto_if 40 with (fail)
                  go_cut [5, 9] (fun v5 v9 wc => ∃ (kq : Nat) (x5_18 : Int) (x9_18 : ByteArray), v5 = .int .i64 x5_18 ∧ v9 = .string x9_18 ∧ Aside0 (link_Tail.j1 kq a0 x5_18 t104 x9_18 = some (r1, r2, r3)) ∧ Aside0 (kq ≤ kj13) ∧ Aside0 (Below w.heap.size w wc))
                  case first =>
                    have H := HC19.out
                    clear HC19
                    by_cases c20 : x40_13 = true
                    · subst c20
                      have H1 : (if 0 ≤ (wrap64 (ji10 + t107)) then (if (wrap64 (ji10 + t107)) ≤ (a0.size : Int) then ((link_Title.f (a0.extract ((wrap64 (ji10 + t107)) : Int).toNat a0.size)).bind fun bt108 => (if bt108.2 > 0 then (link_Tail.j1 kj13 a0 (wrap64 ((wrap64 (ji10 + t107)) + bt108.2)) t104 bt108.1) else (link_Tail.j1 kj13 a0 ji10 t104 (⟨#[]⟩ : ByteArray)))) else (none)) else (none)) = some (r1, r2, r3) := by rw [if_pos rfl] at H; exact H
                      clear H
                      have H := H1
                      clear H1
                      obtain ⟨ji21, hji21⟩ : ∃ j_ : Int, (wrap64 (ji10 + t107)) = j_ := ⟨_, rfl⟩
                      replace H : (if 0 ≤ (ji21) then (if (ji21) ≤ (a0.size : Int) then ((link_Title.f (a0.extract ((ji21) : Int).toNat a0.size)).bind fun bt108 => (if bt108.2 > 0 then (link_Tail.j1 kj13 a0 (wrap64 ((ji21) + bt108.2)) t104 bt108.1) else (link_Tail.j1 kj13 a0 ji10 t104 (⟨#[]⟩ : ByteArray)))) else (none)) else (none)) = some (r1, r2, r3) := by first | (rw [hji21] at H; exact H) | (simp only [hji21] at H ⊢; exact H)
                      have hji21w : (IntKind.i64.wrap (ji10 + t107)) = ji21 := (i64_w _).trans hji21
                      by_cases c22 : 0 ≤ (ji21)
                      · rw [if_pos c22] at H
                        have c22b0 := eq_true c22
                        have c22b1 : decide (0 ≤ (ji21)) = true := decide_eq_true c22
                        clear c22
                        by_cases c23 : (ji21) ≤ (a0.size : Int)
                        · rw [if_pos c23] at H
                          have c23b0 := eq_true c23
                          have c23b1 : decide ((ji21) ≤ (a0.size : Int)) = true := decide_eq_true c23
                          clear c23
                          replace H := Option.bind_eq_some_iff.mp H
                          obtain ⟨⟨t108, t109⟩, A240, H⟩ := H
                          replace H : (if t109 > 0 then (link_Tail.j1 kj13 a0 (wrap64 ((ji21) + t109)) t104 t108) else (link_Tail.j1 kj13 a0 ji10 t104 (⟨#[]⟩ : ByteArray))) = some (r1, r2, r3) := H
                          have A24 := Aside0.mk A240
                          clear A240
                          by_cases c25 : t109 > 0
                          · rw [if_pos c25] at H
                            have c25b0 : decide (0 < t109) = true := decide_eq_true c25
                            clear c25
                            (first | rw [c25b0] | (simp only [i64_w, i32_w]; rw [c25b0]) | skip)
                            have H' := Aside0.mk H
                            clear H
                            go_wp2_with (first | ((with_reducible refine gate_callee (f := 14) rfl ?_); refine goesL_ (some 47) rfl rfl Tryz.func14 (by kernel_rfl) rfl #[.string (a0.extract ((ji21) : Int).toNat a0.size)] rfl (by (try simp only [List.map_toArray, List.map_cons, List.map_nil]); first | done | (simp only [hji21]; rfl) | rfl | (simp only [List.length_drop, List.length_take]; rfl)) ?_; (with_reducible refine (link_Title.calls (a0.extract ((ji21) : Int).toNat a0.size) t108 t109 _ ?side1 A24.out).mono ?_); (case side1 => exact Laid.go hLd (by repeat (first | (with_reducible first | exact HB.out | apply below_alloc | apply pw_below_drewN | apply below_drew1) | exact HB.out))); rintro e w26 ⟨rfl, hb⟩; refine ⟨_, rfl, ?_⟩; have n0_ := Aside0.mk (below_step (by repeat (first | (with_reducible first | exact HB.out | apply below_alloc | apply pw_below_drewN | apply below_drew1) | exact HB.out)) hb); clear HB; have HB := n0_; clear n0_; (try clear hb); (try clear hb2); (try clear hk); (try clear hi)))
                            go_meet
                            case rel => exact ⟨_, (wrap64 ((ji21) + t109)), (t108), (by first | rfl | (simp; done) | (simp only [← hji21] <;> (first | rfl | simp)) | (simp [*]; done)), (by first | rfl | (simp; done) | (simp [*]; done)), H', ⟨by have := HJ13.out; first | omega | exact Nat.le_refl _⟩, ⟨by repeat (first | (with_reducible first | exact HB.out | apply below_alloc | apply pw_below_drewN | apply below_drew1) | exact HB.out)⟩⟩
                          · rw [if_neg c25] at H
                            have c25b0 : decide (0 < t109) = false := decide_eq_false c25
                            clear c25
                            (first | rw [c25b0] | (simp only [i64_w, i32_w]; rw [c25b0]) | skip)
                            have H' := Aside0.mk H
                            clear H
                            go_wp2_with (first | ((with_reducible refine gate_callee (f := 14) rfl ?_); refine goesL_ (some 47) rfl rfl Tryz.func14 (by kernel_rfl) rfl #[.string (a0.extract ((ji21) : Int).toNat a0.size)] rfl (by (try simp only [List.map_toArray, List.map_cons, List.map_nil]); first | done | (simp only [hji21]; rfl) | rfl | (simp only [List.length_drop, List.length_take]; rfl)) ?_; (with_reducible refine (link_Title.calls (a0.extract ((ji21) : Int).toNat a0.size) t108 t109 _ ?side1 A24.out).mono ?_); (case side1 => exact Laid.go hLd (by repeat (first | (with_reducible first | exact HB.out | apply below_alloc | apply pw_below_drewN | apply below_drew1) | exact HB.out))); rintro e w27 ⟨rfl, hb⟩; refine ⟨_, rfl, ?_⟩; have n0_ := Aside0.mk (below_step (by repeat (first | (with_reducible first | exact HB.out | apply below_alloc | apply pw_below_drewN | apply below_drew1) | exact HB.out)) hb); clear HB; have HB := n0_; clear n0_; (try clear hb); (try clear hb2); (try clear hk); (try clear hi)))
                            go_meet
                            case rel => exact ⟨_, (ji10), ((⟨#[]⟩ : ByteArray)), (by first | rfl | (simp; done) | (simp only [← hji10] <;> (first | rfl | simp)) | (simp [*]; done)), (by first | rfl | (simp; done) | (simp [*]; done)), H', ⟨by have := HJ13.out; first | omega | exact Nat.le_refl _⟩, ⟨by repeat (first | (with_reducible first | exact HB.out | apply below_alloc | apply pw_below_drewN | apply below_drew1) | exact HB.out)⟩⟩
                        · rw [if_neg c23] at H
                          exact absurd H (by simp)
                      · rw [if_neg c22] at H
                        exact absurd H (by simp)
                    · replace c20 := Bool.eq_false_iff.mpr c20
                      subst c20
                      have H1 : (link_Tail.j1 kj13 a0 ji10 t104 (⟨#[]⟩ : ByteArray)) = some (r1, r2, r3) := by rw [if_neg (show ¬ (false = true) by decide)] at H; exact H
                      clear H
                      have H := H1
                      clear H1
                      have H' := Aside0.mk H
                      clear H
                      go_wp2
                      go_meet
                      case rel => exact ⟨_, (ji10), ((⟨#[]⟩ : ByteArray)), (by first | rfl | (simp; done) | (simp only [← hji10] <;> (first | rfl | simp)) | (simp [*]; done)), (by first | rfl | (simp; done) | (simp [*]; done)), H', ⟨by have := HJ13.out; first | omega | exact Nat.le_refl _⟩, ⟨by repeat (first | (with_reducible first | exact HB.out | apply below_alloc | apply pw_below_drewN | apply below_drew1) | exact HB.out)⟩⟩
                  case rest =>
                    clear HC19
                    try clear c1
                    try clear c2
                    try clear p2
                    try clear c3
                    try clear c4
                    try clear c4b0
                    try clear c4b1
                    try clear p6
                    try clear c7
                    try clear c7b0
                    try clear c7b1
                    try clear c8
                    try clear c8b0
                    try clear c8b1
                    try clear c11
                    try clear c11b0
                    try clear c11b1
                    try clear c12
                    try clear c12b0
                    try clear c12b1
                    try clear c14
                    try clear c16
                    try clear c18
                    try clear c18b0
                    try clear c20
                    try clear c22
                    try clear c22b0
                    try clear c22b1
                    try clear c23
                    try clear c23b0
                    try clear c23b1
                    try clear c25
                    try clear c25b0
                    try clear p2
                    try clear p6
                    obtain ⟨kq, x5_18, x9_18, rfl, rfl, HA, HJ18, HB⟩ := hcut
                    cases kq with
                    | zero => exact absurd HA.out (by simp [link_Tail.j1])
                    | succ kj18 =>
                      have H := HA.out
                      clear HA
                      simp only [link_Tail.j1] at H
                      by_cases c28 : 0 ≤ x5_18
                      · rw [if_pos c28] at H
                        have c28b0 := eq_true c28
                        have c28b1 : decide (0 ≤ x5_18) = true := decide_eq_true c28
                        clear c28
                        by_cases c29 : x5_18 ≤ (a0.size : Int)
                        · rw [if_pos c29] at H
                          have c29b0 := eq_true c29
                          have c29b1 : decide (x5_18 ≤ (a0.size : Int)) = true := decide_eq_true c29
                          clear c29
                          replace H := Option.bind_eq_some_iff.mp H
                          obtain ⟨t110, A300, H⟩ := H
                          replace H : (if 0 ≤ (wrap64 (x5_18 + t110)) then (if (wrap64 (x5_18 + t110)) ≤ (a0.size : Int) then ((strings_HasPrefix.f (a0.extract ((wrap64 (x5_18 + t110)) : Int).toNat a0.size) (⟨#[41]⟩ : ByteArray)).bind fun t111 => (if t111 = true then (some (t104, x9_18, wrap64 ((wrap64 (x5_18 + t110)) + 1))) else (some ((⟨#[]⟩ : ByteArray), (⟨#[]⟩ : ByteArray), 0)))) else (none)) else (none)) = some (r1, r2, r3) := H
                          have A30 := Aside0.mk A300
                          clear A300
                          obtain ⟨ji31, hji31⟩ : ∃ j_ : Int, (wrap64 (x5_18 + t110)) = j_ := ⟨_, rfl⟩
                          replace H : (if 0 ≤ (ji31) then (if (ji31) ≤ (a0.size : Int) then ((strings_HasPrefix.f (a0.extract ((ji31) : Int).toNat a0.size) (⟨#[41]⟩ : ByteArray)).bind fun t111 => (if t111 = true then (some (t104, x9_18, wrap64 ((ji31) + 1))) else (some ((⟨#[]⟩ : ByteArray), (⟨#[]⟩ : ByteArray), 0)))) else (none)) else (none)) = some (r1, r2, r3) := by first | (rw [hji31] at H; exact H) | (simp only [hji31] at H ⊢; exact H)
                          (try rw [hji31] at A30)
                          have hji31w : (IntKind.i64.wrap (x5_18 + t110)) = ji31 := (i64_w _).trans hji31
                          by_cases c32 : 0 ≤ (ji31)
                          · rw [if_pos c32] at H
                            have c32b0 := eq_true c32
                            have c32b1 : decide (0 ≤ (ji31)) = true := decide_eq_true c32
                            clear c32
                            by_cases c33 : (ji31) ≤ (a0.size : Int)
                            · rw [if_pos c33] at H
                              have c33b0 := eq_true c33
                              have c33b1 : decide ((ji31) ≤ (a0.size : Int)) = true := decide_eq_true c33
                              clear c33
                              replace H := Option.bind_eq_some_iff.mp H
                              obtain ⟨t111, A340, H⟩ := H
                              replace H : (if t111 = true then (some (t104, x9_18, wrap64 ((ji31) + 1))) else (some ((⟨#[]⟩ : ByteArray), (⟨#[]⟩ : ByteArray), 0))) = some (r1, r2, r3) := H
                              have A34 := Aside0.mk A340
                              clear A340
                              by_cases c35 : t111 = true
                              · subst c35
                                have H1 : (some (t104, x9_18, wrap64 ((ji31) + 1))) = some (r1, r2, r3) := by rw [if_pos rfl] at H; exact H
                                clear H
                                have H := H1
                                clear H1
                                simp only [Option.some.injEq, Prod.mk.injEq] at H
                                obtain ⟨rfl, rfl, rfl⟩ := H
                                go_wp2_with (first | ((with_reducible refine gate_callee (f := 18) rfl ?_); refine goesL_ (some 62) rfl rfl Tryz.func18 (by kernel_rfl) rfl #[.string (a0.extract (x5_18 : Int).toNat a0.size)] rfl (by (try simp only [List.map_toArray, List.map_cons, List.map_nil]); first | done | rfl | (simp only [List.length_drop, List.length_take]; rfl)) ?_; (with_reducible refine (link_White.calls (a0.extract (x5_18 : Int).toNat a0.size) t110 _ A30.out).mono ?_); rintro e w36 ⟨rfl, hb⟩; refine ⟨_, rfl, ?_⟩; have n0_ := Aside0.mk (below_step (by repeat (first | (with_reducible first | exact HB.out | apply below_alloc | apply pw_below_drewN | apply below_drew1) | exact HB.out)) hb); clear HB; have HB := n0_; clear n0_; (try clear hb); (try clear hb2); (try clear hk); (try clear hi)) | ((with_reducible refine gate_callee (f := 20) rfl ?_); refine goesL_ (some 67) rfl rfl Tryz.func20 (by kernel_rfl) rfl #[.string (a0.extract ((ji31) : Int).toNat a0.size), .string (⟨#[41]⟩ : ByteArray)] rfl (by (try simp only [List.map_toArray, List.map_cons, List.map_nil]); first | done | (simp only [hji31]; rfl) | rfl | (simp only [List.length_drop, List.length_take]; rfl)) ?_; (with_reducible refine (strings_HasPrefix.calls (a0.extract ((ji31) : Int).toNat a0.size) (⟨#[41]⟩ : ByteArray) true _ A34.out).mono ?_); rintro e w' ⟨rfl, ⟨nd, rfl⟩⟩; refine ⟨_, rfl, ?_⟩))
                                go_ret3
                                exact ⟨by first | rfl | (simp [errW_none, errW_some] <;> rfl) | (simp only [← hji6, ← hji10, ← hji31]; first | rfl | (simp [errW_none, errW_some] <;> rfl)) | (simp [*, errW_none, errW_some] <;> rfl), by repeat (first | (with_reducible first | exact HB.out | apply below_alloc | apply pw_below_drewN | apply below_drew1) | exact HB.out)⟩
                              · replace c35 := Bool.eq_false_iff.mpr c35
                                subst c35
                                have H1 : (some ((⟨#[]⟩ : ByteArray), (⟨#[]⟩ : ByteArray), 0)) = some (r1, r2, r3) := by rw [if_neg (show ¬ (false = true) by decide)] at H; exact H
                                clear H
                                have H := H1
                                clear H1
                                simp only [Option.some.injEq, Prod.mk.injEq] at H
                                obtain ⟨rfl, rfl, rfl⟩ := H
                                go_wp2_with (first | ((with_reducible refine gate_callee (f := 18) rfl ?_); refine goesL_ (some 62) rfl rfl Tryz.func18 (by kernel_rfl) rfl #[.string (a0.extract (x5_18 : Int).toNat a0.size)] rfl (by (try simp only [List.map_toArray, List.map_cons, List.map_nil]); first | done | rfl | (simp only [List.length_drop, List.length_take]; rfl)) ?_; (with_reducible refine (link_White.calls (a0.extract (x5_18 : Int).toNat a0.size) t110 _ A30.out).mono ?_); rintro e w37 ⟨rfl, hb⟩; refine ⟨_, rfl, ?_⟩; have n0_ := Aside0.mk (below_step (by repeat (first | (with_reducible first | exact HB.out | apply below_alloc | apply pw_below_drewN | apply below_drew1) | exact HB.out)) hb); clear HB; have HB := n0_; clear n0_; (try clear hb); (try clear hb2); (try clear hk); (try clear hi)) | ((with_reducible refine gate_callee (f := 20) rfl ?_); refine goesL_ (some 67) rfl rfl Tryz.func20 (by kernel_rfl) rfl #[.string (a0.extract ((ji31) : Int).toNat a0.size), .string (⟨#[41]⟩ : ByteArray)] rfl (by (try simp only [List.map_toArray, List.map_cons, List.map_nil]); first | done | (simp only [hji31]; rfl) | rfl | (simp only [List.length_drop, List.length_take]; rfl)) ?_; (with_reducible refine (strings_HasPrefix.calls (a0.extract ((ji31) : Int).toNat a0.size) (⟨#[41]⟩ : ByteArray) false _ A34.out).mono ?_); rintro e w' ⟨rfl, ⟨nd, rfl⟩⟩; refine ⟨_, rfl, ?_⟩))
                                go_ret3
                                exact ⟨by first | rfl | (simp [errW_none, errW_some] <;> rfl) | (simp only [← hji6, ← hji10, ← hji31]; first | rfl | (simp [errW_none, errW_some] <;> rfl)) | (simp [*, errW_none, errW_some] <;> rfl), by repeat (first | (with_reducible first | exact HB.out | apply below_alloc | apply pw_below_drewN | apply below_drew1) | exact HB.out)⟩
                            · rw [if_neg c33] at H
                              exact absurd H (by simp)
                          · rw [if_neg c32] at H
                            exact absurd H (by simp)
                        · rw [if_neg c29] at H
                          exact absurd H (by simp)
                      · rw [if_neg c28] at H
                        exact absurd H (by simp)
            · rw [if_neg c12] at H
              exact absurd H (by simp)
          · rw [if_neg c11] at H
            exact absurd H (by simp)
        · rw [if_neg c8] at H
          exact absurd H (by simp)
      · rw [if_neg c7] at H
        exact absurd H (by simp)
    · rw [if_neg c4] at H
      exact absurd H (by simp)
  · replace c3 := Bool.eq_false_iff.mpr c3
    subst c3
    have H1 : (some ((⟨#[]⟩ : ByteArray), (⟨#[]⟩ : ByteArray), 0)) = some (r1, r2, r3) := by rw [if_neg (show ¬ (false = true) by decide)] at H; exact H
    clear H
    have H := H1
    clear H1
    simp only [Option.some.injEq, Prod.mk.injEq] at H
    obtain ⟨rfl, rfl, rfl⟩ := H
    go_enter Tryz.func16, Tryz.ntmps16
    go_wp2_with (first | ((with_reducible refine gate_callee (f := 20) rfl ?_); refine goesL_ (some 14) rfl rfl Tryz.func20 (by kernel_rfl) rfl #[.string a0, .string (⟨#[40]⟩ : ByteArray)] rfl (by (try simp only [List.map_toArray, List.map_cons, List.map_nil]); first | done | rfl | (simp only [List.length_drop, List.length_take]; rfl)) ?_; (with_reducible refine (strings_HasPrefix.calls a0 (⟨#[40]⟩ : ByteArray) false _ A2.out).mono ?_); rintro e w' ⟨rfl, ⟨nd, rfl⟩⟩; refine ⟨_, rfl, ?_⟩))
    go_ret3
    exact ⟨by first | rfl | (simp [errW_none, errW_some] <;> rfl) | (simp [*, errW_none, errW_some] <;> rfl), by repeat (first | (with_reducible first | exact HB.out | apply below_alloc | apply pw_below_drewN | apply below_drew1) | exact HB.out)⟩

/-! ### incipitlaw09_awake: function 9 -/
def incipitlaw09_awake.f (k : Nat)  : Option (Bool) := (link_Label.f (⟨#[91, 97, 93, 98]⟩ : ByteArray)).bind fun bt112 => ((link_Dest.f (⟨#[60, 97, 32, 98, 62]⟩ : ByteArray)).bind fun bt114 => ((link_Title.f (⟨#[39, 120, 39, 32, 121]⟩ : ByteArray)).bind fun bt117 => ((link_Tail.f k (⟨#[40, 47, 117, 32, 34, 116, 34, 41]⟩ : ByteArray)).bind fun bt119 => (if bt112.1.toList = ([97] : List UInt8) then (if bt112.2 = 3 then (if bt114.1.toList = ([97, 32, 98] : List UInt8) then (if bt114.2.1 = 5 then (if bt114.2.2 = true then (if bt117.1.toList = ([120] : List UInt8) then (if bt117.2 = 3 then (if bt119.1.toList = ([47, 117] : List UInt8) then (if bt119.2.1.toList = ([116] : List UInt8) then (if bt119.2.2 = 8 then ((link_White.f (⟨#[32, 10, 120]⟩ : ByteArray)).bind fun t122 => (some (t122 == 2))) else (none)) else (none)) else (none)) else (none)) else (none)) else (none)) else (none)) else (none)) else (none)) else (none)))))
theorem incipitlaw09_awake.mono : ∀ k, LeO (incipitlaw09_awake.f k ) (incipitlaw09_awake.f (k + 1) ) := by
  intro  k
  unfold incipitlaw09_awake.f
  repeat' first
      | (with_reducible exact link_Tail.mono _ _)
      | (with_reducible exact LeO.refl _)
      | (with_reducible exact LeO.none _)
      | (with_reducible refine LeO.ite ?_ ?_)
      | (with_reducible refine LeO.bind ?_ (fun _ => ?_))
      | exact link_Tail.mono _ _
      | exact LeO.none _
      | refine LeO.ite ?_ ?_
      | refine LeO.bind ?_ (fun _ => ?_)
set_option maxHeartbeats 8000000 in
set_option maxRecDepth 100000 in
theorem incipitlaw09_awake.calls (k : Nat)  (r : Bool) (w : World) (hLd : Laid w) (h : incipitlaw09_awake.f k  = some r) :
    Calls Tryz.prog 9 #[] w fun e w' => e = .returned (.bool r) ∧ Below w.heap.size w w' := by
  have HB := Aside0.mk (Below.refl w.heap.size w)
  have H : ((link_Label.f (⟨#[91, 97, 93, 98]⟩ : ByteArray)).bind fun bt112 => ((link_Dest.f (⟨#[60, 97, 32, 98, 62]⟩ : ByteArray)).bind fun bt114 => ((link_Title.f (⟨#[39, 120, 39, 32, 121]⟩ : ByteArray)).bind fun bt117 => ((link_Tail.f k (⟨#[40, 47, 117, 32, 34, 116, 34, 41]⟩ : ByteArray)).bind fun bt119 => (if bt112.1.toList = ([97] : List UInt8) then (if bt112.2 = 3 then (if bt114.1.toList = ([97, 32, 98] : List UInt8) then (if bt114.2.1 = 5 then (if bt114.2.2 = true then (if bt117.1.toList = ([120] : List UInt8) then (if bt117.2 = 3 then (if bt119.1.toList = ([47, 117] : List UInt8) then (if bt119.2.1.toList = ([116] : List UInt8) then (if bt119.2.2 = 8 then ((link_White.f (⟨#[32, 10, 120]⟩ : ByteArray)).bind fun t122 => (some (t122 == 2))) else (none)) else (none)) else (none)) else (none)) else (none)) else (none)) else (none)) else (none)) else (none)) else (none)))))) = some r := h
  clear h
  replace H := Option.bind_eq_some_iff.mp H
  obtain ⟨⟨t112, t113⟩, A10, H⟩ := H
  replace H : ((link_Dest.f (⟨#[60, 97, 32, 98, 62]⟩ : ByteArray)).bind fun bt114 => ((link_Title.f (⟨#[39, 120, 39, 32, 121]⟩ : ByteArray)).bind fun bt117 => ((link_Tail.f k (⟨#[40, 47, 117, 32, 34, 116, 34, 41]⟩ : ByteArray)).bind fun bt119 => (if t112.toList = ([97] : List UInt8) then (if t113 = 3 then (if bt114.1.toList = ([97, 32, 98] : List UInt8) then (if bt114.2.1 = 5 then (if bt114.2.2 = true then (if bt117.1.toList = ([120] : List UInt8) then (if bt117.2 = 3 then (if bt119.1.toList = ([47, 117] : List UInt8) then (if bt119.2.1.toList = ([116] : List UInt8) then (if bt119.2.2 = 8 then ((link_White.f (⟨#[32, 10, 120]⟩ : ByteArray)).bind fun t122 => (some (t122 == 2))) else (none)) else (none)) else (none)) else (none)) else (none)) else (none)) else (none)) else (none)) else (none)) else (none))))) = some r := H
  have A1 := Aside0.mk A10
  clear A10
  replace H := Option.bind_eq_some_iff.mp H
  obtain ⟨⟨t114, t115, t116⟩, A20, H⟩ := H
  replace H : ((link_Title.f (⟨#[39, 120, 39, 32, 121]⟩ : ByteArray)).bind fun bt117 => ((link_Tail.f k (⟨#[40, 47, 117, 32, 34, 116, 34, 41]⟩ : ByteArray)).bind fun bt119 => (if t112.toList = ([97] : List UInt8) then (if t113 = 3 then (if t114.toList = ([97, 32, 98] : List UInt8) then (if t115 = 5 then (if t116 = true then (if bt117.1.toList = ([120] : List UInt8) then (if bt117.2 = 3 then (if bt119.1.toList = ([47, 117] : List UInt8) then (if bt119.2.1.toList = ([116] : List UInt8) then (if bt119.2.2 = 8 then ((link_White.f (⟨#[32, 10, 120]⟩ : ByteArray)).bind fun t122 => (some (t122 == 2))) else (none)) else (none)) else (none)) else (none)) else (none)) else (none)) else (none)) else (none)) else (none)) else (none)))) = some r := H
  have A2 := Aside0.mk A20
  clear A20
  replace H := Option.bind_eq_some_iff.mp H
  obtain ⟨⟨t117, t118⟩, A30, H⟩ := H
  replace H : ((link_Tail.f k (⟨#[40, 47, 117, 32, 34, 116, 34, 41]⟩ : ByteArray)).bind fun bt119 => (if t112.toList = ([97] : List UInt8) then (if t113 = 3 then (if t114.toList = ([97, 32, 98] : List UInt8) then (if t115 = 5 then (if t116 = true then (if t117.toList = ([120] : List UInt8) then (if t118 = 3 then (if bt119.1.toList = ([47, 117] : List UInt8) then (if bt119.2.1.toList = ([116] : List UInt8) then (if bt119.2.2 = 8 then ((link_White.f (⟨#[32, 10, 120]⟩ : ByteArray)).bind fun t122 => (some (t122 == 2))) else (none)) else (none)) else (none)) else (none)) else (none)) else (none)) else (none)) else (none)) else (none)) else (none))) = some r := H
  have A3 := Aside0.mk A30
  clear A30
  replace H := Option.bind_eq_some_iff.mp H
  obtain ⟨⟨t119, t120, t121⟩, A40, H⟩ := H
  replace H : (if t112.toList = ([97] : List UInt8) then (if t113 = 3 then (if t114.toList = ([97, 32, 98] : List UInt8) then (if t115 = 5 then (if t116 = true then (if t117.toList = ([120] : List UInt8) then (if t118 = 3 then (if t119.toList = ([47, 117] : List UInt8) then (if t120.toList = ([116] : List UInt8) then (if t121 = 8 then ((link_White.f (⟨#[32, 10, 120]⟩ : ByteArray)).bind fun t122 => (some (t122 == 2))) else (none)) else (none)) else (none)) else (none)) else (none)) else (none)) else (none)) else (none)) else (none)) else (none)) = some r := H
  have A4 := Aside0.mk A40
  clear A40
  by_cases c5 : t112.toList = ([97] : List UInt8)
  · rw [if_pos c5] at H
    have c5b0 : (t112.toList == ([97] : List UInt8)) = true := beq_iff_eq.mpr c5
    have c5b1 : (t112.toList != ([97] : List UInt8)) = false := bne_eq_false_iff_eq.mpr c5
    clear c5
    by_cases c6 : t113 = 3
    · rw [if_pos c6] at H
      have c6b0 : (t113 == 3) = true := beq_iff_eq.mpr c6
      have c6b1 : (t113 != 3) = false := bne_eq_false_iff_eq.mpr c6
      clear c6
      by_cases c7 : t114.toList = ([97, 32, 98] : List UInt8)
      · rw [if_pos c7] at H
        have c7b0 : (t114.toList == ([97, 32, 98] : List UInt8)) = true := beq_iff_eq.mpr c7
        have c7b1 : (t114.toList != ([97, 32, 98] : List UInt8)) = false := bne_eq_false_iff_eq.mpr c7
        clear c7
        by_cases c8 : t115 = 5
        · rw [if_pos c8] at H
          have c8b0 : (t115 == 5) = true := beq_iff_eq.mpr c8
          have c8b1 : (t115 != 5) = false := bne_eq_false_iff_eq.mpr c8
          clear c8
          by_cases c9 : t116 = true
          · subst c9
            have H1 : (if t117.toList = ([120] : List UInt8) then (if t118 = 3 then (if t119.toList = ([47, 117] : List UInt8) then (if t120.toList = ([116] : List UInt8) then (if t121 = 8 then ((link_White.f (⟨#[32, 10, 120]⟩ : ByteArray)).bind fun t122 => (some (t122 == 2))) else (none)) else (none)) else (none)) else (none)) else (none)) = some r := by rw [if_pos rfl] at H; exact H
            clear H
            have H := H1
            clear H1
            by_cases c10 : t117.toList = ([120] : List UInt8)
            · rw [if_pos c10] at H
              have c10b0 : (t117.toList == ([120] : List UInt8)) = true := beq_iff_eq.mpr c10
              have c10b1 : (t117.toList != ([120] : List UInt8)) = false := bne_eq_false_iff_eq.mpr c10
              clear c10
              by_cases c11 : t118 = 3
              · rw [if_pos c11] at H
                have c11b0 : (t118 == 3) = true := beq_iff_eq.mpr c11
                have c11b1 : (t118 != 3) = false := bne_eq_false_iff_eq.mpr c11
                clear c11
                by_cases c12 : t119.toList = ([47, 117] : List UInt8)
                · rw [if_pos c12] at H
                  have c12b0 : (t119.toList == ([47, 117] : List UInt8)) = true := beq_iff_eq.mpr c12
                  have c12b1 : (t119.toList != ([47, 117] : List UInt8)) = false := bne_eq_false_iff_eq.mpr c12
                  clear c12
                  by_cases c13 : t120.toList = ([116] : List UInt8)
                  · rw [if_pos c13] at H
                    have c13b0 : (t120.toList == ([116] : List UInt8)) = true := beq_iff_eq.mpr c13
                    have c13b1 : (t120.toList != ([116] : List UInt8)) = false := bne_eq_false_iff_eq.mpr c13
                    clear c13
                    by_cases c14 : t121 = 8
                    · rw [if_pos c14] at H
                      have c14b0 : (t121 == 8) = true := beq_iff_eq.mpr c14
                      have c14b1 : (t121 != 8) = false := bne_eq_false_iff_eq.mpr c14
                      clear c14
                      replace H := Option.bind_eq_some_iff.mp H
                      obtain ⟨t122, A150, H⟩ := H
                      replace H : (some (t122 == 2)) = some r := H
                      have A15 := Aside0.mk A150
                      clear A150
                      obtain rfl := Option.some.inj H
                      go_enter Tryz.func9, Tryz.ntmps9
                      go_wp2_with (first | ((with_reducible refine gate_callee (f := 10) rfl ?_); refine goesL_ (some 12) rfl rfl Tryz.func10 (by kernel_rfl) rfl #[.string (⟨#[91, 97, 93, 98]⟩ : ByteArray)] rfl (by (try simp only [List.map_toArray, List.map_cons, List.map_nil]); first | done | rfl | (simp only [List.length_drop, List.length_take]; rfl)) ?_; (with_reducible refine (link_Label.calls (⟨#[91, 97, 93, 98]⟩ : ByteArray) t112 t113 _ A1.out).mono ?_); rintro e w16 ⟨rfl, hb⟩; refine ⟨_, rfl, ?_⟩; have n0_ := Aside0.mk (below_step (by repeat (first | (with_reducible first | exact HB.out | apply below_alloc | apply pw_below_drewN | apply below_drew1) | exact HB.out)) hb); clear HB; have HB := n0_; clear n0_; (try clear hb); (try clear hb2); (try clear hk); (try clear hi)) | ((with_reducible refine gate_callee (f := 12) rfl ?_); refine goesL_ (some 16) rfl rfl Tryz.func12 (by kernel_rfl) rfl #[.string (⟨#[60, 97, 32, 98, 62]⟩ : ByteArray)] rfl (by (try simp only [List.map_toArray, List.map_cons, List.map_nil]); first | done | rfl | (simp only [List.length_drop, List.length_take]; rfl)) ?_; (with_reducible refine (link_Dest.calls (⟨#[60, 97, 32, 98, 62]⟩ : ByteArray) t114 t115 true _ ?side1 A2.out).mono ?_); (case side1 => exact Laid.go hLd (by repeat (first | (with_reducible first | exact HB.out | apply below_alloc | apply pw_below_drewN | apply below_drew1) | exact HB.out))); rintro e w17 ⟨rfl, hb⟩; refine ⟨_, rfl, ?_⟩; have n0_ := Aside0.mk (below_step (by repeat (first | (with_reducible first | exact HB.out | apply below_alloc | apply pw_below_drewN | apply below_drew1) | exact HB.out)) hb); clear HB; have HB := n0_; clear n0_; (try clear hb); (try clear hb2); (try clear hk); (try clear hi)) | ((with_reducible refine gate_callee (f := 14) rfl ?_); refine goesL_ (some 21) rfl rfl Tryz.func14 (by kernel_rfl) rfl #[.string (⟨#[39, 120, 39, 32, 121]⟩ : ByteArray)] rfl (by (try simp only [List.map_toArray, List.map_cons, List.map_nil]); first | done | rfl | (simp only [List.length_drop, List.length_take]; rfl)) ?_; (with_reducible refine (link_Title.calls (⟨#[39, 120, 39, 32, 121]⟩ : ByteArray) t117 t118 _ ?side1 A3.out).mono ?_); (case side1 => exact Laid.go hLd (by repeat (first | (with_reducible first | exact HB.out | apply below_alloc | apply pw_below_drewN | apply below_drew1) | exact HB.out))); rintro e w18 ⟨rfl, hb⟩; refine ⟨_, rfl, ?_⟩; have n0_ := Aside0.mk (below_step (by repeat (first | (with_reducible first | exact HB.out | apply below_alloc | apply pw_below_drewN | apply below_drew1) | exact HB.out)) hb); clear HB; have HB := n0_; clear n0_; (try clear hb); (try clear hb2); (try clear hk); (try clear hi)) | ((with_reducible refine gate_callee (f := 16) rfl ?_); refine goesL_ (some 25) rfl rfl Tryz.func16 (by kernel_rfl) rfl #[.string (⟨#[40, 47, 117, 32, 34, 116, 34, 41]⟩ : ByteArray)] rfl (by (try simp only [List.map_toArray, List.map_cons, List.map_nil]); first | done | rfl | (simp only [List.length_drop, List.length_take]; rfl)) ?_; (with_reducible refine (link_Tail.calls k (⟨#[40, 47, 117, 32, 34, 116, 34, 41]⟩ : ByteArray) t119 t120 t121 _ ?side1 A4.out).mono ?_); (case side1 => exact Laid.go hLd (by repeat (first | (with_reducible first | exact HB.out | apply below_alloc | apply pw_below_drewN | apply below_drew1) | exact HB.out))); rintro e w19 ⟨rfl, hb⟩; refine ⟨_, rfl, ?_⟩; have n0_ := Aside0.mk (below_step (by repeat (first | (with_reducible first | exact HB.out | apply below_alloc | apply pw_below_drewN | apply below_drew1) | exact HB.out)) hb); clear HB; have HB := n0_; clear n0_; (try clear hb); (try clear hb2); (try clear hk); (try clear hi)) | (go_at_call 18; (with_reducible refine (link_White.calls (⟨#[32, 10, 120]⟩ : ByteArray) t122 _ A15.out).mono ?_); rintro e w20 ⟨rfl, hb⟩; have n0_ := Aside0.mk (below_step (by repeat (first | (with_reducible first | exact HB.out | apply below_alloc | apply pw_below_drewN | apply below_drew1) | exact HB.out)) hb); clear HB; have HB := n0_; clear n0_; (try clear hb); (try clear hb2); (try clear hk); (try clear hi)))
                      go_ret
                      exact ⟨by first | rfl | (simp [errW_none, errW_some] <;> rfl) | (simp [*, errW_none, errW_some] <;> rfl), by repeat (first | (with_reducible first | exact HB.out | apply below_alloc | apply pw_below_drewN | apply below_drew1) | exact HB.out)⟩
                    · rw [if_neg c14] at H
                      cases H
                  · rw [if_neg c13] at H
                    cases H
                · rw [if_neg c12] at H
                  cases H
              · rw [if_neg c11] at H
                cases H
            · rw [if_neg c10] at H
              cases H
          · replace c9 := Bool.eq_false_iff.mpr c9
            subst c9
            have H1 : (none) = some r := by rw [if_neg (show ¬ (false = true) by decide)] at H; exact H
            cases H1
        · rw [if_neg c8] at H
          cases H
      · rw [if_neg c7] at H
        cases H
    · rw [if_neg c6] at H
      cases H
  · rw [if_neg c5] at H
    cases H
/-! ### incipitref09_white: function 34 -/
def incipitref09_white.f (a0 : Int) : Option (Bool) := if a0 = 32 then (some true) else (if a0 = 9 then (some true) else (some (a0 == 10)))
set_option maxHeartbeats 8000000 in
set_option maxRecDepth 100000 in
theorem incipitref09_white.calls (a0 : Int) (r : Bool) (w : World) (h : incipitref09_white.f a0 = some r) :
    Calls Tryz.prog 34 #[.int .u8 a0] w fun e w' => e = .returned (.bool r) ∧ Drawn0 w w' := by
  have H : (if a0 = 32 then (some true) else (if a0 = 9 then (some true) else (some (a0 == 10)))) = some r := h
  clear h
  by_cases c2 : a0 = 32
  · rw [if_pos c2] at H
    have c2b0 : (a0 == 32) = true := beq_iff_eq.mpr c2
    have c2b1 : (a0 != 32) = false := bne_eq_false_iff_eq.mpr c2
    clear c2
    obtain rfl := Option.some.inj H
    go_enter Tryz.func34, Tryz.ntmps34
    go_wp2
    go_ret
    exact ⟨by first | rfl | (simp; done) | (simp [*]; done), by repeat (first | exact Drawn0.refl _ | apply Drawn0.step)⟩
  · rw [if_neg c2] at H
    have c2b0 : (a0 == 32) = false := beq_eq_false_iff_ne.mpr c2
    have c2b1 : (a0 != 32) = true := bne_iff_ne.mpr c2
    by_cases c3 : a0 = 9
    · rw [if_pos c3] at H
      have c3b0 : (a0 == 9) = true := beq_iff_eq.mpr c3
      have c3b1 : (a0 != 9) = false := bne_eq_false_iff_eq.mpr c3
      clear c3
      obtain rfl := Option.some.inj H
      go_enter Tryz.func34, Tryz.ntmps34
      go_wp2
      go_ret
      exact ⟨by first | rfl | (simp; done) | (simp [*]; done), by repeat (first | exact Drawn0.refl _ | apply Drawn0.step)⟩
    · rw [if_neg c3] at H
      have c3b0 : (a0 == 9) = false := beq_eq_false_iff_ne.mpr c3
      have c3b1 : (a0 != 9) = true := bne_iff_ne.mpr c3
      obtain rfl := Option.some.inj H
      go_enter Tryz.func34, Tryz.ntmps34
      go_wp2
      go_ret
      exact ⟨by first | rfl | (simp; done) | (simp [*]; done), by repeat (first | exact Drawn0.refl _ | apply Drawn0.step)⟩

/-! ### incipitref09_White: function 19 -/
def incipitref09_White.l0 : Nat → ByteArray → Int → Option (Int)
  | 0, _, _ => none
  | k + 1, x0, x3 => if x3 < (x0.size : Int) then (if 0 ≤ x3 then ((incipitref09_white.f (bt x0 x3)).bind fun t123 => (if t123 = true then (incipitref09_White.l0 k x0 (wrap64 (x3 + 1))) else (some x3))) else (none)) else (some x3)
def incipitref09_White.f (k : Nat) (a0 : ByteArray) : Option (Int) := incipitref09_White.l0 k a0 0
set_option maxHeartbeats 8000000 in
set_option maxRecDepth 100000 in
theorem incipitref09_White.calls (k : Nat) (a0 : ByteArray) (r : Int) (w : World) (h : incipitref09_White.f k a0 = some r) :
    Calls Tryz.prog 19 #[.string a0] w fun e w' => e = .returned (.int .i64 r) ∧ Drawn0 w w' := by
  have H : (incipitref09_White.l0 k a0 0) = some r := h
  clear h
  have H' := Aside0.mk H
  clear H
  go_enter Tryz.func19, Tryz.ntmps19
  go_wp2
  go_loopg [3] k (fun kq v3 w' => ∃ (x3_1 : Int), v3 = .int .i64 x3_1 ∧ Aside0 (incipitref09_White.l0 kq a0 x3_1 = some r) ∧ Aside0 (kq ≤ k) ∧ Drawn0 w w')
  case atStart => exact ⟨(0), (by first | rfl | (simp; done) | (simp [*]; done)), H', ⟨Nat.le_refl _⟩, by repeat (first | exact Drawn0.refl _ | apply Drawn0.step)⟩
  case round =>
    clear H'
    try clear c1
    obtain ⟨x3_1, rfl, HA, HK1, ⟨m1, rfl⟩⟩ := hrel
    cases gk with
    | zero => exact absurd HA.out (by simp [incipitref09_White.l0])
    | succ k1 =>
      have H := HA.out
      clear HA
      simp only [incipitref09_White.l0] at H
      by_cases c2 : x3_1 < (a0.size : Int)
      · rw [if_pos c2] at H
        have c2b0 : decide (x3_1 < (a0.size : Int)) = true := decide_eq_true c2
        clear c2
        by_cases c3 : 0 ≤ x3_1
        · rw [if_pos c3] at H
          have c3b0 : decide (0 ≤ x3_1) = true := decide_eq_true c3
          clear c3
          replace H := Option.bind_eq_some_iff.mp H
          obtain ⟨t123, A50, H⟩ := H
          replace H : (if t123 = true then (incipitref09_White.l0 k1 a0 (wrap64 (x3_1 + 1))) else (some x3_1)) = some r := H
          have A5 := Aside0.mk A50
          clear A50
          by_cases c6 : t123 = true
          · subst c6
            have H1 : (incipitref09_White.l0 k1 a0 (wrap64 (x3_1 + 1))) = some r := by rw [if_pos rfl] at H; exact H
            clear H
            have H := H1
            clear H1
            have H' := Aside0.mk H
            clear H
            have p4 : 0 ≤ (x3_1 : Int) := of_decide_eq_true (by first | (with_reducible assumption) | assumption)
            have q4 : x3_1 < (a0.size : Int) := of_decide_eq_true (by first | (with_reducible assumption) | assumption)
            have hx4 := bt_at a0 x3_1
            replace p4 := eq_true p4
            replace q4 := eq_true q4
            go_wp2_with (first | (go_at_call 34; (with_reducible refine (incipitref09_white.calls (bt a0 x3_1) true _ A5.out).mono ?_); rintro e w' ⟨rfl, ⟨nd, rfl⟩⟩))
            go_roundg k1
            case measure => have := HK1.out; omega
            case rel => exact ⟨(wrap64 (x3_1 + 1)), (by first | rfl | (simp; done) | (simp [*]; done)), H', ⟨by have := HK1.out; omega⟩, by repeat (first | exact Drawn0.refl _ | apply Drawn0.step)⟩
          · replace c6 := Bool.eq_false_iff.mpr c6
            subst c6
            have H1 : (some x3_1) = some r := by rw [if_neg (show ¬ (false = true) by decide)] at H; exact H
            clear H
            have H := H1
            clear H1
            obtain rfl := Option.some.inj H
            have p4 : 0 ≤ (x3_1 : Int) := of_decide_eq_true (by first | (with_reducible assumption) | assumption)
            have q4 : x3_1 < (a0.size : Int) := of_decide_eq_true (by first | (with_reducible assumption) | assumption)
            have hx4 := bt_at a0 x3_1
            replace p4 := eq_true p4
            replace q4 := eq_true q4
            go_wp2_with (first | (go_at_call 34; (with_reducible refine (incipitref09_white.calls (bt a0 x3_1) false _ A5.out).mono ?_); rintro e w' ⟨rfl, ⟨nd, rfl⟩⟩))
            go_ret
            exact ⟨by first | rfl | (simp; done) | (simp [*]; done), by repeat (first | exact Drawn0.refl _ | apply Drawn0.step)⟩
        · rw [if_neg c3] at H
          exact absurd H (by simp)
      · rw [if_neg c2] at H
        have c2b0 : decide (x3_1 < (a0.size : Int)) = false := decide_eq_false c2
        clear c2
        obtain rfl := Option.some.inj H
        go_wp2
        go_ret
        exact ⟨by first | rfl | (simp; done) | (simp [*]; done), by repeat (first | exact Drawn0.refl _ | apply Drawn0.step)⟩

end Go.Proofs.YtjobchgncdgfaaaGreatDoor.PA

namespace Go.Proofs.YtjobchgncdgfaaaGreatDoor.Pure
open Go.RowKit Go.Proofs.YtjobchgncdgfaaaGreatDoorW.PrintWords Go.Proofs.YtjobchgncdgfaaaGreatDoorW.PrintMore Go.Proofs.YtjobchgncdgfaaaGreatDoor.Pl Go.Proofs.YtjobchgncdgfaaaGreatDoor.PA

theorem hp_one (c : UInt8) (s : List UInt8) : strings_HasPrefix.f (B s) ⟨#[c]⟩ = some (decide (s.head? = some c)) := by
  unfold strings_HasPrefix.f
  rw [B_data, show (⟨#[c]⟩ : ByteArray).data.toList = [c] from rfl]
  congr 1
  cases s with
  | nil => rfl
  | cons x t =>
    by_cases hx : x = c
    · subst hx
      simp [Lib.hasPrefix, List.isPrefixOf]
    · simp [Lib.hasPrefix, List.isPrefixOf, hx]
      exact fun e => hx e.symm
theorem white_f (s : List UInt8) (h : s.length ≤ 1099511627776) : link_White.f (B s) = some (wht s : Int) := by
  unfold link_White.f strings_TrimLeft.f
  have h1 := trim_le s [32, 9, 10]
  have e : (⟨(Lib.trimLeftS s [32, 9, 10]).toArray⟩ : ByteArray).size = (Lib.trimLeftS s [32, 9, 10]).length := B_size _
  rw [if_pos ⟨by rw [B_size]; omega, by decide, by decide⟩, Option.bind_some, B_data, show (⟨#[32, 9, 10]⟩ : ByteArray).data.toList = [32, 9, 10] from rfl, B_size, e, wht_int]
  have := wht_le s
  rw [w64 (by omega) (by omega)]
theorem label_f (s : List UInt8) (h : s.length ≤ 1048576) : link_Label.f (B s) = some (B (lab s).1, ((lab s).2 : Int)) := by
  unfold link_Label.f
  rw [if_pos (by rw [B_size]; exact h), B_data]
theorem dest_f (s : List UInt8) (h : s.length ≤ 1048576) : link_Dest.f (B s) = some (B (dst s).1, ((dst s).2.1 : Int), (dst s).2.2) := by
  unfold link_Dest.f
  rw [if_pos (by rw [B_size]; exact h), B_data]
theorem title_f (s : List UInt8) (h : s.length ≤ 1048576) : link_Title.f (B s) = some (B (ttl s).1, ((ttl s).2 : Int)) := by
  unfold link_Title.f
  rw [if_pos (by rw [B_size]; exact h), B_data]
theorem drop_lt {t : List UInt8} {E : Nat} {y : UInt8} {u : List UInt8} (h : t.drop E = y :: u) : E < t.length := by
  rcases Nat.lt_or_ge E t.length with h1 | h1
  · exact h1
  · rw [List.drop_eq_nil_of_le h1] at h; cases h
theorem ang_le (t : List UInt8) : (ang t).2.1 ≤ t.length + 1 := by
  unfold ang
  split
  · exact Nat.zero_le _
  · rename_i y u h
    have := drop_lt h
    split
    · show eachL pAng t + 2 ≤ t.length + 1; omega
    · exact Nat.zero_le _
theorem dst_le (s : List UInt8) : (dst s).2.1 ≤ s.length := by
  unfold dst
  split
  · rename_i h
    cases s with
    | nil => cases h
    | cons x t => exact ang_le t
  · split
    · exact Nat.zero_le _
    · exact (dstL_le s 0 false).1
theorem ttl_le (s : List UInt8) : (ttl s).2 ≤ s.length := by
  cases s with
  | nil => exact Nat.le_refl _
  | cons x t =>
    rw [ttl_cons]
    split
    · exact Nat.zero_le _
    · split
      · exact Nat.zero_le _
      · rename_i y u h
        have := drop_lt h
        split
        · split
          · exact Nat.zero_le _
          · show eachL (pTit (cls (x :: t))) t + 2 ≤ t.length + 1; omega
        · exact Nat.zero_le _
def a1 (s : List UInt8) : Nat := 1 + wht (s.drop 1)
def tD (s : List UInt8) : List UInt8 × Nat × Bool := dst (s.drop (a1 s))
def a2 (s : List UInt8) : Nat := a1 s + (tD s).2.1
def tG (s : List UInt8) : Nat := wht (s.drop (a2 s))
def tT (s : List UInt8) : List UInt8 × Nat := ttl (s.drop (a2 s + tG s))
def tOk (s : List UInt8) : Bool := decide (0 < (tD s).2.1) && (decide (0 < tG s) && decide (0 < (tT s).2))
def a3 (s : List UInt8) : Nat := if tOk s = true then a2 s + tG s + (tT s).2 else a2 s
def a4 (s : List UInt8) : Nat := a3 s + wht (s.drop (a3 s))
/-- An address and a title in parentheses, and how long all of it is. -/
def tlr (s : List UInt8) : List UInt8 × List UInt8 × Nat :=
  if s.head? = some 40 then (if (s.drop (a4 s)).head? = some 41 then ((tD s).1, (if tOk s = true then (tT s).1 else []), a4 s + 1) else ([], [], 0)) else ([], [], 0)
theorem a_le (s : List UInt8) (h : s ≠ []) : a1 s ≤ s.length ∧ a2 s ≤ s.length ∧ a2 s + tG s ≤ s.length ∧ a3 s ≤ s.length ∧ a4 s ≤ s.length := by
  have h0 : 1 ≤ s.length := by rcases Nat.eq_zero_or_pos s.length with e | e; exact absurd (List.length_eq_zero_iff.1 e) h; exact e
  have e1 : a1 s ≤ s.length := by
    have := wht_le (s.drop 1)
    rw [List.length_drop] at this
    unfold a1; omega
  have e2 : a2 s ≤ s.length := by
    have := dst_le (s.drop (a1 s))
    rw [List.length_drop] at this
    unfold a2 tD; omega
  have e3 : a2 s + tG s ≤ s.length := by
    have := wht_le (s.drop (a2 s))
    rw [List.length_drop] at this
    unfold tG; omega
  have e4 : a3 s ≤ s.length := by
    have := ttl_le (s.drop (a2 s + tG s))
    rw [List.length_drop] at this
    unfold a3
    split
    · unfold tT; omega
    · exact e2
  refine ⟨e1, e2, e3, e4, ?_⟩
  have := wht_le (s.drop (a3 s))
  rw [List.length_drop] at this
  unfold a4; omega
theorem j1_ev (s : List UInt8) (hs : s.length ≤ 1048576) (at_ : Nat) (hat : at_ ≤ s.length) (d t : List UInt8) :
    Ev (fun k => link_Tail.j1 k (B s) (at_ : Int) (B d) (B t)) (if (s.drop (at_ + wht (s.drop at_))).head? = some 41 then (B d, B t, ((at_ + wht (s.drop at_) + 1 : Nat) : Int)) else (B [], B [], 0)) := by
  have hw := wht_le (s.drop at_)
  rw [List.length_drop] at hw
  have hx : (B s).extract ((at_ : Int)).toNat (B s).size = B (s.drop at_) := by rw [Int.toNat_natCast]; exact B_from s at_ _ (B_size _)
  have hw1 : wrap64 ((at_ : Int) + (wht (s.drop at_) : Int)) = ((at_ + wht (s.drop at_) : Nat) : Int) := by rw [w64 (by omega) (by omega)]; omega
  have hx2 : (B s).extract (((at_ + wht (s.drop at_) : Nat) : Int)).toNat (B s).size = B (s.drop (at_ + wht (s.drop at_))) := by rw [Int.toNat_natCast]; exact B_from s _ _ (B_size _)
  refine Ev.step (f := fun _ => some (if (s.drop (at_ + wht (s.drop at_))).head? = some 41 then (B d, B t, ((at_ + wht (s.drop at_) + 1 : Nat) : Int)) else (B [], B [], 0))) (fun k => ?_) (Ev.now _)
  simp only [link_Tail.j1]
  rw [if_pos (by omega), if_pos (by rw [B_size]; omega), hx, white_f _ (by rw [List.length_drop]; omega), Option.bind_some, hw1, if_pos (by omega), if_pos (by rw [B_size]; omega), hx2, hp_one, Option.bind_some]
  by_cases h : (s.drop (at_ + wht (s.drop at_))).head? = some 41
  · rw [if_pos (decide_eq_true h), if_pos h, w64 (by omega) (by omega)]
    rfl
  · rw [if_neg (by rw [decide_eq_false h]; decide), if_neg h]
    rfl
theorem nn (n : Nat) : (0 : Int) ≤ (n : Int) := Int.natCast_nonneg n
theorem szl {s : List UInt8} {n : Nat} (h : n ≤ s.length) : (n : Int) ≤ ((B s).size : Int) := by rw [B_size]; exact Int.ofNat_le.2 h
theorem wadd {a b : Nat} (h : a + b ≤ 1048577) : wrap64 ((a : Int) + (b : Int)) = ((a + b : Nat) : Int) := by rw [w64 (by omega) (by omega)]; omega
theorem wadd1 {b : Nat} (h : 1 + b ≤ 1048577) : wrap64 (1 + (b : Int)) = ((1 + b : Nat) : Int) := by rw [w64 (by omega) (by omega)]; omega
theorem dlen (s : List UInt8) (n : Nat) (hs : s.length ≤ 1048576) : (s.drop n).length ≤ 1048576 := by rw [List.length_drop]; omega
theorem dlen2 (s : List UInt8) (n : Nat) (hs : s.length ≤ 1048576) : (s.drop n).length ≤ 1099511627776 := by rw [List.length_drop]; omega
theorem ipos {n : Nat} (h : 0 < n) : (n : Int) > 0 := by omega
theorem inpos {n : Nat} (h : ¬ 0 < n) : ¬ ((n : Int) > 0) := by omega
theorem tOk_eq (s : List UInt8) : tOk s = (decide (0 < (tD s).2.1) && (decide (0 < tG s) && decide (0 < (tT s).2))) := rfl
/-- What the tail's end answers. -/
def tlE (s : List UInt8) (d : List UInt8) (t : List UInt8) (a : Nat) : ByteArray × ByteArray × Int :=
  if (s.drop a).head? = some 41 then (B d, B t, ((a + 1 : Nat) : Int)) else (B [], B [], 0)
theorem j0_no (s : List UInt8) (hs : s.length ≤ 1048576) (p : Nat) (l2 : p ≤ s.length) (d : List UInt8) (g : Int) : Ev (fun k => link_Tail.j0 k (B s) (p : Int) (B d) (B []) g false) (tlE s d [] (p + wht (s.drop p))) := by
  refine Ev.step (f := fun k => link_Tail.j1 k (B s) (p : Int) (B d) (B [])) (fun k => ?_) (j1_ev s hs p l2 d [])
  simp only [link_Tail.j0]
  rw [if_neg (by decide)]
theorem j0_yes (s : List UInt8) (hs : s.length ≤ 1048576) (p g : Nat) (l2 : p ≤ s.length) (l3 : p + g ≤ s.length) (d : List UInt8) (T : List UInt8 × Nat) (hT : ttl (s.drop (p + g)) = T) (lT : p + g + T.2 ≤ s.length) :
    Ev (fun k => link_Tail.j0 k (B s) (p : Int) (B d) (B []) (g : Int) true) (if 0 < T.2 then tlE s d T.1 (p + g + T.2 + wht (s.drop (p + g + T.2))) else tlE s d [] (p + wht (s.drop p))) := by
  have w3 : wrap64 ((p : Int) + (g : Int)) = ((p + g : Nat) : Int) := wadd (Nat.le_trans l3 (by omega))
  have x4 : (B s).extract (((p + g : Nat) : Int)).toNat (B s).size = B (s.drop (p + g)) := by rw [Int.toNat_natCast]; exact B_from s _ _ (B_size _)
  have ht := title_f (s.drop (p + g)) (dlen s _ hs)
  rw [hT] at ht
  have hstep : ∀ k, link_Tail.j0 (k + 1) (B s) (p : Int) (B d) (B []) (g : Int) true = if ((T.2 : Nat) : Int) > 0 then link_Tail.j1 k (B s) (wrap64 (((p + g : Nat) : Int) + ((T.2 : Nat) : Int))) (B d) (B T.1) else link_Tail.j1 k (B s) (p : Int) (B d) (B []) := by
    intro k
    simp only [link_Tail.j0]
    rw [if_pos trivial, w3, if_pos (nn _), if_pos (szl l3), x4, ht, Option.bind_some]
  by_cases h : 0 < T.2
  · rw [if_pos h]
    have w4 : wrap64 (((p + g : Nat) : Int) + ((T.2 : Nat) : Int)) = ((p + g + T.2 : Nat) : Int) := wadd (Nat.le_trans lT (by omega))
    refine Ev.step (f := fun k => link_Tail.j1 k (B s) ((p + g + T.2 : Nat) : Int) (B d) (B T.1)) (fun k => ?_) (j1_ev s hs (p + g + T.2) lT d T.1)
    rw [hstep, if_pos (ipos h), w4]
  · rw [if_neg h]
    refine Ev.step (f := fun k => link_Tail.j1 k (B s) (p : Int) (B d) (B [])) (fun k => ?_) (j1_ev s hs p l2 d [])
    rw [hstep, if_neg (inpos h)]
theorem tail_ev (s : List UInt8) (hs : s.length ≤ 1048576) : Ev (fun k => link_Tail.f k (B s)) (B (tlr s).1, B (tlr s).2.1, ((tlr s).2.2 : Int)) := by
  by_cases h40 : s.head? = some 40
  · have hne : s ≠ [] := fun e => by rw [e] at h40; cases h40
    obtain ⟨l1, l2, l3, l4, l5⟩ := a_le s hne
    have h0 : 1 ≤ s.length := by rcases Nat.eq_zero_or_pos s.length with e | e; exact absurd (List.length_eq_zero_iff.1 e) hne; exact e
    have ht : (B (tlr s).1, B (tlr s).2.1, ((tlr s).2.2 : Int)) = tlE s (tD s).1 (if tOk s = true then (tT s).1 else []) (a4 s) := by
      unfold tlr tlE
      rw [if_pos h40]
      split <;> rfl
    rw [ht]
    have x1 : (B s).extract 1 (B s).size = B (s.drop 1) := B_from s 1 _ (B_size _)
    have w1 : wrap64 (1 + (wht (s.drop 1) : Int)) = ((a1 s : Nat) : Int) := wadd1 (Nat.le_trans l1 (by omega))
    have x2 : (B s).extract (((a1 s : Nat) : Int)).toNat (B s).size = B (s.drop (a1 s)) := by rw [Int.toNat_natCast]; exact B_from s _ _ (B_size _)
    have w2 : wrap64 (((a1 s : Nat) : Int) + ((tD s).2.1 : Int)) = ((a2 s : Nat) : Int) := wadd (Nat.le_trans l2 (by omega))
    have x3 : (B s).extract (((a2 s : Nat) : Int)).toNat (B s).size = B (s.drop (a2 s)) := by rw [Int.toNat_natCast]; exact B_from s _ _ (B_size _)
    have hdf : link_Dest.f (B (s.drop (a1 s))) = some (B (tD s).1, ((tD s).2.1 : Int), (tD s).2.2) := dest_f (s.drop (a1 s)) (dlen s _ hs)
    have hj0 : ∀ b : Bool, b = (decide (0 < (tD s).2.1) && decide (0 < tG s)) → Ev (fun k => link_Tail.j0 k (B s) (a2 s : Int) (B (tD s).1) (B []) (tG s : Int) b) (tlE s (tD s).1 (if tOk s = true then (tT s).1 else []) (a4 s)) := by
      intro b hb
      cases b with
      | false =>
        have hok : tOk s = false := by rw [tOk_eq, ← Bool.and_assoc, ← hb, Bool.false_and]
        have e3 : a3 s = a2 s := by unfold a3; rw [if_neg (by rw [hok]; decide)]
        have hj := j0_no s hs (a2 s) l2 (tD s).1 (tG s)
        rw [if_neg (show ¬ tOk s = true by rw [hok]; decide)]
        unfold a4
        rw [e3]
        exact hj
      | true =>
        have hok : tOk s = decide (0 < (tT s).2) := by rw [tOk_eq, ← Bool.and_assoc, ← hb, Bool.true_and]
        have l6 := ttl_le (s.drop (a2 s + tG s))
        rw [List.length_drop] at l6
        have lT : a2 s + tG s + (tT s).2 ≤ s.length := by
          have l7 : (tT s).2 ≤ s.length - (a2 s + tG s) := l6
          omega
        have hj := j0_yes s hs (a2 s) (tG s) l2 l3 (tD s).1 (tT s) rfl lT
        by_cases ht : 0 < (tT s).2
        · rw [decide_eq_true ht] at hok
          have e3 : a3 s = a2 s + tG s + (tT s).2 := by unfold a3; rw [if_pos hok]
          rw [if_pos ht, ← e3] at hj
          rw [if_pos hok]
          exact hj
        · rw [decide_eq_false ht] at hok
          have e3 : a3 s = a2 s := by unfold a3; rw [if_neg (by rw [hok]; decide)]
          rw [if_neg ht] at hj
          rw [if_neg (show ¬ tOk s = true by rw [hok]; decide)]
          unfold a4
          rw [e3]
          exact hj
    unfold link_Tail.f
    refine Ev.congr (f := fun k => link_Tail.j0 k (B s) (a2 s : Int) (B (tD s).1) (B []) (tG s : Int) (decide (0 < (tD s).2.1) && decide (0 < tG s))) (fun k => ?_) (hj0 _ rfl)
    rw [hp_one, Option.bind_some, if_pos (decide_eq_true h40), if_pos (show (1 : Int) ≤ _ from szl (n := 1) h0), x1, white_f _ (dlen2 s 1 hs), Option.bind_some, w1, if_pos (nn _), if_pos (szl l1), x2, hdf, Option.bind_some]
    dsimp only
    rw [w2, if_pos (nn _), if_pos (szl l2), x3, white_f _ (dlen2 s _ hs), Option.bind_some]
    have hg : decide (((wht (s.drop (a2 s)) : Nat) : Int) > 0) = decide (0 < tG s) := decide_eq_decide.2 ⟨fun h => by have h2 : ((tG s : Nat) : Int) > 0 := h; omega, fun h => ipos h⟩
    by_cases hd : 0 < (tD s).2.1
    · rw [if_pos (ipos hd), decide_eq_true hd, Bool.true_and, hg]
      rfl
    · rw [if_neg (inpos hd), decide_eq_false hd, Bool.false_and]
      rfl
  · have ht : tlr s = ([], [], 0) := by unfold tlr; rw [if_neg h40]
    rw [ht]
    unfold link_Tail.f
    refine Ev.congr (f := fun _ => some (B [], B [], 0)) (fun k => ?_) (Ev.now _)
    rw [hp_one, Option.bind_some, if_neg (by rw [decide_eq_false h40]; decide)]
    rfl
theorem awake_at : incipitlaw09_awake.f 8 = some true := by decide +kernel
theorem awake_ev : Ev (fun k => incipitlaw09_awake.f k) true := Ev.of incipitlaw09_awake.mono awake_at
end Go.Proofs.YtjobchgncdgfaaaGreatDoor.Pure

namespace Go.Proofs.YtjobchgncdgfaaaGreatDoor.Pure
open Go.RowKit Go.Proofs.YtjobchgncdgfaaaGreatDoorW.PrintWords Go.Proofs.YtjobchgncdgfaaaGreatDoorW.PrintMore Go.Proofs.YtjobchgncdgfaaaGreatDoor.Pl Go.Proofs.YtjobchgncdgfaaaGreatDoor.PA

theorem lab_at (s t : List UInt8) (y : UInt8) (he : eachL pLab (s ++ y :: t) = s.length) :
    lab (91 :: (s ++ y :: t)) = if y = 91 ∨ 999 < s.length ∨ wht s = s.length then ([], 0) else (s, s.length + 2) := by
  have h1 : (s ++ y :: t).drop s.length = y :: t := List.drop_left' rfl
  have h2 : (s ++ y :: t).take s.length = s := List.take_left' rfl
  have e : lab (91 :: (s ++ y :: t)) = match (s ++ y :: t).drop (eachL pLab (s ++ y :: t)) with
      | [] => ([], 0)
      | z :: _ => if z = 91 ∨ 999 < eachL pLab (s ++ y :: t) ∨ wht ((s ++ y :: t).take (eachL pLab (s ++ y :: t))) = eachL pLab (s ++ y :: t) then ([], 0) else ((s ++ y :: t).take (eachL pLab (s ++ y :: t)), eachL pLab (s ++ y :: t) + 2) := rfl
  rw [e, he, h1, h2]
theorem lab_no (x : UInt8) (t : List UInt8) (h : x ≠ 91) : lab (x :: t) = ([], 0) := if_neg h
theorem cls_ne (s : List UInt8) : cls s ≠ 92 := by
  cases s with
  | nil => decide
  | cons x t =>
    rw [cls_cons]
    by_cases h : x = 34
    · rw [if_pos h, h]; decide
    · rw [if_neg h]
      by_cases h : x = 39
      · rw [if_pos h, h]; decide
      · rw [if_neg h]
        by_cases h : x = 40
        · rw [if_pos h]; decide
        · rw [if_neg h]; decide
theorem lab_plain (x : UInt8) : pLab x = false ↔ x ≠ 91 ∧ x ≠ 93 := by
  unfold pLab
  rw [Bool.or_eq_false_iff, decide_eq_false_iff_not, decide_eq_false_iff_not]
end Go.Proofs.YtjobchgncdgfaaaGreatDoor.Pure

namespace Go.Proofs.YtjobchgncdgfaaaGreatDoor.Pure
open Go.RowKit Go.Proofs.YtjobchgncdgfaaaGreatDoorW.PrintWords Go.Proofs.YtjobchgncdgfaaaGreatDoorW.PrintMore Go.Proofs.YtjobchgncdgfaaaGreatDoor.Pl Go.Proofs.YtjobchgncdgfaaaGreatDoor.PA

theorem ttl_at (q : UInt8) (a t : List UInt8) (y c : UInt8) (hc : ∀ r, cls (q :: r) = c) (h0 : c ≠ 0) (he : eachL (pTit c) (a ++ y :: t) = a.length) :
    ttl (q :: (a ++ y :: t)) = if y = c then (if gp false a = true then ([], 0) else (une a, a.length + 2)) else ([], 0) := by
  rw [ttl_cons, hc, if_neg h0, he, List.drop_left' rfl, List.take_left' rfl]
end Go.Proofs.YtjobchgncdgfaaaGreatDoor.Pure

namespace Go.Proofs.YtjobchgncdgfaaaGreatDoor.PA
open Go.RowKit Go.Proofs.YtjobchgncdgfaaaGreatDoorW.PrintWords Go.Proofs.YtjobchgncdgfaaaGreatDoorW.PrintLast Go.Proofs.YtjobchgncdgfaaaGreatDoorW.PrintMore
attribute [local go_sem] max2_int min2_int max_two min_two max_three min_three max_four min_four   -- for this text's walks alone
set_option linter.unusedVariables false
set_option linter.unusedSimpArgs false

/-! ### incipitref05_Sign: function 37 -/
def incipitref05_Sign.f (a0 : Int) : Option (Bool) := if a0 ≥ 33 then (if a0 ≤ 47 then (some true) else (if a0 ≥ 58 then (if a0 ≤ 64 then (some true) else (if a0 ≥ 91 then (if a0 ≤ 96 then (some true) else (if a0 ≥ 123 then (some (decide (a0 ≤ 126))) else (some false))) else (if a0 ≥ 123 then (some (decide (a0 ≤ 126))) else (some false)))) else (if a0 ≥ 91 then (if a0 ≤ 96 then (some true) else (if a0 ≥ 123 then (some (decide (a0 ≤ 126))) else (some false))) else (if a0 ≥ 123 then (some (decide (a0 ≤ 126))) else (some false))))) else (if a0 ≥ 58 then (if a0 ≤ 64 then (some true) else (if a0 ≥ 91 then (if a0 ≤ 96 then (some true) else (if a0 ≥ 123 then (some (decide (a0 ≤ 126))) else (some false))) else (if a0 ≥ 123 then (some (decide (a0 ≤ 126))) else (some false)))) else (if a0 ≥ 91 then (if a0 ≤ 96 then (some true) else (if a0 ≥ 123 then (some (decide (a0 ≤ 126))) else (some false))) else (if a0 ≥ 123 then (some (decide (a0 ≤ 126))) else (some false))))
set_option maxHeartbeats 8000000 in
set_option maxRecDepth 100000 in
theorem incipitref05_Sign.calls (a0 : Int) (r : Bool) (w : World) (h : incipitref05_Sign.f a0 = some r) :
    Calls Tryz.prog 37 #[.int .u8 a0] w fun e w' => e = .returned (.bool r) ∧ Drawn0 w w' := by
  have H : (if a0 ≥ 33 then (if a0 ≤ 47 then (some true) else (if a0 ≥ 58 then (if a0 ≤ 64 then (some true) else (if a0 ≥ 91 then (if a0 ≤ 96 then (some true) else (if a0 ≥ 123 then (some (decide (a0 ≤ 126))) else (some false))) else (if a0 ≥ 123 then (some (decide (a0 ≤ 126))) else (some false)))) else (if a0 ≥ 91 then (if a0 ≤ 96 then (some true) else (if a0 ≥ 123 then (some (decide (a0 ≤ 126))) else (some false))) else (if a0 ≥ 123 then (some (decide (a0 ≤ 126))) else (some false))))) else (if a0 ≥ 58 then (if a0 ≤ 64 then (some true) else (if a0 ≥ 91 then (if a0 ≤ 96 then (some true) else (if a0 ≥ 123 then (some (decide (a0 ≤ 126))) else (some false))) else (if a0 ≥ 123 then (some (decide (a0 ≤ 126))) else (some false)))) else (if a0 ≥ 91 then (if a0 ≤ 96 then (some true) else (if a0 ≥ 123 then (some (decide (a0 ≤ 126))) else (some false))) else (if a0 ≥ 123 then (some (decide (a0 ≤ 126))) else (some false))))) = some r := h
  clear h
  by_cases c2 : a0 ≥ 33
  · rw [if_pos c2] at H
    have c2b0 : decide (33 ≤ a0) = true := decide_eq_true c2
    clear c2
    by_cases c3 : a0 ≤ 47
    · rw [if_pos c3] at H
      have c3b0 : decide (a0 ≤ 47) = true := decide_eq_true c3
      clear c3
      obtain rfl := Option.some.inj H
      go_enter Tryz.func37, Tryz.ntmps37
      go_wp2
      go_ret
      exact ⟨by first | rfl | (simp; done) | (simp [*]; done), by repeat (first | exact Drawn0.refl _ | apply Drawn0.step)⟩
    · rw [if_neg c3] at H
      have c3b0 : decide (a0 ≤ 47) = false := decide_eq_false c3
      clear c3
      by_cases c4 : a0 ≥ 58
      · rw [if_pos c4] at H
        have c4b0 : decide (58 ≤ a0) = true := decide_eq_true c4
        clear c4
        by_cases c5 : a0 ≤ 64
        · rw [if_pos c5] at H
          have c5b0 : decide (a0 ≤ 64) = true := decide_eq_true c5
          clear c5
          obtain rfl := Option.some.inj H
          go_enter Tryz.func37, Tryz.ntmps37
          go_wp2
          go_ret
          exact ⟨by first | rfl | (simp; done) | (simp [*]; done), by repeat (first | exact Drawn0.refl _ | apply Drawn0.step)⟩
        · rw [if_neg c5] at H
          have c5b0 : decide (a0 ≤ 64) = false := decide_eq_false c5
          clear c5
          by_cases c6 : a0 ≥ 91
          · rw [if_pos c6] at H
            have c6b0 : decide (91 ≤ a0) = true := decide_eq_true c6
            clear c6
            by_cases c7 : a0 ≤ 96
            · rw [if_pos c7] at H
              have c7b0 : decide (a0 ≤ 96) = true := decide_eq_true c7
              clear c7
              obtain rfl := Option.some.inj H
              go_enter Tryz.func37, Tryz.ntmps37
              go_wp2
              go_ret
              exact ⟨by first | rfl | (simp; done) | (simp [*]; done), by repeat (first | exact Drawn0.refl _ | apply Drawn0.step)⟩
            · rw [if_neg c7] at H
              have c7b0 : decide (a0 ≤ 96) = false := decide_eq_false c7
              clear c7
              by_cases c8 : a0 ≥ 123
              · rw [if_pos c8] at H
                have c8b0 : decide (123 ≤ a0) = true := decide_eq_true c8
                clear c8
                obtain rfl := Option.some.inj H
                go_enter Tryz.func37, Tryz.ntmps37
                go_wp2
                go_ret
                exact ⟨by first | rfl | (simp; done) | (simp [*]; done), by repeat (first | exact Drawn0.refl _ | apply Drawn0.step)⟩
              · rw [if_neg c8] at H
                have c8b0 : decide (123 ≤ a0) = false := decide_eq_false c8
                clear c8
                obtain rfl := Option.some.inj H
                go_enter Tryz.func37, Tryz.ntmps37
                go_wp2
                go_ret
                exact ⟨by first | rfl | (simp; done) | (simp [*]; done), by repeat (first | exact Drawn0.refl _ | apply Drawn0.step)⟩
          · rw [if_neg c6] at H
            have c6b0 : decide (91 ≤ a0) = false := decide_eq_false c6
            clear c6
            by_cases c9 : a0 ≥ 123
            · rw [if_pos c9] at H
              have c9b0 : decide (123 ≤ a0) = true := decide_eq_true c9
              clear c9
              obtain rfl := Option.some.inj H
              go_enter Tryz.func37, Tryz.ntmps37
              go_wp2
              go_ret
              exact ⟨by first | rfl | (simp; done) | (simp [*]; done), by repeat (first | exact Drawn0.refl _ | apply Drawn0.step)⟩
            · rw [if_neg c9] at H
              have c9b0 : decide (123 ≤ a0) = false := decide_eq_false c9
              clear c9
              obtain rfl := Option.some.inj H
              go_enter Tryz.func37, Tryz.ntmps37
              go_wp2
              go_ret
              exact ⟨by first | rfl | (simp; done) | (simp [*]; done), by repeat (first | exact Drawn0.refl _ | apply Drawn0.step)⟩
      · rw [if_neg c4] at H
        have c4b0 : decide (58 ≤ a0) = false := decide_eq_false c4
        clear c4
        by_cases c10 : a0 ≥ 91
        · rw [if_pos c10] at H
          have c10b0 : decide (91 ≤ a0) = true := decide_eq_true c10
          clear c10
          by_cases c11 : a0 ≤ 96
          · rw [if_pos c11] at H
            have c11b0 : decide (a0 ≤ 96) = true := decide_eq_true c11
            clear c11
            obtain rfl := Option.some.inj H
            go_enter Tryz.func37, Tryz.ntmps37
            go_wp2
            go_ret
            exact ⟨by first | rfl | (simp; done) | (simp [*]; done), by repeat (first | exact Drawn0.refl _ | apply Drawn0.step)⟩
          · rw [if_neg c11] at H
            have c11b0 : decide (a0 ≤ 96) = false := decide_eq_false c11
            clear c11
            by_cases c12 : a0 ≥ 123
            · rw [if_pos c12] at H
              have c12b0 : decide (123 ≤ a0) = true := decide_eq_true c12
              clear c12
              obtain rfl := Option.some.inj H
              go_enter Tryz.func37, Tryz.ntmps37
              go_wp2
              go_ret
              exact ⟨by first | rfl | (simp; done) | (simp [*]; done), by repeat (first | exact Drawn0.refl _ | apply Drawn0.step)⟩
            · rw [if_neg c12] at H
              have c12b0 : decide (123 ≤ a0) = false := decide_eq_false c12
              clear c12
              obtain rfl := Option.some.inj H
              go_enter Tryz.func37, Tryz.ntmps37
              go_wp2
              go_ret
              exact ⟨by first | rfl | (simp; done) | (simp [*]; done), by repeat (first | exact Drawn0.refl _ | apply Drawn0.step)⟩
        · rw [if_neg c10] at H
          have c10b0 : decide (91 ≤ a0) = false := decide_eq_false c10
          clear c10
          by_cases c13 : a0 ≥ 123
          · rw [if_pos c13] at H
            have c13b0 : decide (123 ≤ a0) = true := decide_eq_true c13
            clear c13
            obtain rfl := Option.some.inj H
            go_enter Tryz.func37, Tryz.ntmps37
            go_wp2
            go_ret
            exact ⟨by first | rfl | (simp; done) | (simp [*]; done), by repeat (first | exact Drawn0.refl _ | apply Drawn0.step)⟩
          · rw [if_neg c13] at H
            have c13b0 : decide (123 ≤ a0) = false := decide_eq_false c13
            clear c13
            obtain rfl := Option.some.inj H
            go_enter Tryz.func37, Tryz.ntmps37
            go_wp2
            go_ret
            exact ⟨by first | rfl | (simp; done) | (simp [*]; done), by repeat (first | exact Drawn0.refl _ | apply Drawn0.step)⟩
  · rw [if_neg c2] at H
    have c2b0 : decide (33 ≤ a0) = false := decide_eq_false c2
    clear c2
    by_cases c14 : a0 ≥ 58
    · rw [if_pos c14] at H
      have c14b0 : decide (58 ≤ a0) = true := decide_eq_true c14
      clear c14
      by_cases c15 : a0 ≤ 64
      · rw [if_pos c15] at H
        have c15b0 : decide (a0 ≤ 64) = true := decide_eq_true c15
        clear c15
        obtain rfl := Option.some.inj H
        go_enter Tryz.func37, Tryz.ntmps37
        go_wp2
        go_ret
        exact ⟨by first | rfl | (simp; done) | (simp [*]; done), by repeat (first | exact Drawn0.refl _ | apply Drawn0.step)⟩
      · rw [if_neg c15] at H
        have c15b0 : decide (a0 ≤ 64) = false := decide_eq_false c15
        clear c15
        by_cases c16 : a0 ≥ 91
        · rw [if_pos c16] at H
          have c16b0 : decide (91 ≤ a0) = true := decide_eq_true c16
          clear c16
          by_cases c17 : a0 ≤ 96
          · rw [if_pos c17] at H
            have c17b0 : decide (a0 ≤ 96) = true := decide_eq_true c17
            clear c17
            obtain rfl := Option.some.inj H
            go_enter Tryz.func37, Tryz.ntmps37
            go_wp2
            go_ret
            exact ⟨by first | rfl | (simp; done) | (simp [*]; done), by repeat (first | exact Drawn0.refl _ | apply Drawn0.step)⟩
          · rw [if_neg c17] at H
            have c17b0 : decide (a0 ≤ 96) = false := decide_eq_false c17
            clear c17
            by_cases c18 : a0 ≥ 123
            · rw [if_pos c18] at H
              have c18b0 : decide (123 ≤ a0) = true := decide_eq_true c18
              clear c18
              obtain rfl := Option.some.inj H
              go_enter Tryz.func37, Tryz.ntmps37
              go_wp2
              go_ret
              exact ⟨by first | rfl | (simp; done) | (simp [*]; done), by repeat (first | exact Drawn0.refl _ | apply Drawn0.step)⟩
            · rw [if_neg c18] at H
              have c18b0 : decide (123 ≤ a0) = false := decide_eq_false c18
              clear c18
              obtain rfl := Option.some.inj H
              go_enter Tryz.func37, Tryz.ntmps37
              go_wp2
              go_ret
              exact ⟨by first | rfl | (simp; done) | (simp [*]; done), by repeat (first | exact Drawn0.refl _ | apply Drawn0.step)⟩
        · rw [if_neg c16] at H
          have c16b0 : decide (91 ≤ a0) = false := decide_eq_false c16
          clear c16
          by_cases c19 : a0 ≥ 123
          · rw [if_pos c19] at H
            have c19b0 : decide (123 ≤ a0) = true := decide_eq_true c19
            clear c19
            obtain rfl := Option.some.inj H
            go_enter Tryz.func37, Tryz.ntmps37
            go_wp2
            go_ret
            exact ⟨by first | rfl | (simp; done) | (simp [*]; done), by repeat (first | exact Drawn0.refl _ | apply Drawn0.step)⟩
          · rw [if_neg c19] at H
            have c19b0 : decide (123 ≤ a0) = false := decide_eq_false c19
            clear c19
            obtain rfl := Option.some.inj H
            go_enter Tryz.func37, Tryz.ntmps37
            go_wp2
            go_ret
            exact ⟨by first | rfl | (simp; done) | (simp [*]; done), by repeat (first | exact Drawn0.refl _ | apply Drawn0.step)⟩
    · rw [if_neg c14] at H
      have c14b0 : decide (58 ≤ a0) = false := decide_eq_false c14
      clear c14
      by_cases c20 : a0 ≥ 91
      · rw [if_pos c20] at H
        have c20b0 : decide (91 ≤ a0) = true := decide_eq_true c20
        clear c20
        by_cases c21 : a0 ≤ 96
        · rw [if_pos c21] at H
          have c21b0 : decide (a0 ≤ 96) = true := decide_eq_true c21
          clear c21
          obtain rfl := Option.some.inj H
          go_enter Tryz.func37, Tryz.ntmps37
          go_wp2
          go_ret
          exact ⟨by first | rfl | (simp; done) | (simp [*]; done), by repeat (first | exact Drawn0.refl _ | apply Drawn0.step)⟩
        · rw [if_neg c21] at H
          have c21b0 : decide (a0 ≤ 96) = false := decide_eq_false c21
          clear c21
          by_cases c22 : a0 ≥ 123
          · rw [if_pos c22] at H
            have c22b0 : decide (123 ≤ a0) = true := decide_eq_true c22
            clear c22
            obtain rfl := Option.some.inj H
            go_enter Tryz.func37, Tryz.ntmps37
            go_wp2
            go_ret
            exact ⟨by first | rfl | (simp; done) | (simp [*]; done), by repeat (first | exact Drawn0.refl _ | apply Drawn0.step)⟩
          · rw [if_neg c22] at H
            have c22b0 : decide (123 ≤ a0) = false := decide_eq_false c22
            clear c22
            obtain rfl := Option.some.inj H
            go_enter Tryz.func37, Tryz.ntmps37
            go_wp2
            go_ret
            exact ⟨by first | rfl | (simp; done) | (simp [*]; done), by repeat (first | exact Drawn0.refl _ | apply Drawn0.step)⟩
      · rw [if_neg c20] at H
        have c20b0 : decide (91 ≤ a0) = false := decide_eq_false c20
        clear c20
        by_cases c23 : a0 ≥ 123
        · rw [if_pos c23] at H
          have c23b0 : decide (123 ≤ a0) = true := decide_eq_true c23
          clear c23
          obtain rfl := Option.some.inj H
          go_enter Tryz.func37, Tryz.ntmps37
          go_wp2
          go_ret
          exact ⟨by first | rfl | (simp; done) | (simp [*]; done), by repeat (first | exact Drawn0.refl _ | apply Drawn0.step)⟩
        · rw [if_neg c23] at H
          have c23b0 : decide (123 ≤ a0) = false := decide_eq_false c23
          clear c23
          obtain rfl := Option.some.inj H
          go_enter Tryz.func37, Tryz.ntmps37
          go_wp2
          go_ret
          exact ⟨by first | rfl | (simp; done) | (simp [*]; done), by repeat (first | exact Drawn0.refl _ | apply Drawn0.step)⟩

/-! ### incipitref09_marks: function 23 -/
def incipitref09_marks.l0 : Nat → ByteArray → List Bool → Int → Option (List Bool)
  | 0, _, _, _ => none
  | k + 1, x0, x3, x4 => if (wrap64 (x4 + 1)) < (x0.size : Int) then (if 0 ≤ x4 then (if x4 < (x0.size : Int) then (if (bt x0 x4) = 92 then (if 0 ≤ (wrap64 (x4 + 1)) then ((incipitref05_Sign.f (bt x0 (wrap64 (x4 + 1)))).bind fun t127 => (if t127 = true then (if (wrap64 (x4 + 1)) < (x3.length : Int) then (incipitref09_marks.l0 k x0 (x3.set ((wrap64 (x4 + 1)) : Int).toNat true) (wrap64 ((wrap64 (x4 + 1)) + 1))) else (none)) else (incipitref09_marks.l0 k x0 x3 (wrap64 (x4 + 1))))) else (none)) else (incipitref09_marks.l0 k x0 x3 (wrap64 (x4 + 1)))) else (none)) else (none)) else (some x3)
def incipitref09_marks.f (k : Nat) (a0 : ByteArray) : Option (List Bool) := if 0 ≤ (a0.size : Int) then (if ((a0.size : Int) : Int).toNat ≤ 281474976710656 then (incipitref09_marks.l0 k a0 (List.replicate ((a0.size : Int) : Int).toNat false) 0) else (none)) else (none)
set_option maxHeartbeats 8000000 in
set_option maxRecDepth 100000 in
theorem incipitref09_marks.calls (k : Nat) (a0 : ByteArray) (r : List Bool) (w : World) (h : incipitref09_marks.f k a0 = some r) :
    Calls Tryz.prog 23 #[.string a0] w fun e w' => ∃ v0_ : Value, e = .returned (v0_) ∧ Kd.R Kd.bool 4 w' w.heap.size (fun _ => True) v0_ r ∧ Below w.heap.size w w' := by
  have HB := Aside0.mk (Below.refl w.heap.size w)
  have H : (if 0 ≤ (a0.size : Int) then (if ((a0.size : Int) : Int).toNat ≤ 281474976710656 then (incipitref09_marks.l0 k a0 (List.replicate ((a0.size : Int) : Int).toNat false) 0) else (none)) else (none)) = some r := h
  clear h
  by_cases c2 : 0 ≤ (a0.size : Int)
  · rw [if_pos c2] at H
    have c2b0 := eq_true c2
    have c2b1 : decide (0 ≤ (a0.size : Int)) = true := decide_eq_true c2
    clear c2
    by_cases c3 : ((a0.size : Int) : Int).toNat ≤ 281474976710656
    · rw [if_pos c3] at H
      have c3b0 := eq_true c3
      have c3b1 : decide (((a0.size : Int) : Int).toNat ≤ 281474976710656) = true := decide_eq_true c3
      clear c3
      obtain ⟨y124, hy124⟩ : ∃ y_ : List Bool, y_ = (List.replicate ((a0.size : Int) : Int).toNat false) := ⟨_, rfl⟩
      replace H : (incipitref09_marks.l0 k a0 y124 0) = some r := by first | (rw [hy124]; with_reducible exact H) | (have H2_ := (Option.bind_some _ _).symm.trans H; rw [hy124]; with_reducible exact H2_) | (have H2_ := (Option.bind_some _ _).symm.trans H; with_reducible exact H2_) | with_reducible exact H | (rw [hy124]; exact H) | exact H
      have Ny124 := Aside0.mk hy124
      clear hy124
      have H' := Aside0.mk H
      clear H
      go_enter Tryz.func23, Tryz.ntmps23
      go_wp2_with (first | ((with_reducible refine gate_dst (N := 7) rfl ?_); refine Kd.R_make Kd.bool _ 4 rfl (N := 7) rfl 36 _ _ rfl (a0.size : Int) rfl rfl Tryz.underlying36 (.bool false) 1 info4 rfl (by decide) (by omega) false (ok := fun _ => True) (okp := fun _ => True) rfl (fun _ hk => hk) trivial (of_decide_eq_true (by first | (with_reducible assumption) | assumption)) (Nat.le_trans (Nat.mul_le_mul_right _ (of_decide_eq_true (by first | (with_reducible assumption) | assumption) : (a0.size : Int).toNat ≤ 281474976710656)) (by omega)) (Below.refl _ _) (Nat.le_refl _) ?_; intro v125 w4 ho5 hb hg_ hnew_; clear hg_ hnew_; (first | rw [← Ny124.out] at ho5 | (simp only [Int.reduceToNat] at ho5; rw [← Ny124.out] at ho5)); have n0_ := Aside0.mk (Kd.R_lower ho5 (below_size (by repeat (first | (with_reducible first | exact HB.out | apply below_alloc | apply pw_below_drewN | apply below_drew1) | exact HB.out)))); have n1_ := Aside0.mk (below_step (by repeat (first | (with_reducible first | exact HB.out | apply below_alloc | apply pw_below_drewN | apply below_drew1) | exact HB.out)) hb); clear HB; have HO126 := n0_; have HB := n1_; clear n0_ n1_; clear hb ho5))
      go_loopg [4] k (fun kq v4 w' => ∃ (x3_1 : List Bool) (x4_1 : Int), v4 = .int .i64 x4_1 ∧ Aside0 (incipitref09_marks.l0 kq a0 x3_1 x4_1 = some r) ∧ Aside0 (kq ≤ k) ∧ Aside0 (Kd.R Kd.bool 4 w' w.heap.size (fun _ => True) v125 x3_1) ∧ Aside0 (Below w.heap.size w w'))
      case atStart => exact ⟨(y124), (0), (by first | rfl | (simp; done) | (simp [*]; done)), H', ⟨Nat.le_refl _⟩, ⟨by (with_reducible repeat (first | apply Kd.R_alloc | apply Kd.R_drewN | apply Kd.R_drew)); exact HO126.out⟩, ⟨by repeat (first | (with_reducible first | exact HB.out | apply below_alloc | apply pw_below_drewN | apply below_drew1) | exact HB.out)⟩⟩
      case round =>
        clear H'
        try clear c2
        try clear c2b0
        try clear c2b1
        try clear p2
        try clear c3
        try clear c3b0
        try clear c3b1
        obtain ⟨x3_1, x4_1, rfl, HA, HK1, HO_3, HB⟩ := hrel
        cases gk with
        | zero => exact absurd HA.out (by simp [incipitref09_marks.l0])
        | succ k1 =>
          have H := HA.out
          clear HA
          simp only [incipitref09_marks.l0] at H
          by_cases c6 : (wrap64 (x4_1 + 1)) < (a0.size : Int)
          · rw [if_pos c6] at H
            have c6b0 : decide ((wrap64 (x4_1 + 1)) < (a0.size : Int)) = true := decide_eq_true c6
            clear c6
            by_cases c7 : 0 ≤ x4_1
            · rw [if_pos c7] at H
              have c7b0 : decide (0 ≤ x4_1) = true := decide_eq_true c7
              clear c7
              by_cases c8 : x4_1 < (a0.size : Int)
              · rw [if_pos c8] at H
                have c8b0 : decide (x4_1 < (a0.size : Int)) = true := decide_eq_true c8
                clear c8
                by_cases c10 : (bt a0 x4_1) = 92
                · rw [if_pos c10] at H
                  have c10b0 : ((bt a0 x4_1) == 92) = true := beq_iff_eq.mpr c10
                  have c10b1 : ((bt a0 x4_1) != 92) = false := bne_eq_false_iff_eq.mpr c10
                  clear c10
                  obtain ⟨ji11, hji11⟩ : ∃ j_ : Int, (wrap64 (x4_1 + 1)) = j_ := ⟨_, rfl⟩
                  replace H : (if 0 ≤ (ji11) then ((incipitref05_Sign.f (bt a0 (ji11))).bind fun t127 => (if t127 = true then (if (ji11) < (x3_1.length : Int) then (incipitref09_marks.l0 k1 a0 (x3_1.set ((ji11) : Int).toNat true) (wrap64 ((ji11) + 1))) else (none)) else (incipitref09_marks.l0 k1 a0 x3_1 ji11))) else (none)) = some r := by first | (rw [hji11] at H; exact H) | (simp only [hji11] at H ⊢; exact H)
                  (try rw [hji11] at c6b0)
                  have hji11w : (IntKind.i64.wrap (x4_1 + 1)) = ji11 := (i64_w _).trans hji11
                  by_cases c12 : 0 ≤ (ji11)
                  · rw [if_pos c12] at H
                    have c12b0 : decide (0 ≤ (ji11)) = true := decide_eq_true c12
                    clear c12
                    replace H := Option.bind_eq_some_iff.mp H
                    obtain ⟨t127, A140, H⟩ := H
                    replace H : (if t127 = true then (if (ji11) < (x3_1.length : Int) then (incipitref09_marks.l0 k1 a0 (x3_1.set ((ji11) : Int).toNat true) (wrap64 ((ji11) + 1))) else (none)) else (incipitref09_marks.l0 k1 a0 x3_1 ji11)) = some r := H
                    have A14 := Aside0.mk A140
                    clear A140
                    by_cases c15 : t127 = true
                    · subst c15
                      have H1 : (if (ji11) < (x3_1.length : Int) then (incipitref09_marks.l0 k1 a0 (x3_1.set ((ji11) : Int).toNat true) (wrap64 ((ji11) + 1))) else (none)) = some r := by rw [if_pos rfl] at H; exact H
                      clear H
                      have H := H1
                      clear H1
                      by_cases c16 : (ji11) < (x3_1.length : Int)
                      · rw [if_pos c16] at H
                        have c16b0 : decide ((ji11) < (x3_1.length : Int)) = true := decide_eq_true c16
                        clear c16
                        obtain ⟨y128, hy128⟩ : ∃ y_ : List Bool, y_ = (x3_1.set ((ji11) : Int).toNat true) := ⟨_, rfl⟩
                        replace H : (incipitref09_marks.l0 k1 a0 y128 (wrap64 ((ji11) + 1))) = some r := by first | (rw [hy128]; with_reducible exact H) | (have H2_ := (Option.bind_some _ _).symm.trans H; rw [hy128]; with_reducible exact H2_) | (have H2_ := (Option.bind_some _ _).symm.trans H; with_reducible exact H2_) | with_reducible exact H | (rw [hy128]; exact H) | exact H
                        have Ny128 := Aside0.mk hy128
                        clear hy128
                        have H' := Aside0.mk H
                        clear H
                        have p9 : 0 ≤ (x4_1 : Int) := of_decide_eq_true (by first | (with_reducible assumption) | assumption)
                        have q9 : x4_1 < (a0.size : Int) := of_decide_eq_true (by first | (with_reducible assumption) | assumption)
                        have hx9 := bt_at a0 x4_1
                        replace p9 := eq_true p9
                        replace q9 := eq_true q9
                        have p13 : 0 ≤ ((ji11) : Int) := of_decide_eq_true (by first | (with_reducible assumption) | assumption)
                        have q13 : (ji11) < (a0.size : Int) := of_decide_eq_true (by first | (with_reducible assumption) | assumption)
                        have hx13 := bt_at a0 (ji11)
                        replace p13 := eq_true p13
                        replace q13 := eq_true q13
                        go_wp2_with (first | (go_at_call 37; (with_reducible refine (incipitref05_Sign.calls (bt a0 (ji11)) true _ A14.out).mono ?_); rintro e w' ⟨rfl, ⟨nd, rfl⟩⟩; (try (rw [drewN_self wr]; generalize hq_ : World.drewN wr _ = wr; have n0_ : Aside0 (Kd.R Kd.bool 4 wr w.heap.size (fun _ => True) v125 x3_1) := ⟨by rw [← hq_]; exact (by (with_reducible repeat (first | apply Kd.R_alloc | apply Kd.R_drewN | apply Kd.R_drew)); exact HO_3.out)⟩; have n1_ : Aside0 (Below w.heap.size w wr) := ⟨by rw [← hq_]; exact (by repeat (first | (with_reducible first | exact HB.out | apply below_alloc | apply pw_below_drewN | apply below_drew1) | exact HB.out))⟩; clear HO_3 HB hq_; have HO_3 := n0_; have HB := n1_; clear n0_ n1_)); have p17 : 0 ≤ ((ji11) : Int) := of_decide_eq_true (by first | (with_reducible assumption) | assumption); have q17 : ((ji11) : Int) < ((x3_1.length : Int) : Int) := of_decide_eq_true (by first | (with_reducible assumption) | assumption); obtain ⟨go17, co17, eo17, gb17, gl17, cl17, HG17⟩ := Kd.R_form HO_3.out (by omega); (first | cases eo17 | (injection eo17 with ea_ en_ ec_; (first | subst ea_ | (injection ea_ with ea_; subst ea_)); subst ec_; clear en_)); have GB17 := Aside0.mk gb17; have GG17 := Aside0.mk HG17; clear gb17 gl17 HG17; obtain ⟨hx17_0, hf17_0⟩ := Kd.R_celln false HO_3.out ((ji11) : Int) p17 q17; replace p17 := eq_true p17; replace q17 := eq_true q17; obtain ⟨hy18_, hz18_⟩ := Kd.R_celln false HO_3.out ((ji11) : Int) (of_decide_eq_true (by first | (with_reducible assumption) | assumption)) (of_decide_eq_true (by first | (with_reducible assumption) | assumption)); have HP18 := Kd.R_putg HO_3.out ((ji11) : Int) true) | ((with_reducible refine gate_store (t := 4) (p := 29) rfl ?_); refine store_event (t := 4) (p := 29) (v := ?vo_w19) (w1 := (wr.setCell ⟨go17, ((ji11) : Int).toNat, none⟩ (.bool true))) ?hg ?ho ?hn ?hr ?_; (case ho => rfl); (case hg => rfl); (case hn => rfl); (case hr => first | (go_simp; done) | (go_simp; rfl)); intro w19 hw; have hg : wr.grownBy w19 (some go17) := (by rw [hw]; exact HP18.2); have hp_ : Kd.R Kd.bool 4 w19 w.heap.size (fun _ => True) (.slice (some ⟨go17, 0, none⟩) x3_1.length co17) y128 := (by rw [hw, Ny128.out]; exact HP18.1); clear HP18; have n0_ := Aside0.mk (hp_); have n1_ := Aside0.mk ((by rw [hw]; exact below_set (HB.out) GB17.out : Below w.heap.size w w19)); clear HO_3; clear HB; have HO_3 := n0_; have HB := n1_; clear n0_ n1_; clear hg hw hp_))
                        go_roundg k1
                        case measure => have := HK1.out; omega
                        case rel => exact ⟨(y128), (wrap64 ((ji11) + 1)), (by first | rfl | (simp; done) | (simp only [← hji11] <;> (first | rfl | simp)) | (simp [*]; done)), H', ⟨by have := HK1.out; omega⟩, ⟨by (with_reducible repeat (first | apply Kd.R_alloc | apply Kd.R_drewN | apply Kd.R_drew)); exact HO_3.out⟩, ⟨by repeat (first | (with_reducible first | exact HB.out | apply below_alloc | apply pw_below_drewN | apply below_drew1) | exact HB.out)⟩⟩
                      · rw [if_neg c16] at H
                        exact absurd H (by simp)
                    · replace c15 := Bool.eq_false_iff.mpr c15
                      subst c15
                      have H1 : (incipitref09_marks.l0 k1 a0 x3_1 ji11) = some r := by rw [if_neg (show ¬ (false = true) by decide)] at H; exact H
                      clear H
                      have H := H1
                      clear H1
                      have H' := Aside0.mk H
                      clear H
                      have p9 : 0 ≤ (x4_1 : Int) := of_decide_eq_true (by first | (with_reducible assumption) | assumption)
                      have q9 : x4_1 < (a0.size : Int) := of_decide_eq_true (by first | (with_reducible assumption) | assumption)
                      have hx9 := bt_at a0 x4_1
                      replace p9 := eq_true p9
                      replace q9 := eq_true q9
                      have p13 : 0 ≤ ((ji11) : Int) := of_decide_eq_true (by first | (with_reducible assumption) | assumption)
                      have q13 : (ji11) < (a0.size : Int) := of_decide_eq_true (by first | (with_reducible assumption) | assumption)
                      have hx13 := bt_at a0 (ji11)
                      replace p13 := eq_true p13
                      replace q13 := eq_true q13
                      go_wp2_with (first | (go_at_call 37; (with_reducible refine (incipitref05_Sign.calls (bt a0 (ji11)) false _ A14.out).mono ?_); rintro e w' ⟨rfl, ⟨nd, rfl⟩⟩))
                      go_roundg k1
                      case measure => have := HK1.out; omega
                      case rel => exact ⟨(x3_1), (ji11), (by first | rfl | (simp; done) | (simp only [← hji11] <;> (first | rfl | simp)) | (simp [*]; done)), H', ⟨by have := HK1.out; omega⟩, ⟨by (with_reducible repeat (first | apply Kd.R_alloc | apply Kd.R_drewN | apply Kd.R_drew)); exact HO_3.out⟩, ⟨by repeat (first | (with_reducible first | exact HB.out | apply below_alloc | apply pw_below_drewN | apply below_drew1) | exact HB.out)⟩⟩
                  · rw [if_neg c12] at H
                    exact absurd H (by simp)
                · rw [if_neg c10] at H
                  have c10b0 : ((bt a0 x4_1) == 92) = false := beq_eq_false_iff_ne.mpr c10
                  have c10b1 : ((bt a0 x4_1) != 92) = true := bne_iff_ne.mpr c10
                  have H' := Aside0.mk H
                  clear H
                  have p9 : 0 ≤ (x4_1 : Int) := of_decide_eq_true (by first | (with_reducible assumption) | assumption)
                  have q9 : x4_1 < (a0.size : Int) := of_decide_eq_true (by first | (with_reducible assumption) | assumption)
                  have hx9 := bt_at a0 x4_1
                  replace p9 := eq_true p9
                  replace q9 := eq_true q9
                  go_wp2
                  go_roundg k1
                  case measure => have := HK1.out; omega
                  case rel => exact ⟨(x3_1), (wrap64 (x4_1 + 1)), (by first | rfl | (simp; done) | (simp [*]; done)), H', ⟨by have := HK1.out; omega⟩, ⟨by (with_reducible repeat (first | apply Kd.R_alloc | apply Kd.R_drewN | apply Kd.R_drew)); exact HO_3.out⟩, ⟨by repeat (first | (with_reducible first | exact HB.out | apply below_alloc | apply pw_below_drewN | apply below_drew1) | exact HB.out)⟩⟩
              · rw [if_neg c8] at H
                exact absurd H (by simp)
            · rw [if_neg c7] at H
              exact absurd H (by simp)
          · rw [if_neg c6] at H
            have c6b0 : decide ((wrap64 (x4_1 + 1)) < (a0.size : Int)) = false := decide_eq_false c6
            clear c6
            obtain rfl := Option.some.inj H
            go_wp2
            go_ret
            exact ⟨_, by first | rfl | (simp [errW_none, errW_some] <;> rfl) | (simp [*, errW_none, errW_some] <;> rfl), by (with_reducible repeat (first | apply Kd.R_alloc | apply Kd.R_drewN | apply Kd.R_drew)); exact HO_3.out, by repeat (first | (with_reducible first | exact HB.out | apply below_alloc | apply pw_below_drewN | apply below_drew1) | exact HB.out)⟩
    · rw [if_neg c3] at H
      exact absurd H (by simp)
  · rw [if_neg c2] at H
    exact absurd H (by simp)

/-! ### incipitref09_Label: function 11 -/
mutual
def incipitref09_Label.j0 : Nat → ByteArray → Bool → Option (ByteArray × Int)
  | 0, _, _ => none
  | k + 1, x0, x12 => if x12 = true then (some ((⟨#[]⟩ : ByteArray), 0)) else ((incipitref09_marks.f k x0).bind fun t129 => (incipitref09_Label.l0 k x0 t129 1))
def incipitref09_Label.l0 : Nat → ByteArray → List Bool → Int → Option (ByteArray × Int)
  | 0, _, _, _ => none
  | k + 1, x0, x4, x5 => if x5 < (x0.size : Int) then (if 0 ≤ x5 then (if x5 < (x4.length : Int) then (if rdOf false x4 x5 = true then (incipitref09_Label.l0 k x0 x4 (wrap64 (x5 + 1))) else (if (bt x0 x5) = 91 then (some ((⟨#[]⟩ : ByteArray), 0)) else (if (bt x0 x5) = 93 then (if x5 > 1000 then (some ((⟨#[]⟩ : ByteArray), 0)) else (if 1 ≤ x5 then (if x5 ≤ (x0.size : Int) then ((incipitref09_White.f k (x0.extract 1 (x5 : Int).toNat)).bind fun t133 => (if t133 = (wrap64 (x5 - 1)) then (some ((⟨#[]⟩ : ByteArray), 0)) else (some (x0.extract 1 (x5 : Int).toNat, wrap64 (x5 + 1))))) else (none)) else (none))) else (incipitref09_Label.l0 k x0 x4 (wrap64 (x5 + 1)))))) else (none)) else (none)) else (some ((⟨#[]⟩ : ByteArray), 0))
end
def incipitref09_Label.f (k : Nat) (a0 : ByteArray) : Option (ByteArray × Int) := if a0.toList = ([] : List UInt8) then (incipitref09_Label.j0 k a0 true) else (if 0 < (a0.size : Int) then (incipitref09_Label.j0 k a0 ((bt a0 0) != 91)) else (none))
set_option maxHeartbeats 8000000 in
set_option maxRecDepth 100000 in
theorem incipitref09_Label.calls (k : Nat) (a0 : ByteArray) (r1 : ByteArray) (r2 : Int) (w : World) (h : incipitref09_Label.f k a0 = some (r1, r2)) :
    Calls Tryz.prog 11 #[.string a0] w fun e w' => e = .returned (.tuple #[.string r1, .int .i64 r2]) ∧ Below w.heap.size w w' := by
  have HB := Aside0.mk (Below.refl w.heap.size w)
  have H : (if a0.toList = ([] : List UInt8) then (incipitref09_Label.j0 k a0 true) else (if 0 < (a0.size : Int) then (incipitref09_Label.j0 k a0 ((bt a0 0) != 91)) else (none))) = some (r1, r2) := h
  clear h
  have HC2 := Aside0.mk H
  clear H
  go_enter Tryz.func11, Tryz.ntmps11
  go_upto_region 1 with (fail)
  go_cut [12] (fun v12 wc => ∃ (kq : Nat) (x12_1 : Bool), v12 = .bool x12_1 ∧ Aside0 (incipitref09_Label.j0 kq a0 x12_1 = some (r1, r2)) ∧ Aside0 (kq ≤ k) ∧ Aside0 (Below w.heap.size w wc))
  case first =>
    have H := HC2.out
    clear HC2
    by_cases c3 : a0.toList = ([] : List UInt8)
    · rw [if_pos c3] at H
      have c3b0 : (a0.toList == ([] : List UInt8)) = true := beq_iff_eq.mpr c3
      have c3b1 : (a0.toList != ([] : List UInt8)) = false := bne_eq_false_iff_eq.mpr c3
      clear c3
      (first | rw [c3b0] | (simp only [i64_w, i32_w]; rw [c3b0]) | skip)
      have H' := Aside0.mk H
      clear H
      go_wp2
      go_meet
      case rel => exact ⟨_, (true), (by first | rfl | (simp; done) | (simp [*]; done)), H', ⟨by first | omega | exact Nat.le_refl _⟩, ⟨by repeat (first | (with_reducible first | exact HB.out | apply below_alloc | apply pw_below_drewN | apply below_drew1) | exact HB.out)⟩⟩
    · rw [if_neg c3] at H
      have c3b0 : (a0.toList == ([] : List UInt8)) = false := beq_eq_false_iff_ne.mpr c3
      have c3b1 : (a0.toList != ([] : List UInt8)) = true := bne_iff_ne.mpr c3
      (first | rw [c3b0] | (simp only [i64_w, i32_w]; rw [c3b0]) | skip)
      by_cases c4 : 0 < (a0.size : Int)
      · rw [if_pos c4] at H
        have c4b0 : decide (0 < (a0.size : Int)) = true := decide_eq_true c4
        have c4b1 : decide (0 < a0.size) = true := decide_eq_true (by omega)
        clear c4
        have H' := Aside0.mk H
        clear H
        have p5 : 0 ≤ (0 : Int) := (by omega)
        have q5 : 0 < a0.size := (by have : (0 : Int) < (a0.size : Int) := of_decide_eq_true (by first | (with_reducible assumption) | assumption); omega)
        have hx5 : ∀ h : 0 < a0.size, ((a0[0]'h).toNat : Int) = bt a0 0 := bt_at a0 0
        clear p5
        have qi5 : (0 < (a0.size : Int)) = True := eq_true (of_decide_eq_true (by first | (with_reducible assumption) | assumption))
        replace q5 := eq_true q5
        go_wp2
        go_meet
        case rel => exact ⟨_, (((bt a0 0) != 91)), (by first | rfl | (simp; done) | (simp [*]; done)), H', ⟨by first | omega | exact Nat.le_refl _⟩, ⟨by repeat (first | (with_reducible first | exact HB.out | apply below_alloc | apply pw_below_drewN | apply below_drew1) | exact HB.out)⟩⟩
      · rw [if_neg c4] at H
        exact absurd H (by simp)
  case rest =>
    clear HC2
    try clear c1
    try clear p2
    try clear c3
    try clear c3b0
    try clear c3b1
    try clear c4
    try clear c4b0
    try clear c4b1
    try clear p5
    try clear q5
    try clear hx5
    try clear qi5
    try clear p5
    try clear q5
    obtain ⟨kq, x12_1, rfl, HA, HJ1, HB⟩ := hcut
    cases kq with
    | zero => exact absurd HA.out (by simp [incipitref09_Label.j0])
    | succ kj1 =>
      have H := HA.out
      clear HA
      simp only [incipitref09_Label.j0] at H
      by_cases c6 : x12_1 = true
      · subst c6
        have H1 : (some ((⟨#[]⟩ : ByteArray), 0)) = some (r1, r2) := by rw [if_pos rfl] at H; exact H
        clear H
        have H := H1
        clear H1
        simp only [Option.some.injEq, Prod.mk.injEq] at H
        obtain ⟨rfl, rfl⟩ := H
        go_wp2
        go_ret2
        exact ⟨by first | rfl | exact retNe _ | (simp [errW_none, errW_some] <;> rfl) | (simp [*, errW_none, errW_some] <;> rfl), by repeat (first | (with_reducible first | exact HB.out | apply below_alloc | apply pw_below_drewN | apply below_drew1) | exact HB.out)⟩
      · replace c6 := Bool.eq_false_iff.mpr c6
        subst c6
        have H1 : ((incipitref09_marks.f kj1 a0).bind fun t129 => (incipitref09_Label.l0 kj1 a0 t129 1)) = some (r1, r2) := by rw [if_neg (show ¬ (false = true) by decide)] at H; exact H
        clear H
        have H := H1
        clear H1
        replace H := Option.bind_eq_some_iff.mp H
        obtain ⟨t129, A70, H⟩ := H
        replace H : (incipitref09_Label.l0 kj1 a0 t129 1) = some (r1, r2) := H
        have A7 := Aside0.mk A70
        clear A70
        have H' := Aside0.mk H
        clear H
        go_wp2_with (first | ((with_reducible refine gate_callee (f := 23) rfl ?_); refine goesL_ (some 14) rfl rfl Tryz.func23 (by kernel_rfl) rfl #[.string a0] rfl (by (try simp only [List.map_toArray, List.map_cons, List.map_nil]); first | done | rfl | (simp only [List.length_drop, List.length_take]; rfl)) ?_; (with_reducible refine (incipitref09_marks.calls kj1 a0 t129 _ A7.out).mono ?_); rintro e w8 ⟨v130, rfl, ho0, hb⟩; refine ⟨_, rfl, ?_⟩; have n0_ := Aside0.mk (Kd.R_lower ho0 (below_size (by repeat (first | (with_reducible first | exact HB.out | apply below_alloc | apply pw_below_drewN | apply below_drew1) | exact HB.out)))); have n1_ := Aside0.mk (below_step (by repeat (first | (with_reducible first | exact HB.out | apply below_alloc | apply pw_below_drewN | apply below_drew1) | exact HB.out)) hb); clear HB; have HO131 := n0_; have HB := n1_; clear n0_ n1_; (try clear hb); (try clear hb2); (try clear hk); (try clear hi); (try clear ho0)))
        go_loopg [5] kj1 (fun kq v5 w' => ∃ (x5_2 : Int), v5 = .int .i64 x5_2 ∧ Aside0 (incipitref09_Label.l0 kq a0 t129 x5_2 = some (r1, r2)) ∧ Aside0 (kq ≤ kj1) ∧ Aside0 (Kd.R Kd.bool 4 w' w.heap.size (fun _ => True) v130 t129) ∧ Aside0 (Below w.heap.size w w'))
        case atStart => exact ⟨(1), (by first | rfl | (simp; done) | (simp [*]; done)), H', ⟨Nat.le_refl _⟩, ⟨by (with_reducible repeat (first | apply Kd.R_alloc | apply Kd.R_drewN | apply Kd.R_drew)); exact HO131.out⟩, ⟨by repeat (first | (with_reducible first | exact HB.out | apply below_alloc | apply pw_below_drewN | apply below_drew1) | exact HB.out)⟩⟩
        case round =>
          clear H'
          try clear c1
          try clear c2
          try clear p2
          try clear c3
          try clear c3b0
          try clear c3b1
          try clear c4
          try clear c4b0
          try clear c4b1
          try clear p5
          try clear q5
          try clear hx5
          try clear qi5
          try clear c6
          try clear p2
          try clear p5
          try clear q5
          obtain ⟨x5_2, rfl, HA, HK2, HO_4, HB⟩ := hrel
          cases gk with
          | zero => exact absurd HA.out (by simp [incipitref09_Label.l0])
          | succ k2 =>
            have H := HA.out
            clear HA
            simp only [incipitref09_Label.l0] at H
            by_cases c9 : x5_2 < (a0.size : Int)
            · rw [if_pos c9] at H
              have c9b0 : decide (x5_2 < (a0.size : Int)) = true := decide_eq_true c9
              clear c9
              by_cases c10 : 0 ≤ x5_2
              · rw [if_pos c10] at H
                have c10b0 : decide (0 ≤ x5_2) = true := decide_eq_true c10
                clear c10
                by_cases c11 : x5_2 < (t129.length : Int)
                · rw [if_pos c11] at H
                  have c11b0 : decide (x5_2 < (t129.length : Int)) = true := decide_eq_true c11
                  clear c11
                  obtain ⟨bq12, hbq12⟩ : ∃ b_ : Bool, b_ = (rdOf false t129 x5_2) := ⟨_, rfl⟩
                  replace H : (if bq12 = true then (incipitref09_Label.l0 k2 a0 t129 (wrap64 (x5_2 + 1))) else (if (bt a0 x5_2) = 91 then (some ((⟨#[]⟩ : ByteArray), 0)) else (if (bt a0 x5_2) = 93 then (if x5_2 > 1000 then (some ((⟨#[]⟩ : ByteArray), 0)) else (if 1 ≤ x5_2 then (if x5_2 ≤ (a0.size : Int) then ((incipitref09_White.f k2 (a0.extract 1 (x5_2 : Int).toNat)).bind fun t133 => (if t133 = (wrap64 (x5_2 - 1)) then (some ((⟨#[]⟩ : ByteArray), 0)) else (some (a0.extract 1 (x5_2 : Int).toNat, wrap64 (x5_2 + 1))))) else (none)) else (none))) else (incipitref09_Label.l0 k2 a0 t129 (wrap64 (x5_2 + 1)))))) = some (r1, r2) := by rw [← hbq12] at H; exact H
                  have Nbq12 := Aside0.mk hbq12
                  clear hbq12
                  by_cases c13 : bq12 = true
                  · subst c13
                    have H1 : (incipitref09_Label.l0 k2 a0 t129 (wrap64 (x5_2 + 1))) = some (r1, r2) := by rw [if_pos rfl] at H; exact H
                    clear H
                    have H := H1
                    clear H1
                    have H' := Aside0.mk H
                    clear H
                    obtain ⟨Ao14, co14, eo14⟩ := Kd.R_slice HO_4.out
                    subst eo14
                    have p132 : 0 ≤ (x5_2 : Int) := of_decide_eq_true (by first | (with_reducible assumption) | assumption)
                    have q132 : x5_2 < (t129.length : Int) := of_decide_eq_true (by first | (with_reducible assumption) | assumption)
                    obtain ⟨ad132, e132, hx132_0⟩ := Kd.at_bool (Kd.R_reads' HO_4.out).2.2 x5_2 p132 q132
                    (try rw [← Nbq12.out] at hx132_0)
                    cases e132
                    replace p132 := eq_true p132
                    replace q132 := eq_true q132
                    go_wp2
                    go_roundg k2
                    case measure => have := HJ1.out; have := HK2.out; omega
                    case rel => exact ⟨(wrap64 (x5_2 + 1)), (by first | rfl | (simp; done) | (simp [*]; done)), H', ⟨by have := HJ1.out; have := HK2.out; omega⟩, ⟨by (with_reducible repeat (first | apply Kd.R_alloc | apply Kd.R_drewN | apply Kd.R_drew)); exact HO_4.out⟩, ⟨by repeat (first | (with_reducible first | exact HB.out | apply below_alloc | apply pw_below_drewN | apply below_drew1) | exact HB.out)⟩⟩
                  · replace c13 := Bool.eq_false_iff.mpr c13
                    subst c13
                    have H1 : (if (bt a0 x5_2) = 91 then (some ((⟨#[]⟩ : ByteArray), 0)) else (if (bt a0 x5_2) = 93 then (if x5_2 > 1000 then (some ((⟨#[]⟩ : ByteArray), 0)) else (if 1 ≤ x5_2 then (if x5_2 ≤ (a0.size : Int) then ((incipitref09_White.f k2 (a0.extract 1 (x5_2 : Int).toNat)).bind fun t133 => (if t133 = (wrap64 (x5_2 - 1)) then (some ((⟨#[]⟩ : ByteArray), 0)) else (some (a0.extract 1 (x5_2 : Int).toNat, wrap64 (x5_2 + 1))))) else (none)) else (none))) else (incipitref09_Label.l0 k2 a0 t129 (wrap64 (x5_2 + 1))))) = some (r1, r2) := by rw [if_neg (show ¬ (false = true) by decide)] at H; exact H
                    clear H
                    have H := H1
                    clear H1
                    by_cases c16 : (bt a0 x5_2) = 91
                    · rw [if_pos c16] at H
                      have c16b0 : ((bt a0 x5_2) == 91) = true := beq_iff_eq.mpr c16
                      have c16b1 : ((bt a0 x5_2) != 91) = false := bne_eq_false_iff_eq.mpr c16
                      clear c16
                      simp only [Option.some.injEq, Prod.mk.injEq] at H
                      obtain ⟨rfl, rfl⟩ := H
                      obtain ⟨Ao17, co17, eo17⟩ := Kd.R_slice HO_4.out
                      subst eo17
                      have p132 : 0 ≤ (x5_2 : Int) := of_decide_eq_true (by first | (with_reducible assumption) | assumption)
                      have q132 : x5_2 < (t129.length : Int) := of_decide_eq_true (by first | (with_reducible assumption) | assumption)
                      obtain ⟨ad132, e132, hx132_0⟩ := Kd.at_bool (Kd.R_reads' HO_4.out).2.2 x5_2 p132 q132
                      (try rw [← Nbq12.out] at hx132_0)
                      cases e132
                      replace p132 := eq_true p132
                      replace q132 := eq_true q132
                      have p15 : 0 ≤ (x5_2 : Int) := of_decide_eq_true (by first | (with_reducible assumption) | assumption)
                      have q15 : x5_2 < (a0.size : Int) := of_decide_eq_true (by first | (with_reducible assumption) | assumption)
                      have hx15 := bt_at a0 x5_2
                      replace p15 := eq_true p15
                      replace q15 := eq_true q15
                      go_wp2
                      go_ret2
                      exact ⟨by first | rfl | exact retNe _ | (simp [errW_none, errW_some] <;> rfl) | (simp [*, errW_none, errW_some] <;> rfl), by repeat (first | (with_reducible first | exact HB.out | apply below_alloc | apply pw_below_drewN | apply below_drew1) | exact HB.out)⟩
                    · rw [if_neg c16] at H
                      have c16b0 : ((bt a0 x5_2) == 91) = false := beq_eq_false_iff_ne.mpr c16
                      have c16b1 : ((bt a0 x5_2) != 91) = true := bne_iff_ne.mpr c16
                      by_cases c19 : (bt a0 x5_2) = 93
                      · rw [if_pos c19] at H
                        have c19b0 : ((bt a0 x5_2) == 93) = true := beq_iff_eq.mpr c19
                        have c19b1 : ((bt a0 x5_2) != 93) = false := bne_eq_false_iff_eq.mpr c19
                        clear c19
                        by_cases c20 : x5_2 > 1000
                        · rw [if_pos c20] at H
                          have c20b0 : decide (1000 < x5_2) = true := decide_eq_true c20
                          clear c20
                          simp only [Option.some.injEq, Prod.mk.injEq] at H
                          obtain ⟨rfl, rfl⟩ := H
                          obtain ⟨Ao21, co21, eo21⟩ := Kd.R_slice HO_4.out
                          subst eo21
                          have p132 : 0 ≤ (x5_2 : Int) := of_decide_eq_true (by first | (with_reducible assumption) | assumption)
                          have q132 : x5_2 < (t129.length : Int) := of_decide_eq_true (by first | (with_reducible assumption) | assumption)
                          obtain ⟨ad132, e132, hx132_0⟩ := Kd.at_bool (Kd.R_reads' HO_4.out).2.2 x5_2 p132 q132
                          (try rw [← Nbq12.out] at hx132_0)
                          cases e132
                          replace p132 := eq_true p132
                          replace q132 := eq_true q132
                          have p15 : 0 ≤ (x5_2 : Int) := of_decide_eq_true (by first | (with_reducible assumption) | assumption)
                          have q15 : x5_2 < (a0.size : Int) := of_decide_eq_true (by first | (with_reducible assumption) | assumption)
                          have hx15 := bt_at a0 x5_2
                          replace p15 := eq_true p15
                          replace q15 := eq_true q15
                          have p18 : 0 ≤ (x5_2 : Int) := of_decide_eq_true (by first | (with_reducible assumption) | assumption)
                          have q18 : x5_2 < (a0.size : Int) := of_decide_eq_true (by first | (with_reducible assumption) | assumption)
                          have hx18 := bt_at a0 x5_2
                          replace p18 := eq_true p18
                          replace q18 := eq_true q18
                          go_wp2
                          go_ret2
                          exact ⟨by first | rfl | exact retNe _ | (simp [errW_none, errW_some] <;> rfl) | (simp [*, errW_none, errW_some] <;> rfl), by repeat (first | (with_reducible first | exact HB.out | apply below_alloc | apply pw_below_drewN | apply below_drew1) | exact HB.out)⟩
                        · rw [if_neg c20] at H
                          have c20b0 : decide (1000 < x5_2) = false := decide_eq_false c20
                          clear c20
                          by_cases c22 : 1 ≤ x5_2
                          · rw [if_pos c22] at H
                            have c22b0 := eq_true c22
                            have c22b1 : decide (1 ≤ x5_2) = true := decide_eq_true c22
                            clear c22
                            by_cases c23 : x5_2 ≤ (a0.size : Int)
                            · rw [if_pos c23] at H
                              have c23b0 := eq_true c23
                              have c23b1 : decide (x5_2 ≤ (a0.size : Int)) = true := decide_eq_true c23
                              clear c23
                              replace H := Option.bind_eq_some_iff.mp H
                              obtain ⟨t133, A240, H⟩ := H
                              replace H : (if t133 = (wrap64 (x5_2 - 1)) then (some ((⟨#[]⟩ : ByteArray), 0)) else (some (a0.extract 1 (x5_2 : Int).toNat, wrap64 (x5_2 + 1)))) = some (r1, r2) := H
                              have A24 := Aside0.mk A240
                              clear A240
                              by_cases c25 : t133 = (wrap64 (x5_2 - 1))
                              · rw [if_pos c25] at H
                                have c25b0 : (t133 == (wrap64 (x5_2 - 1))) = true := beq_iff_eq.mpr c25
                                have c25b1 : (t133 != (wrap64 (x5_2 - 1))) = false := bne_eq_false_iff_eq.mpr c25
                                clear c25
                                simp only [Option.some.injEq, Prod.mk.injEq] at H
                                obtain ⟨rfl, rfl⟩ := H
                                obtain ⟨Ao26, co26, eo26⟩ := Kd.R_slice HO_4.out
                                subst eo26
                                have p132 : 0 ≤ (x5_2 : Int) := of_decide_eq_true (by first | (with_reducible assumption) | assumption)
                                have q132 : x5_2 < (t129.length : Int) := of_decide_eq_true (by first | (with_reducible assumption) | assumption)
                                obtain ⟨ad132, e132, hx132_0⟩ := Kd.at_bool (Kd.R_reads' HO_4.out).2.2 x5_2 p132 q132
                                (try rw [← Nbq12.out] at hx132_0)
                                cases e132
                                replace p132 := eq_true p132
                                replace q132 := eq_true q132
                                have p15 : 0 ≤ (x5_2 : Int) := of_decide_eq_true (by first | (with_reducible assumption) | assumption)
                                have q15 : x5_2 < (a0.size : Int) := of_decide_eq_true (by first | (with_reducible assumption) | assumption)
                                have hx15 := bt_at a0 x5_2
                                replace p15 := eq_true p15
                                replace q15 := eq_true q15
                                have p18 : 0 ≤ (x5_2 : Int) := of_decide_eq_true (by first | (with_reducible assumption) | assumption)
                                have q18 : x5_2 < (a0.size : Int) := of_decide_eq_true (by first | (with_reducible assumption) | assumption)
                                have hx18 := bt_at a0 x5_2
                                replace p18 := eq_true p18
                                replace q18 := eq_true q18
                                go_wp2_with (first | (go_at_call 19; (with_reducible refine (incipitref09_White.calls k2 (a0.extract 1 (x5_2 : Int).toNat) t133 _ A24.out).mono ?_); rintro e w' ⟨rfl, ⟨nd, rfl⟩⟩))
                                go_ret2
                                exact ⟨by first | rfl | exact retNe _ | (simp [errW_none, errW_some] <;> rfl) | (simp [*, errW_none, errW_some] <;> rfl), by repeat (first | (with_reducible first | exact HB.out | apply below_alloc | apply pw_below_drewN | apply below_drew1) | exact HB.out)⟩
                              · rw [if_neg c25] at H
                                have c25b0 : (t133 == (wrap64 (x5_2 - 1))) = false := beq_eq_false_iff_ne.mpr c25
                                have c25b1 : (t133 != (wrap64 (x5_2 - 1))) = true := bne_iff_ne.mpr c25
                                have c27b0 := eq_true (of_decide_eq_true (by first | (with_reducible assumption) | assumption) : 1 ≤ x5_2)
                                have c28b0 := eq_true (of_decide_eq_true (by first | (with_reducible assumption) | assumption) : x5_2 ≤ (a0.size : Int))
                                simp only [Option.some.injEq, Prod.mk.injEq] at H
                                obtain ⟨rfl, rfl⟩ := H
                                obtain ⟨Ao29, co29, eo29⟩ := Kd.R_slice HO_4.out
                                subst eo29
                                have p132 : 0 ≤ (x5_2 : Int) := of_decide_eq_true (by first | (with_reducible assumption) | assumption)
                                have q132 : x5_2 < (t129.length : Int) := of_decide_eq_true (by first | (with_reducible assumption) | assumption)
                                obtain ⟨ad132, e132, hx132_0⟩ := Kd.at_bool (Kd.R_reads' HO_4.out).2.2 x5_2 p132 q132
                                (try rw [← Nbq12.out] at hx132_0)
                                cases e132
                                replace p132 := eq_true p132
                                replace q132 := eq_true q132
                                have p15 : 0 ≤ (x5_2 : Int) := of_decide_eq_true (by first | (with_reducible assumption) | assumption)
                                have q15 : x5_2 < (a0.size : Int) := of_decide_eq_true (by first | (with_reducible assumption) | assumption)
                                have hx15 := bt_at a0 x5_2
                                replace p15 := eq_true p15
                                replace q15 := eq_true q15
                                have p18 : 0 ≤ (x5_2 : Int) := of_decide_eq_true (by first | (with_reducible assumption) | assumption)
                                have q18 : x5_2 < (a0.size : Int) := of_decide_eq_true (by first | (with_reducible assumption) | assumption)
                                have hx18 := bt_at a0 x5_2
                                replace p18 := eq_true p18
                                replace q18 := eq_true q18
                                go_wp2_with (first | (go_at_call 19; (with_reducible refine (incipitref09_White.calls k2 (a0.extract 1 (x5_2 : Int).toNat) t133 _ A24.out).mono ?_); rintro e w' ⟨rfl, ⟨nd, rfl⟩⟩))
                                go_ret2
                                exact ⟨by first | rfl | exact retNe _ | (simp [errW_none, errW_some] <;> rfl) | (simp [*, errW_none, errW_some] <;> rfl), by repeat (first | (with_reducible first | exact HB.out | apply below_alloc | apply pw_below_drewN | apply below_drew1) | exact HB.out)⟩
                            · rw [if_neg c23] at H
                              exact absurd H (by simp)
                          · rw [if_neg c22] at H
                            exact absurd H (by simp)
                      · rw [if_neg c19] at H
                        have c19b0 : ((bt a0 x5_2) == 93) = false := beq_eq_false_iff_ne.mpr c19
                        have c19b1 : ((bt a0 x5_2) != 93) = true := bne_iff_ne.mpr c19
                        have H' := Aside0.mk H
                        clear H
                        obtain ⟨Ao30, co30, eo30⟩ := Kd.R_slice HO_4.out
                        subst eo30
                        have p132 : 0 ≤ (x5_2 : Int) := of_decide_eq_true (by first | (with_reducible assumption) | assumption)
                        have q132 : x5_2 < (t129.length : Int) := of_decide_eq_true (by first | (with_reducible assumption) | assumption)
                        obtain ⟨ad132, e132, hx132_0⟩ := Kd.at_bool (Kd.R_reads' HO_4.out).2.2 x5_2 p132 q132
                        (try rw [← Nbq12.out] at hx132_0)
                        cases e132
                        replace p132 := eq_true p132
                        replace q132 := eq_true q132
                        have p15 : 0 ≤ (x5_2 : Int) := of_decide_eq_true (by first | (with_reducible assumption) | assumption)
                        have q15 : x5_2 < (a0.size : Int) := of_decide_eq_true (by first | (with_reducible assumption) | assumption)
                        have hx15 := bt_at a0 x5_2
                        replace p15 := eq_true p15
                        replace q15 := eq_true q15
                        have p18 : 0 ≤ (x5_2 : Int) := of_decide_eq_true (by first | (with_reducible assumption) | assumption)
                        have q18 : x5_2 < (a0.size : Int) := of_decide_eq_true (by first | (with_reducible assumption) | assumption)
                        have hx18 := bt_at a0 x5_2
                        replace p18 := eq_true p18
                        replace q18 := eq_true q18
                        go_wp2
                        go_roundg k2
                        case measure => have := HJ1.out; have := HK2.out; omega
                        case rel => exact ⟨(wrap64 (x5_2 + 1)), (by first | rfl | (simp; done) | (simp [*]; done)), H', ⟨by have := HJ1.out; have := HK2.out; omega⟩, ⟨by (with_reducible repeat (first | apply Kd.R_alloc | apply Kd.R_drewN | apply Kd.R_drew)); exact HO_4.out⟩, ⟨by repeat (first | (with_reducible first | exact HB.out | apply below_alloc | apply pw_below_drewN | apply below_drew1) | exact HB.out)⟩⟩
                · rw [if_neg c11] at H
                  exact absurd H (by simp)
              · rw [if_neg c10] at H
                exact absurd H (by simp)
            · rw [if_neg c9] at H
              have c9b0 : decide (x5_2 < (a0.size : Int)) = false := decide_eq_false c9
              clear c9
              simp only [Option.some.injEq, Prod.mk.injEq] at H
              obtain ⟨rfl, rfl⟩ := H
              go_wp2
              go_ret2
              exact ⟨by first | rfl | exact retNe _ | (simp [errW_none, errW_some] <;> rfl) | (simp [*, errW_none, errW_some] <;> rfl), by repeat (first | (with_reducible first | exact HB.out | apply below_alloc | apply pw_below_drewN | apply below_drew1) | exact HB.out)⟩

end Go.Proofs.YtjobchgncdgfaaaGreatDoor.PA

namespace Go.Proofs.YtjobchgncdgfaaaGreatDoor.PA
open Go.RowKit Go.Proofs.YtjobchgncdgfaaaGreatDoorW.PrintWords Go.Proofs.YtjobchgncdgfaaaGreatDoorW.PrintLast Go.Proofs.YtjobchgncdgfaaaGreatDoorW.PrintMore
attribute [local go_sem] max2_int min2_int max_two min_two max_three min_three max_four min_four   -- for this text's walks alone
set_option linter.unusedVariables false
set_option linter.unusedSimpArgs false

/-! ### incipitref04_end: function 53 -/
def incipitref04_end.l0 : Nat → ByteArray → Int → Option (Int)
  | 0, _, _ => none
  | k + 1, x0, x3 => if x3 < (x0.size : Int) then (if 0 ≤ x3 then (if (bt x0 x3) = 59 then (some x3) else (incipitref04_end.l0 k x0 (wrap64 (x3 + 1)))) else (none)) else (some (-1))
def incipitref04_end.f (k : Nat) (a0 : ByteArray) : Option (Int) := incipitref04_end.l0 k a0 0
set_option maxHeartbeats 8000000 in
set_option maxRecDepth 100000 in
theorem incipitref04_end.calls (k : Nat) (a0 : ByteArray) (r : Int) (w : World) (h : incipitref04_end.f k a0 = some r) :
    Calls Tryz.prog 53 #[.string a0] w fun e w' => e = .returned (.int .i64 r) ∧ Drawn0 w w' := by
  have H : (incipitref04_end.l0 k a0 0) = some r := h
  clear h
  have H' := Aside0.mk H
  clear H
  go_enter Tryz.func53, Tryz.ntmps53
  go_wp2
  go_loopg [3] k (fun kq v3 w' => ∃ (x3_1 : Int), v3 = .int .i64 x3_1 ∧ Aside0 (incipitref04_end.l0 kq a0 x3_1 = some r) ∧ Aside0 (kq ≤ k) ∧ Drawn0 w w')
  case atStart => exact ⟨(0), (by first | rfl | (simp; done) | (simp [*]; done)), H', ⟨Nat.le_refl _⟩, by repeat (first | exact Drawn0.refl _ | apply Drawn0.step)⟩
  case round =>
    clear H'
    obtain ⟨x3_1, rfl, HA, HK1, ⟨m1, rfl⟩⟩ := hrel
    cases gk with
    | zero => exact absurd HA.out (by simp [incipitref04_end.l0])
    | succ k1 =>
      have H := HA.out
      clear HA
      simp only [incipitref04_end.l0] at H
      by_cases c2 : x3_1 < (a0.size : Int)
      · rw [if_pos c2] at H
        have c2b0 : decide (x3_1 < (a0.size : Int)) = true := decide_eq_true c2
        clear c2
        by_cases c3 : 0 ≤ x3_1
        · rw [if_pos c3] at H
          have c3b0 : decide (0 ≤ x3_1) = true := decide_eq_true c3
          clear c3
          by_cases c5 : (bt a0 x3_1) = 59
          · rw [if_pos c5] at H
            have c5b0 : ((bt a0 x3_1) == 59) = true := beq_iff_eq.mpr c5
            have c5b1 : ((bt a0 x3_1) != 59) = false := bne_eq_false_iff_eq.mpr c5
            clear c5
            obtain rfl := Option.some.inj H
            have p4 : 0 ≤ (x3_1 : Int) := of_decide_eq_true (by first | (with_reducible assumption) | assumption)
            have q4 : x3_1 < (a0.size : Int) := of_decide_eq_true (by first | (with_reducible assumption) | assumption)
            have hx4 := bt_at a0 x3_1
            replace p4 := eq_true p4
            replace q4 := eq_true q4
            go_wp2
            go_ret
            exact ⟨by first | rfl | (simp; done) | (simp [*]; done), by repeat (first | exact Drawn0.refl _ | apply Drawn0.step)⟩
          · rw [if_neg c5] at H
            have c5b0 : ((bt a0 x3_1) == 59) = false := beq_eq_false_iff_ne.mpr c5
            have c5b1 : ((bt a0 x3_1) != 59) = true := bne_iff_ne.mpr c5
            have H' := Aside0.mk H
            clear H
            have p4 : 0 ≤ (x3_1 : Int) := of_decide_eq_true (by first | (with_reducible assumption) | assumption)
            have q4 : x3_1 < (a0.size : Int) := of_decide_eq_true (by first | (with_reducible assumption) | assumption)
            have hx4 := bt_at a0 x3_1
            replace p4 := eq_true p4
            replace q4 := eq_true q4
            go_wp2
            go_roundg k1
            case measure => have := HK1.out; omega
            case rel => exact ⟨(wrap64 (x3_1 + 1)), (by first | rfl | (simp; done) | (simp [*]; done)), H', ⟨by have := HK1.out; omega⟩, by repeat (first | exact Drawn0.refl _ | apply Drawn0.step)⟩
        · rw [if_neg c3] at H
          exact absurd H (by simp)
      · rw [if_neg c2] at H
        have c2b0 : decide (x3_1 < (a0.size : Int)) = false := decide_eq_false c2
        clear c2
        obtain rfl := Option.some.inj H
        go_wp2
        go_ret
        exact ⟨by first | rfl | (simp; done) | (simp [*]; done), by repeat (first | exact Drawn0.refl _ | apply Drawn0.step)⟩


/-! ### incipitref04_Named: function 54 -/
def incipitref04_Named.l0 : Nat → ByteArray → List (S79) → Int → Option (ByteArray × Bool)
  | 0, _, _, _ => none
  | k + 1, x0, x4, x5 => if x5 < (x4.length : Int) then (if 0 ≤ x5 then (if ((rd_T79 x4 x5).f0).toList = x0.toList then (some ((Go.Utf8.encode ((rd_T79 x4 x5).f1)), true)) else (incipitref04_Named.l0 k x0 x4 (wrap64 (x5 + 1)))) else (none)) else (some ((⟨#[]⟩ : ByteArray), false))
def incipitref04_Named.f (k : Nat) (a0 : ByteArray) : Option (ByteArray × Bool) := (incipitref04_Table.f).bind fun t134 => (incipitref04_Named.l0 k a0 t134 0)
set_option maxHeartbeats 8000000 in
set_option maxRecDepth 100000 in
theorem incipitref04_Named.calls (k : Nat) (a0 : ByteArray) (r1 : ByteArray) (r2 : Bool) (w : World) (h : incipitref04_Named.f k a0 = some (r1, r2)) :
    Calls Tryz.prog 54 #[.string a0] w fun e w' => e = .returned (.tuple #[.string r1, .bool r2]) ∧ Below w.heap.size w w' := by
  have HB := Aside0.mk (Below.refl w.heap.size w)
  have H : ((incipitref04_Table.f).bind fun t134 => (incipitref04_Named.l0 k a0 t134 0)) = some (r1, r2) := h
  clear h
  replace H := Option.bind_eq_some_iff.mp H
  obtain ⟨t134, A20, H⟩ := H
  replace H : (incipitref04_Named.l0 k a0 t134 0) = some (r1, r2) := H
  have A2 := Aside0.mk A20
  clear A20
  have H' := Aside0.mk H
  clear H
  go_enter Tryz.func54, Tryz.ntmps54
  go_wp2_with (first | ((with_reducible refine gate_callee (f := 71) rfl ?_); refine goesL_ (some 6) rfl rfl Tryz.func71 (by kernel_rfl) rfl #[] rfl (by (try simp only [List.map_toArray, List.map_cons, List.map_nil]); first | done | rfl | (simp only [List.length_drop, List.length_take]; rfl)) ?_; (with_reducible refine (incipitref04_Table.calls  t134 _ A2.out).mono ?_); rintro e w3 ⟨v135, rfl, ho0, hb⟩; refine ⟨_, rfl, ?_⟩; have n0_ := Aside0.mk (Kd.R_lower ho0 (below_size (by repeat (first | (with_reducible first | exact HB.out | apply below_alloc | apply pw_below_drewN | apply below_drew1) | exact HB.out)))); have n1_ := Aside0.mk (below_step (by repeat (first | (with_reducible first | exact HB.out | apply below_alloc | apply pw_below_drewN | apply below_drew1) | exact HB.out)) hb); clear HB; have HO136 := n0_; have HB := n1_; clear n0_ n1_; (try clear hb); (try clear hb2); (try clear hk); (try clear hi); (try clear ho0)))
  go_loopg [5] k (fun kq v5 w' => ∃ (x5_1 : Int), v5 = .int .i64 x5_1 ∧ Aside0 (incipitref04_Named.l0 kq a0 t134 x5_1 = some (r1, r2)) ∧ Aside0 (kq ≤ k) ∧ Aside0 (Kd.R k79 79 w' w.heap.size (fun _ => True) v135 t134) ∧ Aside0 (Below w.heap.size w w'))
  case atStart => exact ⟨(0), (by first | rfl | (simp; done) | (simp [*]; done)), H', ⟨Nat.le_refl _⟩, ⟨by (with_reducible repeat (first | apply Kd.R_alloc | apply Kd.R_drewN | apply Kd.R_drew)); exact HO136.out⟩, ⟨by repeat (first | (with_reducible first | exact HB.out | apply below_alloc | apply pw_below_drewN | apply below_drew1) | exact HB.out)⟩⟩
  case round =>
    clear H'
    try clear p2
    obtain ⟨x5_1, rfl, HA, HK1, HO_4, HB⟩ := hrel
    cases gk with
    | zero => exact absurd HA.out (by simp [incipitref04_Named.l0])
    | succ k1 =>
      have H := HA.out
      clear HA
      simp only [incipitref04_Named.l0] at H
      by_cases c4 : x5_1 < (t134.length : Int)
      · rw [if_pos c4] at H
        have c4b0 : decide (x5_1 < (t134.length : Int)) = true := decide_eq_true c4
        clear c4
        by_cases c5 : 0 ≤ x5_1
        · rw [if_pos c5] at H
          have c5b0 : decide (0 ≤ x5_1) = true := decide_eq_true c5
          clear c5
          by_cases c6 : ((rd_T79 t134 x5_1).f0).toList = a0.toList
          · rw [if_pos c6] at H
            have c6b0 : (((rd_T79 t134 x5_1).f0).toList == a0.toList) = true := beq_iff_eq.mpr c6
            have c6b1 : (((rd_T79 t134 x5_1).f0).toList != a0.toList) = false := bne_eq_false_iff_eq.mpr c6
            clear c6
            simp only [Option.some.injEq, Prod.mk.injEq] at H
            obtain ⟨rfl, rfl⟩ := H
            obtain ⟨Ao7, co7, eo7⟩ := Kd.R_slice HO_4.out
            subst eo7
            have p137 : 0 ≤ (x5_1 : Int) := of_decide_eq_true (by first | (with_reducible assumption) | assumption)
            have q137 : x5_1 < (t134.length : Int) := of_decide_eq_true (by first | (with_reducible assumption) | assumption)
            obtain ⟨ad137, e137, hx137_0, hx137_1⟩ := at_T79 (Kd.R_reads' HO_4.out).2.2 x5_1 p137 q137
            cases e137
            replace p137 := eq_true p137
            replace q137 := eq_true q137
            have p138 : 0 ≤ (x5_1 : Int) := of_decide_eq_true (by first | (with_reducible assumption) | assumption)
            have q138 : x5_1 < (t134.length : Int) := of_decide_eq_true (by first | (with_reducible assumption) | assumption)
            obtain ⟨ad138, e138, hx138_0, hx138_1⟩ := at_T79 (Kd.R_reads' HO_4.out).2.2 x5_1 p138 q138
            obtain rfl : ad137 = ad138 := (by injection e138)
            replace p138 := eq_true p138
            replace q138 := eq_true q138
            go_wp2
            go_ret2
            exact ⟨by first | rfl | (simp [errW_none, errW_some] <;> rfl) | (simp [*, errW_none, errW_some] <;> rfl), by repeat (first | (with_reducible first | exact HB.out | apply below_alloc | apply pw_below_drewN | apply below_drew1) | exact HB.out)⟩
          · rw [if_neg c6] at H
            have c6b0 : (((rd_T79 t134 x5_1).f0).toList == a0.toList) = false := beq_eq_false_iff_ne.mpr c6
            have c6b1 : (((rd_T79 t134 x5_1).f0).toList != a0.toList) = true := bne_iff_ne.mpr c6
            have H' := Aside0.mk H
            clear H
            obtain ⟨Ao8, co8, eo8⟩ := Kd.R_slice HO_4.out
            subst eo8
            have p137 : 0 ≤ (x5_1 : Int) := of_decide_eq_true (by first | (with_reducible assumption) | assumption)
            have q137 : x5_1 < (t134.length : Int) := of_decide_eq_true (by first | (with_reducible assumption) | assumption)
            obtain ⟨ad137, e137, hx137_0, hx137_1⟩ := at_T79 (Kd.R_reads' HO_4.out).2.2 x5_1 p137 q137
            cases e137
            replace p137 := eq_true p137
            replace q137 := eq_true q137
            go_wp2
            go_roundg k1
            case measure => have := HK1.out; omega
            case rel => exact ⟨(wrap64 (x5_1 + 1)), (by first | rfl | (simp; done) | (simp [*]; done)), H', ⟨by have := HK1.out; omega⟩, ⟨by (with_reducible repeat (first | apply Kd.R_alloc | apply Kd.R_drewN | apply Kd.R_drew)); exact HO_4.out⟩, ⟨by repeat (first | (with_reducible first | exact HB.out | apply below_alloc | apply pw_below_drewN | apply below_drew1) | exact HB.out)⟩⟩
        · rw [if_neg c5] at H
          exact absurd H (by simp)
      · rw [if_neg c4] at H
        have c4b0 : decide (x5_1 < (t134.length : Int)) = false := decide_eq_false c4
        clear c4
        simp only [Option.some.injEq, Prod.mk.injEq] at H
        obtain ⟨rfl, rfl⟩ := H
        obtain ⟨Ao9, co9, eo9⟩ := Kd.R_slice HO_4.out
        subst eo9
        go_wp2
        go_ret2
        exact ⟨by first | rfl | (simp [errW_none, errW_some] <;> rfl) | (simp [*, errW_none, errW_some] <;> rfl), by repeat (first | (with_reducible first | exact HB.out | apply below_alloc | apply pw_below_drewN | apply below_drew1) | exact HB.out)⟩

/-! ### incipitref04_number: function 55 -/
mutual
def incipitref04_number.j0 : Nat → ByteArray → Int → Bool → Option (Int)
  | 0, _, _, _ => none
  | k + 1, x0, x1, x19 => if x19 = true then (some (-1)) else (incipitref04_number.l0 k x0 x1 0 0)
def incipitref04_number.l0 : Nat → ByteArray → Int → Int → Int → Option (Int)
  | 0, _, _, _, _ => none
  | k + 1, x0, x1, x7, x8 => if x8 < (x0.size : Int) then (incipitref04_number.l1 k x0 x1 x7 x8 (-1) 0) else (some x7)
def incipitref04_number.l1 : Nat → ByteArray → Int → Int → Int → Int → Int → Option (Int)
  | 0, _, _, _, _, _, _ => none
  | k + 1, x0, x1, x7, x8, x9, x10 => if x10 < x1 then (if 0 ≤ x8 then (if x8 < (x0.size : Int) then (if 0 ≤ x10 then (if x10 < 16 then (if (bt x0 x8) = (bt (⟨#[48, 49, 50, 51, 52, 53, 54, 55, 56, 57, 97, 98, 99, 100, 101, 102]⟩ : ByteArray) x10) then (incipitref04_number.l1 k x0 x1 x7 x8 x10 (wrap64 (x10 + 1))) else (if (bt x0 x8) = (bt (⟨#[48, 49, 50, 51, 52, 53, 54, 55, 56, 57, 65, 66, 67, 68, 69, 70]⟩ : ByteArray) x10) then (incipitref04_number.l1 k x0 x1 x7 x8 x10 (wrap64 (x10 + 1))) else (incipitref04_number.l1 k x0 x1 x7 x8 x9 (wrap64 (x10 + 1))))) else (none)) else (none)) else (none)) else (none)) else (if x9 < 0 then (some (-1)) else (incipitref04_number.l0 k x0 x1 (wrap64 ((wrap64 (x7 * x1)) + x9)) (wrap64 (x8 + 1))))
end
def incipitref04_number.f (k : Nat) (a0 : ByteArray) (a1 : Int) (a2 : Int) : Option (Int) := if (a0.size : Int) = 0 then (incipitref04_number.j0 k a0 a1 true) else (incipitref04_number.j0 k a0 a1 (decide ((a0.size : Int) > a2)))
set_option maxHeartbeats 8000000 in
set_option maxRecDepth 100000 in
theorem incipitref04_number.calls (k : Nat) (a0 : ByteArray) (a1 : Int) (a2 : Int) (r : Int) (w : World) (h : incipitref04_number.f k a0 a1 a2 = some r) :
    Calls Tryz.prog 55 #[.string a0, .int .i64 a1, .int .i64 a2] w fun e w' => e = .returned (.int .i64 r) ∧ Drawn0 w w' := by
  have H : (if (a0.size : Int) = 0 then (incipitref04_number.j0 k a0 a1 true) else (incipitref04_number.j0 k a0 a1 (decide ((a0.size : Int) > a2)))) = some r := h
  clear h
  have HC4 := Aside0.mk H
  clear H
  go_enter Tryz.func55, Tryz.ntmps55
  go_upto_region 1 with (fail)
  repeat (go_quiet (fail); go_upto_region 1 with (fail))
  go_cut [19] (fun v19 wc => ∃ (kq : Nat) (x19_3 : Bool), v19 = .bool x19_3 ∧ Aside0 (incipitref04_number.j0 kq a0 a1 x19_3 = some r) ∧ Aside0 (kq ≤ k) ∧ Drawn0 w wc)
  case first =>
    have H := HC4.out
    clear HC4
    by_cases c5 : (a0.size : Int) = 0
    · rw [if_pos c5] at H
      have c5b0 : ((a0.size : Int) == 0) = true := beq_iff_eq.mpr c5
      have c5b1 : ((a0.size : Int) != 0) = false := bne_eq_false_iff_eq.mpr c5
      clear c5
      (first | rw [c5b0] | (simp only [i64_w, i32_w]; rw [c5b0]) | skip)
      have H' := Aside0.mk H
      clear H
      go_wp2
      repeat (go_quiet (fail); try go_wp2)
      go_meet
      case rel => exact ⟨_, (true), (by first | rfl | (simp; done) | (simp [*]; done)), H', ⟨by first | omega | exact Nat.le_refl _⟩, by repeat (first | exact Drawn0.refl _ | apply Drawn0.step)⟩
    · rw [if_neg c5] at H
      have c5b0 : ((a0.size : Int) == 0) = false := beq_eq_false_iff_ne.mpr c5
      have c5b1 : ((a0.size : Int) != 0) = true := bne_iff_ne.mpr c5
      (first | rw [c5b0] | (simp only [i64_w, i32_w]; rw [c5b0]) | skip)
      have H' := Aside0.mk H
      clear H
      go_wp2
      repeat (go_quiet (fail); try go_wp2)
      go_meet
      case rel => exact ⟨_, (decide ((a0.size : Int) > a2)), (by first | rfl | (simp; done) | (simp [*]; done)), H', ⟨by first | omega | exact Nat.le_refl _⟩, by repeat (first | exact Drawn0.refl _ | apply Drawn0.step)⟩
  case rest =>
    clear HC4
    try clear p2
    try clear c5
    try clear c5b0
    try clear c5b1
    obtain ⟨kq, x19_3, rfl, HA, HJ3, ⟨mc3, rfl⟩⟩ := hcut
    cases kq with
    | zero => exact absurd HA.out (by simp [incipitref04_number.j0])
    | succ kj3 =>
      have H := HA.out
      clear HA
      simp only [incipitref04_number.j0] at H
      by_cases c6 : x19_3 = true
      · subst c6
        have H1 : (some (-1)) = some r := by rw [if_pos rfl] at H; exact H
        clear H
        have H := H1
        clear H1
        obtain rfl := Option.some.inj H
        go_wp2
        repeat (go_quiet (fail); try go_wp2)
        go_ret
        exact ⟨by first | rfl | (simp; done) | (simp [*]; done), by repeat (first | exact Drawn0.refl _ | apply Drawn0.step)⟩
      · replace c6 := Bool.eq_false_iff.mpr c6
        subst c6
        have H1 : (incipitref04_number.l0 kj3 a0 a1 0 0) = some r := by rw [if_neg (show ¬ (false = true) by decide)] at H; exact H
        clear H
        have H := H1
        clear H1
        have H' := Aside0.mk H
        clear H
        go_wp2
        repeat (go_quiet (fail); try go_wp2)
        go_loopg [7, 8] kj3 (fun kq v7 v8 w' => ∃ (x7_2 : Int) (x8_2 : Int), v7 = .int .i64 x7_2 ∧ v8 = .int .i64 x8_2 ∧ Aside0 (incipitref04_number.l0 kq a0 a1 x7_2 x8_2 = some r) ∧ Aside0 (kq ≤ kj3) ∧ Drawn0 w w')
        case atStart => exact ⟨(0), (0), (by first | rfl | (simp; done) | (simp [*]; done)), (by first | rfl | (simp; done) | (simp [*]; done)), H', ⟨Nat.le_refl _⟩, by repeat (first | exact Drawn0.refl _ | apply Drawn0.step)⟩
        case round =>
          clear H'
          try clear p2
          try clear c3
          try clear c5
          try clear c5b0
          try clear c5b1
          try clear c6
          try clear p2
          obtain ⟨x7_2, x8_2, rfl, rfl, HA, HK2, ⟨m2, rfl⟩⟩ := hrel
          cases gk with
          | zero => exact absurd HA.out (by simp [incipitref04_number.l0])
          | succ k2 =>
            have H := HA.out
            clear HA
            simp only [incipitref04_number.l0] at H
            by_cases c7 : x8_2 < (a0.size : Int)
            · rw [if_pos c7] at H
              have c7b0 : decide (x8_2 < (a0.size : Int)) = true := decide_eq_true c7
              clear c7
              have H' := Aside0.mk H
              clear H
              go_wp2
              repeat (go_quiet (fail); try go_wp2)
              go_loopg [9, 10] k2 (fun kq v9 v10 w' => ∃ (x9_3 : Int) (x10_3 : Int), v9 = .int .i64 x9_3 ∧ v10 = .int .i64 x10_3 ∧ Aside0 (incipitref04_number.l1 kq a0 a1 x7_2 x8_2 x9_3 x10_3 = some r) ∧ Aside0 (kq ≤ k2) ∧ Drawn0 w w')
              case atStart => exact ⟨((-1)), (0), (by first | rfl | (simp; done) | (simp [*]; done)), (by first | rfl | (simp; done) | (simp [*]; done)), H', ⟨Nat.le_refl _⟩, by repeat (first | exact Drawn0.refl _ | apply Drawn0.step)⟩
              case round =>
                clear H'
                try clear p2
                try clear c3
                try clear c5
                try clear c5b0
                try clear c5b1
                try clear c6
                try clear c7
                try clear c7b0
                try clear p2
                obtain ⟨x9_3, x10_3, rfl, rfl, HA, HK3, ⟨m3, rfl⟩⟩ := hrel
                cases gk with
                | zero => exact absurd HA.out (by simp [incipitref04_number.l1])
                | succ k3 =>
                  have H := HA.out
                  clear HA
                  simp only [incipitref04_number.l1] at H
                  by_cases c8 : x10_3 < a1
                  · rw [if_pos c8] at H
                    have c8b0 : decide (x10_3 < a1) = true := decide_eq_true c8
                    clear c8
                    by_cases c9 : 0 ≤ x8_2
                    · rw [if_pos c9] at H
                      have c9b0 : decide (0 ≤ x8_2) = true := decide_eq_true c9
                      clear c9
                      by_cases c10 : x8_2 < (a0.size : Int)
                      · rw [if_pos c10] at H
                        have c10b0 : decide (x8_2 < (a0.size : Int)) = true := decide_eq_true c10
                        clear c10
                        by_cases c12 : 0 ≤ x10_3
                        · rw [if_pos c12] at H
                          have c12b0 : decide (0 ≤ x10_3) = true := decide_eq_true c12
                          clear c12
                          by_cases c13 : x10_3 < 16
                          · rw [if_pos c13] at H
                            have c13b0 : decide (x10_3 < 16) = true := decide_eq_true c13
                            clear c13
                            by_cases c15 : (bt a0 x8_2) = (bt (⟨#[48, 49, 50, 51, 52, 53, 54, 55, 56, 57, 97, 98, 99, 100, 101, 102]⟩ : ByteArray) x10_3)
                            · rw [if_pos c15] at H
                              have c15b0 : ((bt a0 x8_2) == (bt (⟨#[48, 49, 50, 51, 52, 53, 54, 55, 56, 57, 97, 98, 99, 100, 101, 102]⟩ : ByteArray) x10_3)) = true := beq_iff_eq.mpr c15
                              have c15b1 : ((bt a0 x8_2) != (bt (⟨#[48, 49, 50, 51, 52, 53, 54, 55, 56, 57, 97, 98, 99, 100, 101, 102]⟩ : ByteArray) x10_3)) = false := bne_eq_false_iff_eq.mpr c15
                              clear c15
                              have H' := Aside0.mk H
                              clear H
                              have p11 : 0 ≤ (x8_2 : Int) := of_decide_eq_true (by first | (with_reducible assumption) | assumption)
                              have q11 : x8_2 < (a0.size : Int) := of_decide_eq_true (by first | (with_reducible assumption) | assumption)
                              have hx11 := bt_at a0 x8_2
                              replace p11 := eq_true p11
                              replace q11 := eq_true q11
                              have p14 : 0 ≤ (x10_3 : Int) := of_decide_eq_true (by first | (with_reducible assumption) | assumption)
                              have q14 : x10_3 < (16 : Int) := of_decide_eq_true (by first | (with_reducible assumption) | assumption)
                              have hx14 := bt_at (⟨#[48, 49, 50, 51, 52, 53, 54, 55, 56, 57, 97, 98, 99, 100, 101, 102]⟩ : ByteArray) x10_3
                              replace p14 := eq_true p14
                              replace q14 := eq_true q14
                              go_wp2
                              repeat (go_quiet (fail); try go_wp2)
                              go_roundg k3
                              case measure => have := HJ3.out; have := HK2.out; have := HK3.out; omega
                              case rel => exact ⟨(x10_3), (wrap64 (x10_3 + 1)), (by first | rfl | (simp; done) | (simp [*]; done)), (by first | rfl | (simp; done) | (simp [*]; done)), H', ⟨by have := HJ3.out; have := HK2.out; have := HK3.out; omega⟩, by repeat (first | exact Drawn0.refl _ | apply Drawn0.step)⟩
                            · rw [if_neg c15] at H
                              have c15b0 : ((bt a0 x8_2) == (bt (⟨#[48, 49, 50, 51, 52, 53, 54, 55, 56, 57, 97, 98, 99, 100, 101, 102]⟩ : ByteArray) x10_3)) = false := beq_eq_false_iff_ne.mpr c15
                              have c15b1 : ((bt a0 x8_2) != (bt (⟨#[48, 49, 50, 51, 52, 53, 54, 55, 56, 57, 97, 98, 99, 100, 101, 102]⟩ : ByteArray) x10_3)) = true := bne_iff_ne.mpr c15
                              by_cases c18 : (bt a0 x8_2) = (bt (⟨#[48, 49, 50, 51, 52, 53, 54, 55, 56, 57, 65, 66, 67, 68, 69, 70]⟩ : ByteArray) x10_3)
                              · rw [if_pos c18] at H
                                have c18b0 : ((bt a0 x8_2) == (bt (⟨#[48, 49, 50, 51, 52, 53, 54, 55, 56, 57, 65, 66, 67, 68, 69, 70]⟩ : ByteArray) x10_3)) = true := beq_iff_eq.mpr c18
                                have c18b1 : ((bt a0 x8_2) != (bt (⟨#[48, 49, 50, 51, 52, 53, 54, 55, 56, 57, 65, 66, 67, 68, 69, 70]⟩ : ByteArray) x10_3)) = false := bne_eq_false_iff_eq.mpr c18
                                clear c18
                                have H' := Aside0.mk H
                                clear H
                                have p11 : 0 ≤ (x8_2 : Int) := of_decide_eq_true (by first | (with_reducible assumption) | assumption)
                                have q11 : x8_2 < (a0.size : Int) := of_decide_eq_true (by first | (with_reducible assumption) | assumption)
                                have hx11 := bt_at a0 x8_2
                                replace p11 := eq_true p11
                                replace q11 := eq_true q11
                                have p14 : 0 ≤ (x10_3 : Int) := of_decide_eq_true (by first | (with_reducible assumption) | assumption)
                                have q14 : x10_3 < (16 : Int) := of_decide_eq_true (by first | (with_reducible assumption) | assumption)
                                have hx14 := bt_at (⟨#[48, 49, 50, 51, 52, 53, 54, 55, 56, 57, 97, 98, 99, 100, 101, 102]⟩ : ByteArray) x10_3
                                replace p14 := eq_true p14
                                replace q14 := eq_true q14
                                have p16 : 0 ≤ (x8_2 : Int) := of_decide_eq_true (by first | (with_reducible assumption) | assumption)
                                have q16 : x8_2 < (a0.size : Int) := of_decide_eq_true (by first | (with_reducible assumption) | assumption)
                                have hx16 := bt_at a0 x8_2
                                replace p16 := eq_true p16
                                replace q16 := eq_true q16
                                have p17 : 0 ≤ (x10_3 : Int) := of_decide_eq_true (by first | (with_reducible assumption) | assumption)
                                have q17 : x10_3 < (16 : Int) := of_decide_eq_true (by first | (with_reducible assumption) | assumption)
                                have hx17 := bt_at (⟨#[48, 49, 50, 51, 52, 53, 54, 55, 56, 57, 65, 66, 67, 68, 69, 70]⟩ : ByteArray) x10_3
                                replace p17 := eq_true p17
                                replace q17 := eq_true q17
                                go_wp2
                                repeat (go_quiet (fail); try go_wp2)
                                go_roundg k3
                                case measure => have := HJ3.out; have := HK2.out; have := HK3.out; omega
                                case rel => exact ⟨(x10_3), (wrap64 (x10_3 + 1)), (by first | rfl | (simp; done) | (simp [*]; done)), (by first | rfl | (simp; done) | (simp [*]; done)), H', ⟨by have := HJ3.out; have := HK2.out; have := HK3.out; omega⟩, by repeat (first | exact Drawn0.refl _ | apply Drawn0.step)⟩
                              · rw [if_neg c18] at H
                                have c18b0 : ((bt a0 x8_2) == (bt (⟨#[48, 49, 50, 51, 52, 53, 54, 55, 56, 57, 65, 66, 67, 68, 69, 70]⟩ : ByteArray) x10_3)) = false := beq_eq_false_iff_ne.mpr c18
                                have c18b1 : ((bt a0 x8_2) != (bt (⟨#[48, 49, 50, 51, 52, 53, 54, 55, 56, 57, 65, 66, 67, 68, 69, 70]⟩ : ByteArray) x10_3)) = true := bne_iff_ne.mpr c18
                                have H' := Aside0.mk H
                                clear H
                                have p11 : 0 ≤ (x8_2 : Int) := of_decide_eq_true (by first | (with_reducible assumption) | assumption)
                                have q11 : x8_2 < (a0.size : Int) := of_decide_eq_true (by first | (with_reducible assumption) | assumption)
                                have hx11 := bt_at a0 x8_2
                                replace p11 := eq_true p11
                                replace q11 := eq_true q11
                                have p14 : 0 ≤ (x10_3 : Int) := of_decide_eq_true (by first | (with_reducible assumption) | assumption)
                                have q14 : x10_3 < (16 : Int) := of_decide_eq_true (by first | (with_reducible assumption) | assumption)
                                have hx14 := bt_at (⟨#[48, 49, 50, 51, 52, 53, 54, 55, 56, 57, 97, 98, 99, 100, 101, 102]⟩ : ByteArray) x10_3
                                replace p14 := eq_true p14
                                replace q14 := eq_true q14
                                have p16 : 0 ≤ (x8_2 : Int) := of_decide_eq_true (by first | (with_reducible assumption) | assumption)
                                have q16 : x8_2 < (a0.size : Int) := of_decide_eq_true (by first | (with_reducible assumption) | assumption)
                                have hx16 := bt_at a0 x8_2
                                replace p16 := eq_true p16
                                replace q16 := eq_true q16
                                have p17 : 0 ≤ (x10_3 : Int) := of_decide_eq_true (by first | (with_reducible assumption) | assumption)
                                have q17 : x10_3 < (16 : Int) := of_decide_eq_true (by first | (with_reducible assumption) | assumption)
                                have hx17 := bt_at (⟨#[48, 49, 50, 51, 52, 53, 54, 55, 56, 57, 65, 66, 67, 68, 69, 70]⟩ : ByteArray) x10_3
                                replace p17 := eq_true p17
                                replace q17 := eq_true q17
                                go_wp2
                                repeat (go_quiet (fail); try go_wp2)
                                go_roundg k3
                                case measure => have := HJ3.out; have := HK2.out; have := HK3.out; omega
                                case rel => exact ⟨(x9_3), (wrap64 (x10_3 + 1)), (by first | rfl | (simp; done) | (simp [*]; done)), (by first | rfl | (simp; done) | (simp [*]; done)), H', ⟨by have := HJ3.out; have := HK2.out; have := HK3.out; omega⟩, by repeat (first | exact Drawn0.refl _ | apply Drawn0.step)⟩
                          · rw [if_neg c13] at H
                            exact absurd H (by simp)
                        · rw [if_neg c12] at H
                          exact absurd H (by simp)
                      · rw [if_neg c10] at H
                        exact absurd H (by simp)
                    · rw [if_neg c9] at H
                      exact absurd H (by simp)
                  · rw [if_neg c8] at H
                    have c8b0 : decide (x10_3 < a1) = false := decide_eq_false c8
                    clear c8
                    by_cases c19 : x9_3 < 0
                    · rw [if_pos c19] at H
                      have c19b0 : decide (x9_3 < 0) = true := decide_eq_true c19
                      clear c19
                      obtain rfl := Option.some.inj H
                      go_wp2
                      repeat (go_quiet (fail); try go_wp2)
                      go_ret
                      exact ⟨by first | rfl | (simp; done) | (simp [*]; done), by repeat (first | exact Drawn0.refl _ | apply Drawn0.step)⟩
                    · rw [if_neg c19] at H
                      have c19b0 : decide (x9_3 < 0) = false := decide_eq_false c19
                      clear c19
                      have H' := Aside0.mk H
                      clear H
                      go_wp2
                      repeat (go_quiet (fail); try go_wp2)
                      go_roundg k3
                      case measure => have := HJ3.out; have := HK2.out; have := HK3.out; omega
                      case rel => exact ⟨(wrap64 ((wrap64 (x7_2 * a1)) + x9_3)), (wrap64 (x8_2 + 1)), (by first | rfl | (simp; done) | (simp [*]; done)), (by first | rfl | (simp; done) | (simp [*]; done)), H', ⟨by have := HJ3.out; have := HK2.out; have := HK3.out; omega⟩, by repeat (first | exact Drawn0.refl _ | apply Drawn0.step)⟩
            · rw [if_neg c7] at H
              have c7b0 : decide (x8_2 < (a0.size : Int)) = false := decide_eq_false c7
              clear c7
              obtain rfl := Option.some.inj H
              go_wp2
              repeat (go_quiet (fail); try go_wp2)
              go_ret
              exact ⟨by first | rfl | (simp; done) | (simp [*]; done), by repeat (first | exact Drawn0.refl _ | apply Drawn0.step)⟩

end Go.Proofs.YtjobchgncdgfaaaGreatDoor.PA

namespace Go.Proofs.YtjobchgncdgfaaaGreatDoor.PA
open Go.RowKit Go.Proofs.YtjobchgncdgfaaaGreatDoorW.PrintWords Go.Proofs.YtjobchgncdgfaaaGreatDoorW.PrintLast Go.Proofs.YtjobchgncdgfaaaGreatDoorW.PrintMore
attribute [local go_sem] max2_int min2_int max_two min_two max_three min_three max_four min_four   -- for this text's walks alone
set_option linter.unusedVariables false
set_option linter.unusedSimpArgs false

/-! ### incipitref04_Read: function 42 -/
mutual
def incipitref04_Read.j0 : Nat → ByteArray → Int → Bool → Option (ByteArray × Int)
  | 0, _, _, _ => none
  | k + 1, x0, x4, x16 => if x16 = true then (some ((⟨#[]⟩ : ByteArray), 0)) else (if 1 < (x0.size : Int) then (if (bt x0 1) = 35 then (if x4 > 2 then (if 2 < (x0.size : Int) then (if (bt x0 2) = 120 then (incipitref04_Read.j1 k x0 x4 true) else (incipitref04_Read.j1 k x0 x4 ((bt x0 2) == 88))) else (none)) else (incipitref04_Read.j1 k x0 x4 false)) else (if 1 ≤ x4 then (if x4 ≤ (x0.size : Int) then ((incipitref04_Named.f k (x0.extract 1 (x4 : Int).toNat)).bind fun bt140 => (if bt140.2 = true then (some (bt140.1, wrap64 (x4 + 1))) else (some ((⟨#[]⟩ : ByteArray), 0)))) else (none)) else (none))) else (none))
def incipitref04_Read.j1 : Nat → ByteArray → Int → Bool → Option (ByteArray × Int)
  | 0, _, _, _ => none
  | k + 1, x0, x4, x43 => if x43 = true then (if 3 ≤ x4 then (if x4 ≤ (x0.size : Int) then ((incipitref04_number.f k (x0.extract 3 (x4 : Int).toNat) 16 6).bind fun t142 => (incipitref04_Read.j2 k x4 t142)) else (none)) else (none)) else (if 2 ≤ x4 then (if x4 ≤ (x0.size : Int) then ((incipitref04_number.f k (x0.extract 2 (x4 : Int).toNat) 10 7).bind fun t143 => (incipitref04_Read.j2 k x4 t143)) else (none)) else (none))
def incipitref04_Read.j2 : Nat → Int → Int → Option (ByteArray × Int)
  | 0, _, _ => none
  | k + 1, x4, x5 => if x5 < 0 then (some ((⟨#[]⟩ : ByteArray), 0)) else (if x5 = 0 then (some ((Go.Utf8.encode 65533), wrap64 (x4 + 1))) else (if x5 ≥ 55296 then (if x5 ≤ 57343 then (some ((Go.Utf8.encode 65533), wrap64 (x4 + 1))) else (if x5 > 1114111 then (some ((Go.Utf8.encode 65533), wrap64 (x4 + 1))) else (some ((Go.Utf8.encode (wrap32 (x5))), wrap64 (x4 + 1))))) else (if x5 > 1114111 then (some ((Go.Utf8.encode 65533), wrap64 (x4 + 1))) else (some ((Go.Utf8.encode (wrap32 (x5))), wrap64 (x4 + 1))))))
end
def incipitref04_Read.f (k : Nat) (a0 : ByteArray) : Option (ByteArray × Int) := (incipitref04_end.f k a0).bind fun t139 => (if t139 < 2 then (incipitref04_Read.j0 k a0 t139 true) else (if 0 < (a0.size : Int) then (incipitref04_Read.j0 k a0 t139 ((bt a0 0) != 38)) else (none)))
set_option maxHeartbeats 8000000 in
set_option maxRecDepth 100000 in
theorem incipitref04_Read.calls (k : Nat) (a0 : ByteArray) (r1 : ByteArray) (r2 : Int) (w : World) (h : incipitref04_Read.f k a0 = some (r1, r2)) :
    Calls Tryz.prog 42 #[.string a0] w fun e w' => e = .returned (.tuple #[.string r1, .int .i64 r2]) ∧ Below w.heap.size w w' := by
  have HB := Aside0.mk (Below.refl w.heap.size w)
  have H : ((incipitref04_end.f k a0).bind fun t139 => (if t139 < 2 then (incipitref04_Read.j0 k a0 t139 true) else (if 0 < (a0.size : Int) then (incipitref04_Read.j0 k a0 t139 ((bt a0 0) != 38)) else (none)))) = some (r1, r2) := h
  clear h
  replace H := Option.bind_eq_some_iff.mp H
  obtain ⟨t139, A20, H⟩ := H
  replace H : (if t139 < 2 then (incipitref04_Read.j0 k a0 t139 true) else (if 0 < (a0.size : Int) then (incipitref04_Read.j0 k a0 t139 ((bt a0 0) != 38)) else (none))) = some (r1, r2) := H
  have A2 := Aside0.mk A20
  clear A20
  have HC3 := Aside0.mk H
  clear H
  go_enter Tryz.func42, Tryz.ntmps42
  go_upto_region 2 with (first | ((with_reducible refine gate_callee (f := 53) rfl ?_); refine goesL_ (some 9) rfl rfl Tryz.func53 (by kernel_rfl) rfl #[.string a0] rfl (by (try simp only [List.map_toArray, List.map_cons, List.map_nil]); first | done | rfl | (simp only [List.length_drop, List.length_take]; rfl)) ?_; (with_reducible refine (incipitref04_end.calls k a0 t139 _ A2.out).mono ?_); rintro e w' ⟨rfl, ⟨nd, rfl⟩⟩; refine ⟨_, rfl, ?_⟩))
  (try simp only [Act.put, List.setIfInBounds_toArray, List.set_cons_zero, List.set_cons_succ])
  go_cut [16] (fun v16 wc => ∃ (kq : Nat) (x16_2 : Bool), v16 = .bool x16_2 ∧ Aside0 (incipitref04_Read.j0 kq a0 t139 x16_2 = some (r1, r2)) ∧ Aside0 (kq ≤ k) ∧ Aside0 (Below w.heap.size w wc))
  case first =>
    have H := HC3.out
    clear HC3
    by_cases c4 : t139 < 2
    · rw [if_pos c4] at H
      have c4b0 : decide (t139 < 2) = true := decide_eq_true c4
      clear c4
      (first | rw [c4b0] | (simp only [i64_w, i32_w]; rw [c4b0]) | skip)
      have H' := Aside0.mk H
      clear H
      go_wp2
      go_meet
      case rel => exact ⟨_, (true), (by first | rfl | (simp; done) | (simp [*]; done)), H', ⟨by first | omega | exact Nat.le_refl _⟩, ⟨by repeat (first | (with_reducible first | exact HB.out | apply below_alloc | apply pw_below_drewN | apply below_drew1) | exact HB.out)⟩⟩
    · rw [if_neg c4] at H
      have c4b0 : decide (t139 < 2) = false := decide_eq_false c4
      clear c4
      (first | rw [c4b0] | (simp only [i64_w, i32_w]; rw [c4b0]) | skip)
      by_cases c5 : 0 < (a0.size : Int)
      · rw [if_pos c5] at H
        have c5b0 : decide (0 < (a0.size : Int)) = true := decide_eq_true c5
        have c5b1 : decide (0 < a0.size) = true := decide_eq_true (by omega)
        clear c5
        have H' := Aside0.mk H
        clear H
        have p6 : 0 ≤ (0 : Int) := (by omega)
        have q6 : 0 < a0.size := (by have : (0 : Int) < (a0.size : Int) := of_decide_eq_true (by first | (with_reducible assumption) | assumption); omega)
        have hx6 : ∀ h : 0 < a0.size, ((a0[0]'h).toNat : Int) = bt a0 0 := bt_at a0 0
        clear p6
        have qi6 : (0 < (a0.size : Int)) = True := eq_true (of_decide_eq_true (by first | (with_reducible assumption) | assumption))
        replace q6 := eq_true q6
        go_wp2
        go_meet
        case rel => exact ⟨_, (((bt a0 0) != 38)), (by first | rfl | (simp; done) | (simp [*]; done)), H', ⟨by first | omega | exact Nat.le_refl _⟩, ⟨by repeat (first | (with_reducible first | exact HB.out | apply below_alloc | apply pw_below_drewN | apply below_drew1) | exact HB.out)⟩⟩
      · rw [if_neg c5] at H
        exact absurd H (by simp)
  case rest =>
    clear HC3
    try clear p2
    try clear c4
    try clear c4b0
    try clear c5
    try clear c5b0
    try clear c5b1
    try clear p6
    try clear q6
    try clear hx6
    try clear qi6
    try clear p6
    try clear q6
    obtain ⟨kq, x16_2, rfl, HA, HJ2, HB⟩ := hcut
    cases kq with
    | zero => exact absurd HA.out (by simp [incipitref04_Read.j0])
    | succ kj2 =>
      have H := HA.out
      clear HA
      simp only [incipitref04_Read.j0] at H
      by_cases c7 : x16_2 = true
      · subst c7
        have H1 : (some ((⟨#[]⟩ : ByteArray), 0)) = some (r1, r2) := by rw [if_pos rfl] at H; exact H
        clear H
        have H := H1
        clear H1
        simp only [Option.some.injEq, Prod.mk.injEq] at H
        obtain ⟨rfl, rfl⟩ := H
        go_wp2
        go_ret2
        exact ⟨by first | rfl | (simp [errW_none, errW_some] <;> rfl) | (simp [*, errW_none, errW_some] <;> rfl), by repeat (first | (with_reducible first | exact HB.out | apply below_alloc | apply pw_below_drewN | apply below_drew1) | exact HB.out)⟩
      · replace c7 := Bool.eq_false_iff.mpr c7
        subst c7
        have H1 : (if 1 < (a0.size : Int) then (if (bt a0 1) = 35 then (if t139 > 2 then (if 2 < (a0.size : Int) then (if (bt a0 2) = 120 then (incipitref04_Read.j1 kj2 a0 t139 true) else (incipitref04_Read.j1 kj2 a0 t139 ((bt a0 2) == 88))) else (none)) else (incipitref04_Read.j1 kj2 a0 t139 false)) else (if 1 ≤ t139 then (if t139 ≤ (a0.size : Int) then ((incipitref04_Named.f kj2 (a0.extract 1 (t139 : Int).toNat)).bind fun bt140 => (if bt140.2 = true then (some (bt140.1, wrap64 (t139 + 1))) else (some ((⟨#[]⟩ : ByteArray), 0)))) else (none)) else (none))) else (none)) = some (r1, r2) := by rw [if_neg (show ¬ (false = true) by decide)] at H; exact H
        clear H
        have H := H1
        clear H1
        by_cases c8 : 1 < (a0.size : Int)
        · rw [if_pos c8] at H
          have c8b0 : decide (1 < (a0.size : Int)) = true := decide_eq_true c8
          have c8b1 : decide (1 < a0.size) = true := decide_eq_true (by omega)
          clear c8
          by_cases c10 : (bt a0 1) = 35
          · rw [if_pos c10] at H
            have c10b0 : ((bt a0 1) == 35) = true := beq_iff_eq.mpr c10
            have c10b1 : ((bt a0 1) != 35) = false := bne_eq_false_iff_eq.mpr c10
            clear c10
            have HC11 := Aside0.mk H
            clear H
            have p9 : 0 ≤ (1 : Int) := (by omega)
            have q9 : 1 < a0.size := (by have : (1 : Int) < (a0.size : Int) := of_decide_eq_true (by first | (with_reducible assumption) | assumption); omega)
            have hx9 : ∀ h : 1 < a0.size, ((a0[1]'h).toNat : Int) = bt a0 1 := bt_at a0 1
            clear p9
            have qi9 : (1 < (a0.size : Int)) = True := eq_true (of_decide_eq_true (by first | (with_reducible assumption) | assumption))
            replace q9 := eq_true q9
            go_upto_region 10 with (fail)
            go_cut [43] (fun v43 wc => ∃ (kq : Nat) (x43_10 : Bool), v43 = .bool x43_10 ∧ Aside0 (incipitref04_Read.j1 kq a0 t139 x43_10 = some (r1, r2)) ∧ Aside0 (kq ≤ kj2) ∧ Aside0 (Below w.heap.size w wc))
            case first =>
              have H := HC11.out
              clear HC11
              by_cases c12 : t139 > 2
              · rw [if_pos c12] at H
                have c12b0 : decide (2 < t139) = true := decide_eq_true c12
                clear c12
                (first | rw [c12b0] | (simp only [i64_w, i32_w]; rw [c12b0]) | skip)
                by_cases c13 : 2 < (a0.size : Int)
                · rw [if_pos c13] at H
                  have c13b0 : decide (2 < (a0.size : Int)) = true := decide_eq_true c13
                  have c13b1 : decide (2 < a0.size) = true := decide_eq_true (by omega)
                  clear c13
                  by_cases c15 : (bt a0 2) = 120
                  · rw [if_pos c15] at H
                    have c15b0 : ((bt a0 2) == 120) = true := beq_iff_eq.mpr c15
                    have c15b1 : ((bt a0 2) != 120) = false := bne_eq_false_iff_eq.mpr c15
                    clear c15
                    have H' := Aside0.mk H
                    clear H
                    have p14 : 0 ≤ (2 : Int) := (by omega)
                    have q14 : 2 < a0.size := (by have : (2 : Int) < (a0.size : Int) := of_decide_eq_true (by first | (with_reducible assumption) | assumption); omega)
                    have hx14 : ∀ h : 2 < a0.size, ((a0[2]'h).toNat : Int) = bt a0 2 := bt_at a0 2
                    clear p14
                    have qi14 : (2 < (a0.size : Int)) = True := eq_true (of_decide_eq_true (by first | (with_reducible assumption) | assumption))
                    replace q14 := eq_true q14
                    go_wp2
                    go_meet
                    case rel => exact ⟨_, (true), (by first | rfl | (simp; done) | (simp [*]; done)), H', ⟨by have := HJ2.out; first | omega | exact Nat.le_refl _⟩, ⟨by repeat (first | (with_reducible first | exact HB.out | apply below_alloc | apply pw_below_drewN | apply below_drew1) | exact HB.out)⟩⟩
                  · rw [if_neg c15] at H
                    have c15b0 : ((bt a0 2) == 120) = false := beq_eq_false_iff_ne.mpr c15
                    have c15b1 : ((bt a0 2) != 120) = true := bne_iff_ne.mpr c15
                    have H' := Aside0.mk H
                    clear H
                    have p14 : 0 ≤ (2 : Int) := (by omega)
                    have q14 : 2 < a0.size := (by have : (2 : Int) < (a0.size : Int) := of_decide_eq_true (by first | (with_reducible assumption) | assumption); omega)
                    have hx14 : ∀ h : 2 < a0.size, ((a0[2]'h).toNat : Int) = bt a0 2 := bt_at a0 2
                    clear p14
                    have qi14 : (2 < (a0.size : Int)) = True := eq_true (of_decide_eq_true (by first | (with_reducible assumption) | assumption))
                    replace q14 := eq_true q14
                    have p16 : 0 ≤ (2 : Int) := (by omega)
                    have q16 : 2 < a0.size := (by have : (2 : Int) < (a0.size : Int) := of_decide_eq_true (by first | (with_reducible assumption) | assumption); omega)
                    have hx16 : ∀ h : 2 < a0.size, ((a0[2]'h).toNat : Int) = bt a0 2 := bt_at a0 2
                    clear p16
                    have qi16 : (2 < (a0.size : Int)) = True := eq_true (of_decide_eq_true (by first | (with_reducible assumption) | assumption))
                    replace q16 := eq_true q16
                    go_wp2
                    go_meet
                    case rel => exact ⟨_, (((bt a0 2) == 88)), (by first | rfl | (simp; done) | (simp [*]; done)), H', ⟨by have := HJ2.out; first | omega | exact Nat.le_refl _⟩, ⟨by repeat (first | (with_reducible first | exact HB.out | apply below_alloc | apply pw_below_drewN | apply below_drew1) | exact HB.out)⟩⟩
                · rw [if_neg c13] at H
                  exact absurd H (by simp)
              · rw [if_neg c12] at H
                have c12b0 : decide (2 < t139) = false := decide_eq_false c12
                clear c12
                (first | rw [c12b0] | (simp only [i64_w, i32_w]; rw [c12b0]) | skip)
                have H' := Aside0.mk H
                clear H
                go_wp2
                go_meet
                case rel => exact ⟨_, (false), (by first | rfl | (simp; done) | (simp [*]; done)), H', ⟨by have := HJ2.out; first | omega | exact Nat.le_refl _⟩, ⟨by repeat (first | (with_reducible first | exact HB.out | apply below_alloc | apply pw_below_drewN | apply below_drew1) | exact HB.out)⟩⟩
            case rest =>
              clear HC11
              try clear c1
              try clear p1
              try clear q1
              try clear hx1
              try clear qi1
              try clear p2
              try clear c4
              try clear c4b0
              try clear c5
              try clear c5b0
              try clear c5b1
              try clear p6
              try clear q6
              try clear hx6
              try clear qi6
              try clear c7
              try clear c8
              try clear c8b0
              try clear c8b1
              try clear p9
              try clear q9
              try clear hx9
              try clear qi9
              try clear c10
              try clear c10b0
              try clear c10b1
              try clear c12
              try clear c12b0
              try clear c13
              try clear c13b0
              try clear c13b1
              try clear p14
              try clear q14
              try clear hx14
              try clear qi14
              try clear c15
              try clear c15b0
              try clear c15b1
              try clear p16
              try clear q16
              try clear hx16
              try clear qi16
              try clear p14
              try clear p16
              try clear p2
              try clear p6
              try clear p9
              try clear q14
              try clear q16
              try clear q6
              try clear q9
              obtain ⟨kq, x43_10, rfl, HA, HJ10, HB⟩ := hcut
              cases kq with
              | zero => exact absurd HA.out (by simp [incipitref04_Read.j1])
              | succ kj10 =>
                have H := HA.out
                clear HA
                simp only [incipitref04_Read.j1] at H
                have HC17 := Aside0.mk H
                clear H
                go_upto_if 43 with (fail)
                go_cut [5] (fun v5 wc => ∃ (kq : Nat) (x5_16 : Int), v5 = .int .i64 x5_16 ∧ Aside0 (incipitref04_Read.j2 kq t139 x5_16 = some (r1, r2)) ∧ Aside0 (kq ≤ kj10) ∧ Aside0 (Below w.heap.size w wc))
                case first =>
                  have H := HC17.out
                  clear HC17
                  by_cases c18 : x43_10 = true
                  · subst c18
                    have H1 : (if 3 ≤ t139 then (if t139 ≤ (a0.size : Int) then ((incipitref04_number.f kj10 (a0.extract 3 (t139 : Int).toNat) 16 6).bind fun t142 => (incipitref04_Read.j2 kj10 t139 t142)) else (none)) else (none)) = some (r1, r2) := by rw [if_pos rfl] at H; exact H
                    clear H
                    have H := H1
                    clear H1
                    by_cases c19 : 3 ≤ t139
                    · rw [if_pos c19] at H
                      have c19b0 := eq_true c19
                      have c19b1 : decide (3 ≤ t139) = true := decide_eq_true c19
                      clear c19
                      by_cases c20 : t139 ≤ (a0.size : Int)
                      · rw [if_pos c20] at H
                        have c20b0 := eq_true c20
                        have c20b1 : decide (t139 ≤ (a0.size : Int)) = true := decide_eq_true c20
                        clear c20
                        replace H := Option.bind_eq_some_iff.mp H
                        obtain ⟨t142, A210, H⟩ := H
                        replace H : (incipitref04_Read.j2 kj10 t139 t142) = some (r1, r2) := H
                        have A21 := Aside0.mk A210
                        clear A210
                        have H' := Aside0.mk H
                        clear H
                        go_wp2_with (first | ((with_reducible refine gate_callee (f := 55) rfl ?_); refine goesL_ (some 47) rfl rfl Tryz.func55 (by kernel_rfl) rfl #[.string (a0.extract 3 (t139 : Int).toNat), .int .i64 16, .int .i64 6] rfl (by (try simp only [List.map_toArray, List.map_cons, List.map_nil]); first | done | rfl | (simp only [List.length_drop, List.length_take]; rfl)) ?_; (with_reducible refine (incipitref04_number.calls kj10 (a0.extract 3 (t139 : Int).toNat) 16 6 t142 _ A21.out).mono ?_); rintro e w' ⟨rfl, ⟨nd, rfl⟩⟩; refine ⟨_, rfl, ?_⟩))
                        go_meet
                        case rel => exact ⟨_, (t142), (by first | rfl | (simp; done) | (simp [*]; done)), H', ⟨by have := HJ2.out; have := HJ10.out; first | omega | exact Nat.le_refl _⟩, ⟨by repeat (first | (with_reducible first | exact HB.out | apply below_alloc | apply pw_below_drewN | apply below_drew1) | exact HB.out)⟩⟩
                      · rw [if_neg c20] at H
                        exact absurd H (by simp)
                    · rw [if_neg c19] at H
                      exact absurd H (by simp)
                  · replace c18 := Bool.eq_false_iff.mpr c18
                    subst c18
                    have H1 : (if 2 ≤ t139 then (if t139 ≤ (a0.size : Int) then ((incipitref04_number.f kj10 (a0.extract 2 (t139 : Int).toNat) 10 7).bind fun t143 => (incipitref04_Read.j2 kj10 t139 t143)) else (none)) else (none)) = some (r1, r2) := by rw [if_neg (show ¬ (false = true) by decide)] at H; exact H
                    clear H
                    have H := H1
                    clear H1
                    by_cases c22 : 2 ≤ t139
                    · rw [if_pos c22] at H
                      have c22b0 := eq_true c22
                      have c22b1 : decide (2 ≤ t139) = true := decide_eq_true c22
                      clear c22
                      by_cases c23 : t139 ≤ (a0.size : Int)
                      · rw [if_pos c23] at H
                        have c23b0 := eq_true c23
                        have c23b1 : decide (t139 ≤ (a0.size : Int)) = true := decide_eq_true c23
                        clear c23
                        replace H := Option.bind_eq_some_iff.mp H
                        obtain ⟨t143, A240, H⟩ := H
                        replace H : (incipitref04_Read.j2 kj10 t139 t143) = some (r1, r2) := H
                        have A24 := Aside0.mk A240
                        clear A240
                        have H' := Aside0.mk H
                        clear H
                        go_wp2_with (first | ((with_reducible refine gate_callee (f := 55) rfl ?_); refine goesL_ (some 51) rfl rfl Tryz.func55 (by kernel_rfl) rfl #[.string (a0.extract 2 (t139 : Int).toNat), .int .i64 10, .int .i64 7] rfl (by (try simp only [List.map_toArray, List.map_cons, List.map_nil]); first | done | rfl | (simp only [List.length_drop, List.length_take]; rfl)) ?_; (with_reducible refine (incipitref04_number.calls kj10 (a0.extract 2 (t139 : Int).toNat) 10 7 t143 _ A24.out).mono ?_); rintro e w' ⟨rfl, ⟨nd, rfl⟩⟩; refine ⟨_, rfl, ?_⟩))
                        go_meet
                        case rel => exact ⟨_, (t143), (by first | rfl | (simp; done) | (simp [*]; done)), H', ⟨by have := HJ2.out; have := HJ10.out; first | omega | exact Nat.le_refl _⟩, ⟨by repeat (first | (with_reducible first | exact HB.out | apply below_alloc | apply pw_below_drewN | apply below_drew1) | exact HB.out)⟩⟩
                      · rw [if_neg c23] at H
                        exact absurd H (by simp)
                    · rw [if_neg c22] at H
                      exact absurd H (by simp)
                case rest =>
                  clear HC17
                  try clear c1
                  try clear p1
                  try clear q1
                  try clear hx1
                  try clear qi1
                  try clear c2
                  try clear p2
                  try clear c4
                  try clear c4b0
                  try clear c5
                  try clear c5b0
                  try clear c5b1
                  try clear p6
                  try clear q6
                  try clear hx6
                  try clear qi6
                  try clear c7
                  try clear c8
                  try clear c8b0
                  try clear c8b1
                  try clear p9
                  try clear q9
                  try clear hx9
                  try clear qi9
                  try clear c10
                  try clear c10b0
                  try clear c10b1
                  try clear c12
                  try clear c12b0
                  try clear c13
                  try clear c13b0
                  try clear c13b1
                  try clear p14
                  try clear q14
                  try clear hx14
                  try clear qi14
                  try clear c15
                  try clear c15b0
                  try clear c15b1
                  try clear p16
                  try clear q16
                  try clear hx16
                  try clear qi16
                  try clear c18
                  try clear c19
                  try clear c19b0
                  try clear c19b1
                  try clear c20
                  try clear c20b0
                  try clear c20b1
                  try clear c22
                  try clear c22b0
                  try clear c22b1
                  try clear c23
                  try clear c23b0
                  try clear c23b1
                  try clear p1
                  try clear p14
                  try clear p16
                  try clear p2
                  try clear p6
                  try clear p9
                  try clear q1
                  try clear q14
                  try clear q16
                  try clear q6
                  try clear q9
                  obtain ⟨kq, x5_16, rfl, HA, HJ16, HB⟩ := hcut
                  cases kq with
                  | zero => exact absurd HA.out (by simp [incipitref04_Read.j2])
                  | succ kj16 =>
                    have H := HA.out
                    clear HA
                    simp only [incipitref04_Read.j2] at H
                    by_cases c25 : x5_16 < 0
                    · rw [if_pos c25] at H
                      have c25b0 : decide (x5_16 < 0) = true := decide_eq_true c25
                      clear c25
                      simp only [Option.some.injEq, Prod.mk.injEq] at H
                      obtain ⟨rfl, rfl⟩ := H
                      go_wp2
                      go_ret2
                      exact ⟨by first | rfl | (simp [errW_none, errW_some] <;> rfl) | (simp [*, errW_none, errW_some] <;> rfl), by repeat (first | (with_reducible first | exact HB.out | apply below_alloc | apply pw_below_drewN | apply below_drew1) | exact HB.out)⟩
                    · rw [if_neg c25] at H
                      have c25b0 : decide (x5_16 < 0) = false := decide_eq_false c25
                      clear c25
                      by_cases c26 : x5_16 = 0
                      · rw [if_pos c26] at H
                        have c26b0 : (x5_16 == 0) = true := beq_iff_eq.mpr c26
                        have c26b1 : (x5_16 != 0) = false := bne_eq_false_iff_eq.mpr c26
                        clear c26
                        simp only [Option.some.injEq, Prod.mk.injEq] at H
                        obtain ⟨rfl, rfl⟩ := H
                        go_wp2
                        go_ret2
                        exact ⟨by first | rfl | (simp [errW_none, errW_some] <;> rfl) | (simp [*, errW_none, errW_some] <;> rfl), by repeat (first | (with_reducible first | exact HB.out | apply below_alloc | apply pw_below_drewN | apply below_drew1) | exact HB.out)⟩
                      · rw [if_neg c26] at H
                        have c26b0 : (x5_16 == 0) = false := beq_eq_false_iff_ne.mpr c26
                        have c26b1 : (x5_16 != 0) = true := bne_iff_ne.mpr c26
                        by_cases c27 : x5_16 ≥ 55296
                        · rw [if_pos c27] at H
                          have c27b0 : decide (55296 ≤ x5_16) = true := decide_eq_true c27
                          clear c27
                          by_cases c28 : x5_16 ≤ 57343
                          · rw [if_pos c28] at H
                            have c28b0 : decide (x5_16 ≤ 57343) = true := decide_eq_true c28
                            clear c28
                            simp only [Option.some.injEq, Prod.mk.injEq] at H
                            obtain ⟨rfl, rfl⟩ := H
                            go_wp2
                            go_ret2
                            exact ⟨by first | rfl | (simp [errW_none, errW_some] <;> rfl) | (simp [*, errW_none, errW_some] <;> rfl), by repeat (first | (with_reducible first | exact HB.out | apply below_alloc | apply pw_below_drewN | apply below_drew1) | exact HB.out)⟩
                          · rw [if_neg c28] at H
                            have c28b0 : decide (x5_16 ≤ 57343) = false := decide_eq_false c28
                            clear c28
                            by_cases c29 : x5_16 > 1114111
                            · rw [if_pos c29] at H
                              have c29b0 : decide (1114111 < x5_16) = true := decide_eq_true c29
                              clear c29
                              simp only [Option.some.injEq, Prod.mk.injEq] at H
                              obtain ⟨rfl, rfl⟩ := H
                              go_wp2
                              go_ret2
                              exact ⟨by first | rfl | (simp [errW_none, errW_some] <;> rfl) | (simp [*, errW_none, errW_some] <;> rfl), by repeat (first | (with_reducible first | exact HB.out | apply below_alloc | apply pw_below_drewN | apply below_drew1) | exact HB.out)⟩
                            · rw [if_neg c29] at H
                              have c29b0 : decide (1114111 < x5_16) = false := decide_eq_false c29
                              clear c29
                              simp only [Option.some.injEq, Prod.mk.injEq] at H
                              obtain ⟨rfl, rfl⟩ := H
                              go_wp2
                              go_ret2
                              exact ⟨by first | rfl | (simp [errW_none, errW_some] <;> rfl) | (simp [*, errW_none, errW_some] <;> rfl), by repeat (first | (with_reducible first | exact HB.out | apply below_alloc | apply pw_below_drewN | apply below_drew1) | exact HB.out)⟩
                        · rw [if_neg c27] at H
                          have c27b0 : decide (55296 ≤ x5_16) = false := decide_eq_false c27
                          clear c27
                          by_cases c30 : x5_16 > 1114111
                          · rw [if_pos c30] at H
                            have c30b0 : decide (1114111 < x5_16) = true := decide_eq_true c30
                            clear c30
                            simp only [Option.some.injEq, Prod.mk.injEq] at H
                            obtain ⟨rfl, rfl⟩ := H
                            go_wp2
                            go_ret2
                            exact ⟨by first | rfl | (simp [errW_none, errW_some] <;> rfl) | (simp [*, errW_none, errW_some] <;> rfl), by repeat (first | (with_reducible first | exact HB.out | apply below_alloc | apply pw_below_drewN | apply below_drew1) | exact HB.out)⟩
                          · rw [if_neg c30] at H
                            have c30b0 : decide (1114111 < x5_16) = false := decide_eq_false c30
                            clear c30
                            simp only [Option.some.injEq, Prod.mk.injEq] at H
                            obtain ⟨rfl, rfl⟩ := H
                            go_wp2
                            go_ret2
                            exact ⟨by first | rfl | (simp [errW_none, errW_some] <;> rfl) | (simp [*, errW_none, errW_some] <;> rfl), by repeat (first | (with_reducible first | exact HB.out | apply below_alloc | apply pw_below_drewN | apply below_drew1) | exact HB.out)⟩
          · rw [if_neg c10] at H
            have c10b0 : ((bt a0 1) == 35) = false := beq_eq_false_iff_ne.mpr c10
            have c10b1 : ((bt a0 1) != 35) = true := bne_iff_ne.mpr c10
            by_cases c31 : 1 ≤ t139
            · rw [if_pos c31] at H
              have c31b0 := eq_true c31
              have c31b1 : decide (1 ≤ t139) = true := decide_eq_true c31
              clear c31
              by_cases c32 : t139 ≤ (a0.size : Int)
              · rw [if_pos c32] at H
                have c32b0 := eq_true c32
                have c32b1 : decide (t139 ≤ (a0.size : Int)) = true := decide_eq_true c32
                clear c32
                replace H := Option.bind_eq_some_iff.mp H
                obtain ⟨⟨t140, t141⟩, A330, H⟩ := H
                replace H : (if t141 = true then (some (t140, wrap64 (t139 + 1))) else (some ((⟨#[]⟩ : ByteArray), 0))) = some (r1, r2) := H
                have A33 := Aside0.mk A330
                clear A330
                by_cases c34 : t141 = true
                · subst c34
                  have H1 : (some (t140, wrap64 (t139 + 1))) = some (r1, r2) := by rw [if_pos rfl] at H; exact H
                  clear H
                  have H := H1
                  clear H1
                  simp only [Option.some.injEq, Prod.mk.injEq] at H
                  obtain ⟨rfl, rfl⟩ := H
                  have p9 : 0 ≤ (1 : Int) := (by omega)
                  have q9 : 1 < a0.size := (by have : (1 : Int) < (a0.size : Int) := of_decide_eq_true (by first | (with_reducible assumption) | assumption); omega)
                  have hx9 : ∀ h : 1 < a0.size, ((a0[1]'h).toNat : Int) = bt a0 1 := bt_at a0 1
                  clear p9
                  have qi9 : (1 < (a0.size : Int)) = True := eq_true (of_decide_eq_true (by first | (with_reducible assumption) | assumption))
                  replace q9 := eq_true q9
                  go_wp2_with (first | ((with_reducible refine gate_callee (f := 54) rfl ?_); refine goesL_ (some 24) rfl rfl Tryz.func54 (by kernel_rfl) rfl #[.string (a0.extract 1 (t139 : Int).toNat)] rfl (by (try simp only [List.map_toArray, List.map_cons, List.map_nil]); first | done | rfl | (simp only [List.length_drop, List.length_take]; rfl)) ?_; (with_reducible refine (incipitref04_Named.calls kj2 (a0.extract 1 (t139 : Int).toNat) t140 true _ A33.out).mono ?_); rintro e w35 ⟨rfl, hb⟩; refine ⟨_, rfl, ?_⟩; have n0_ := Aside0.mk (below_step (by repeat (first | (with_reducible first | exact HB.out | apply below_alloc | apply pw_below_drewN | apply below_drew1) | exact HB.out)) hb); clear HB; have HB := n0_; clear n0_; (try clear hb); (try clear hb2); (try clear hk); (try clear hi)))
                  go_ret2
                  exact ⟨by first | rfl | (simp [errW_none, errW_some] <;> rfl) | (simp [*, errW_none, errW_some] <;> rfl), by repeat (first | (with_reducible first | exact HB.out | apply below_alloc | apply pw_below_drewN | apply below_drew1) | exact HB.out)⟩
                · replace c34 := Bool.eq_false_iff.mpr c34
                  subst c34
                  have H1 : (some ((⟨#[]⟩ : ByteArray), 0)) = some (r1, r2) := by rw [if_neg (show ¬ (false = true) by decide)] at H; exact H
                  clear H
                  have H := H1
                  clear H1
                  simp only [Option.some.injEq, Prod.mk.injEq] at H
                  obtain ⟨rfl, rfl⟩ := H
                  have p9 : 0 ≤ (1 : Int) := (by omega)
                  have q9 : 1 < a0.size := (by have : (1 : Int) < (a0.size : Int) := of_decide_eq_true (by first | (with_reducible assumption) | assumption); omega)
                  have hx9 : ∀ h : 1 < a0.size, ((a0[1]'h).toNat : Int) = bt a0 1 := bt_at a0 1
                  clear p9
                  have qi9 : (1 < (a0.size : Int)) = True := eq_true (of_decide_eq_true (by first | (with_reducible assumption) | assumption))
                  replace q9 := eq_true q9
                  go_wp2_with (first | ((with_reducible refine gate_callee (f := 54) rfl ?_); refine goesL_ (some 24) rfl rfl Tryz.func54 (by kernel_rfl) rfl #[.string (a0.extract 1 (t139 : Int).toNat)] rfl (by (try simp only [List.map_toArray, List.map_cons, List.map_nil]); first | done | rfl | (simp only [List.length_drop, List.length_take]; rfl)) ?_; (with_reducible refine (incipitref04_Named.calls kj2 (a0.extract 1 (t139 : Int).toNat) t140 false _ A33.out).mono ?_); rintro e w36 ⟨rfl, hb⟩; refine ⟨_, rfl, ?_⟩; have n0_ := Aside0.mk (below_step (by repeat (first | (with_reducible first | exact HB.out | apply below_alloc | apply pw_below_drewN | apply below_drew1) | exact HB.out)) hb); clear HB; have HB := n0_; clear n0_; (try clear hb); (try clear hb2); (try clear hk); (try clear hi)))
                  go_ret2
                  exact ⟨by first | rfl | (simp [errW_none, errW_some] <;> rfl) | (simp [*, errW_none, errW_some] <;> rfl), by repeat (first | (with_reducible first | exact HB.out | apply below_alloc | apply pw_below_drewN | apply below_drew1) | exact HB.out)⟩
              · rw [if_neg c32] at H
                exact absurd H (by simp)
            · rw [if_neg c31] at H
              exact absurd H (by simp)
        · rw [if_neg c8] at H
          exact absurd H (by simp)

end Go.Proofs.YtjobchgncdgfaaaGreatDoor.PA
