/-
  The law EscapeCuts holds: for every input it answers true, its arguments read behind the call as before. Conditions: the listed package-level variables as the program's text lays them (tied by the card).
-/
import Derived.Test.YtinpchebcnkckaaGreatDoorRowVars
import Derived.Test.YtinpchebcnkckaaGreatDoorPEsc2
import Derived.Test.YtinpchebcnkckaaGreatDoorPAx9
namespace Go.Proofs.YtinpchebcnkckaaGreatDoor.Pure
open Go.RowKit Go.Proofs.YtinpchebcnkckaaGreatDoorW.PrintWords Go.Proofs.YtinpchebcnkckaaGreatDoorW.PrintMore Go.Proofs.YtinpchebcnkckaaGreatDoor.Pl Go.Proofs.YtinpchebcnkckaaGreatDoor.PA

theorem cuts_l (s m : List UInt8) (hs : s.length ≤ 1000) (hm : m.length ≤ 1000) : ∀ (d i : Nat), i + d = s.length → (∀ x ∈ s.take i, x ≠ 92 ∧ x ≠ 38) → Ev (fun k => incipitlaw05_EscapeCuts.l0 k (B s) (B m) true (i : Int)) true := by
  intro d
  induction d with
  | zero =>
    intro i hi hn
    rw [List.take_of_length_le (by omega)] at hn
    have h1 := une_len _ m (Nat.le_refl _)
    refine Ev.step (f := fun _ => some true) (fun k => ?_) (Ev.now _)
    simp only [incipitlaw05_EscapeCuts.l0]
    rw [if_neg (by rw [B_size]; omega), if_pos trivial, if_pos (by rw [B_size, B_size]; omega), B_append, unesc_eq _ (by rw [List.length_append]; omega), Option.bind_some, unesc_eq m (by omega), Option.bind_some,
      if_pos (by rw [B_size, B_size]; omega), B_append, une_cut s m hn, beq_self_eq_true]
  | succ d ih =>
    intro i hi hn
    have hil : i < s.length := by omega
    have h92 : ((s[i].toNat : Int) = 92) ↔ s[i] = 92 := u8_eq _ 92 (by omega)
    have h38 : ((s[i].toNat : Int) = 38) ↔ s[i] = 38 := u8_eq _ 38 (by omega)
    by_cases h : s[i] = 92
    · refine Ev.step (f := fun _ => some true) (fun k => ?_) (Ev.now _)
      simp only [incipitlaw05_EscapeCuts.l0]
      rw [if_pos (by rw [B_size]; omega), if_pos (by omega), B_bt s i hil, if_pos (h92.2 h)]
    · by_cases h' : s[i] = 38
      · refine Ev.step (f := fun _ => some true) (fun k => ?_) (Ev.now _)
        simp only [incipitlaw05_EscapeCuts.l0]
        rw [if_pos (by rw [B_size]; omega), if_pos (by omega), B_bt s i hil, if_neg (fun e => h (h92.1 e)), if_pos (h38.2 h')]
      · refine Ev.step (fun k => ?_) (ih (i + 1) (by omega) (any_take (p := fun x => x ≠ 92 ∧ x ≠ 38) hil hn ⟨h, h'⟩))
        simp only [incipitlaw05_EscapeCuts.l0]
        rw [if_pos (by rw [B_size]; omega), if_pos (by omega), B_bt s i hil, if_neg (fun e => h (h92.1 e)), if_neg (fun e => h' (h38.1 e)), w64 (by omega) (by omega)]
        rfl
theorem EscapeCuts : ∀ (a0 : ByteArray) (a1 : ByteArray), a0.size ≤ 140737488351232 → a1.size ≤ 140737488351232 → ∃ k, PA.incipitlaw05_EscapeCuts.f k a0 a1 = some true := by
  intro a0 a1 _ _
  apply Ev.rounds
  obtain ⟨s, rfl⟩ : ∃ s, a0 = B s := ⟨_, (B_eta a0).symm⟩
  obtain ⟨m, rfl⟩ : ∃ m, a1 = B m := ⟨_, (B_eta a1).symm⟩
  unfold PA.incipitlaw05_EscapeCuts.f
  rw [awake_eq]
  simp only [Option.bind_some]
  have htrue : Ev (fun k => incipitlaw05_EscapeCuts.j0 k (B s) (B m) true true) true := by
    refine Ev.step (f := fun _ => some true) (fun k => ?_) (Ev.now _)
    simp only [incipitlaw05_EscapeCuts.j0, if_true]
  by_cases h : ((B s).size : Int) > 1000
  · exact Ev.congr (fun k => by rw [if_pos h]) htrue
  · by_cases h2 : ((B m).size : Int) > 1000
    · exact Ev.congr (fun k => by rw [if_neg h, decide_eq_true h2]) htrue
    · refine Ev.congr (f := fun k => incipitlaw05_EscapeCuts.j0 k (B s) (B m) true false) (fun k => by rw [if_neg h, decide_eq_false h2]) ?_
      rw [B_size] at h h2
      refine Ev.step (fun k => ?_) (cuts_l s m (by omega) (by omega) s.length 0 (Nat.zero_add _) (by simp))
      simp only [incipitlaw05_EscapeCuts.j0]
      rw [if_neg (by simp)]
      rfl
end Go.Proofs.YtinpchebcnkckaaGreatDoor.Pure
namespace Go.Proofs.YtinpchebcnkckaaGreatDoor.escapeCuts
open Go.ChangeShapes Go.WideShapes Go.ChangeAt Go.RowKit Go.Proofs.YtinpchebcnkckaaGreatDoorW.PrintWords Go.Proofs.YtinpchebcnkckaaGreatDoor.RowU8
open Go.ChangeMaps (open_string shut_string)
set_option linter.unusedVariables false
set_option maxRecDepth 100000 in
theorem contract (H : Type) (enc : TypeId × Value → H) (W : World) (base : Nat) (args : Array Value) (ds gs : List (DataW H)) (before : List MemPlace)
    (hval0 : ∀ (j : Nat) t v, Tryz.f9.params[j]? = some t → args[j]? = some v → Value.okWide Tryz.prog W .any base t v)
    (hW : DataW.Whole enc Tryz.prog Tryz.f9.params.toList Rows.escapeCutsSpec.vars false W args.toList ds gs before) (hsz0 : (DataW.weightsEach Tryz.prog (Tryz.f9.params.toList ++ (OpenSpec.ofChange Rows.escapeCutsSpec).bare.plain.varTypes Tryz.prog) (ds ++ gs)).all (· ≤ reachBytes) = true) (hSh : W.ShapedOpen Tryz.prog) :
    Calls Tryz.prog 9 args W fun e W' => ∃ v, e = .returned v ∧ Rows.escapeCutsSpec.post enc Tryz.prog Tryz.f9 false true false false W args v W' := by
  have hsz : (DataW.weightsEach Tryz.prog (Tryz.f9.params.toList ++ Rows.escapeCutsSpec.plain.varTypes Tryz.prog) (ds ++ gs)).all (· ≤ reachBytes) = true := hsz0
  have hval : ∀ (j : Nat) t v, Tryz.f9.params[j]? = some t → args[j]? = some v → Value.okWide Tryz.prog W .any base t v := hval0
  have hW' := hW
  obtain ⟨p, q, hA0, hV, rfl, hfz, hnd⟩ := hW
  have hA : DataW.TrodAll enc Tryz.prog W 0 (fun _ => true) true Tryz.f9.params.toList args.toList ds p := hA0
  rw [Tryz.params9] at hA hval hsz
  obtain ⟨v0, vs0, d0, ds0, p0, q0, hargs, rfl, rfl, h0, r0⟩ := trodAll_cons hA
  obtain ⟨v1, vs1, d1, ds1, p1, q1, rfl, rfl, rfl, h1, r1⟩ := trodAll_cons r0
  obtain ⟨rfl, rfl, rfl⟩ := trodAll_nil r1
  obtain rfl : args = #[v0, v1] := by cases args; simp_all
  obtain ⟨rfl, rfl⟩ := trodVars_none hV
  obtain ⟨a0, rfl, rfl, rfl, y0⟩ := open_string Tryz.underlying9 (hval 0 9 v0 rfl rfl) h0
  have w0 : a0.size ≤ 140737488351232 := by
    have z := sized_string hsz (j := 0) (t := 9) rfl rfl
    rw [Array.length_toList] at z
    exact z
  obtain ⟨a1, rfl, rfl, rfl, y1⟩ := open_string Tryz.underlying9 (hval 1 9 v1 rfl rfl) h1
  have w1 : a1.size ≤ 140737488351232 := by
    have z := sized_string hsz (j := 1) (t := 9) rfl rfl
    rw [Array.length_toList] at z
    exact z
  clear hA0 hval0 hsz0 hsz
  obtain ⟨k, hp⟩ := Pure.EscapeCuts a0 a1 w0 w1
  refine (PA.incipitlaw05_EscapeCuts.calls k a0 a1 true W (laidOf hSh) hp).mono ?_
  rintro e W' ⟨rfl, bel⟩
  exact ⟨_, rfl, _, _, _, [], _, [], hW', trodAll_mk1 (shut_bool Tryz.underlying4 _), (trodAll_cons_mk (shut_string Tryz.underlying9 y0) (trodAll_cons_mk (shut_string Tryz.underlying9 y1) trodAll_mk0)), rfl, bel.frame _, fun h => by cases h⟩
theorem laid_met (os : Os) : laidMet Tryz.prog Rows.escapeCutsRow.laid ((laidWorld os).forCall (fun _ _ => 0) ⟨#[], #[.string ByteArray.empty, .string ByteArray.empty], []⟩).memory :=
  laidMet_of_run' 8 (by kernel_rfl) (by kernel_rfl)
theorem reads (os : Os) {H : Type} (enc : TypeId × Value → H) : ∃ places, DataW.whole enc Tryz.prog ((laidWorld os).forCall (fun _ _ => 0) ⟨#[], #[.string ByteArray.empty, .string ByteArray.empty], []⟩).memory Tryz.f9.params.toList Rows.escapeCutsSpec.vars false (#[.string ByteArray.empty, .string ByteArray.empty] : Array Value).toList 8 = some ([.lit (.string []), .lit (.string [])], [], places) :=
  ⟨[], by kernel_rfl⟩
set_option maxRecDepth 100000 in
theorem lifted (os : Os) (started : os.Started) (H : Type) (enc : TypeId × Value → H) (F : Stop.Interp) :
    ReturnsInHanded {} Tryz.checked os 9 .any ((OpenSpec.ofChange Rows.escapeCutsSpec).preRow enc Tryz.prog Tryz.f9 Rows.escapeCutsRow.domain false Rows.escapeCutsRow.laid) (((OpenSpec.ofChange Rows.escapeCutsSpec).at F).post enc Tryz.prog Tryz.f9 false true false false) := by
  obtain ⟨places, hx⟩ := reads os enc
  refine returnsInHanded_of_row (C := Tryz.checked) (s := OpenSpec.ofChange Rows.escapeCutsSpec) own started (by kernel_rfl) Tryz.func9
    (witness_row_atRef (enc := enc) (C := Tryz.checked) false (laidWorld os) #[.string ByteArray.empty, .string ByteArray.empty] (laidWorld_os os) (by kernel_rfl) (by kernel_rfl) (by kernel_rfl)
      (OpenSpec.preRow_of_cond 8 hx (by kernel_rfl) (fun k hk => by cases hk) (by kernel_rfl) (laid_met os))) ?_
  intro W base args ds gs before hval hW _ _ hsz hL hSh _
  exact contract H enc W base args ds gs before hval hW hsz hSh
theorem said : Rows.EscapeCutsSaid :=
  OpenClaim.holds_of_cond 9 Tryz.f9 rfl rfl rfl rfl rfl rfl rfl ⟨rfl, rfl, rfl, rfl, rfl⟩ rfl rfl rfl rfl rfl (by kernel_rfl) Tryz.func9 (by kernel_rfl)
    (of_decide_eq_true (by kernel_rfl)) (by unfold Func.isWrapper; first | (rw [if_pos (by decide +kernel)]; kernel_rfl) | (rw [if_neg (by decide +kernel)]; exact ⟨rfl, rfl⟩))
    (fun os started H enc _ F => by rw [OpenClaim.pre_eq_preRow]; exact lifted os started H enc F)
theorem plain (f : FuncId) (fn : Func) (hf : Tryz.pinned.checked.prog.funcNamed "incipit/incipitlaw05.EscapeCuts" = some f) (hfn : Tryz.pinned.checked.prog.funcs[f]? = some fn) :
    true = Tryz.pinned.checked.prog.looks [] ∧ ∀ (j : Nat) t, fn.params[j]? = some t → Tryz.pinned.checked.prog.wantsStandIn t = false := by
  obtain rfl : f = 9 := Option.some.inj ((show Tryz.prog.funcNamed "incipit/incipitlaw05.EscapeCuts" = some 9 by kernel_rfl).symm.trans hf) |>.symm
  obtain rfl : fn = Tryz.f9 := (Option.some.inj (Tryz.func9.symm.trans hfn)).symm
  refine ⟨by kernel_rfl, fun j t ht => ?_⟩
  rw [Tryz.params9] at ht
  have hall : ∀ t ∈ (#[9, 9] : Array Nat), Tryz.prog.wantsStandIn t = false := by
    intro t ht
    simp at ht
    subst ht
    exact (show Tryz.prog.wantsStandIn 9 = false by kernel_rfl)
  exact hall t (Array.mem_of_getElem? ht)
theorem card : Rows.EscapeCutsCardSaid :=
  Claim7.holds_tied_plain_at .later [] _ _ _ _ said (fun _ h => by cases h) (by kernel_rfl) (fun _ h => by cases h) escapeCuts_row_tie rfl ⟨rfl, rfl⟩ (by kernel_rfl) rfl plain (by kernel_rfl)
end Go.Proofs.YtinpchebcnkckaaGreatDoor.escapeCuts
namespace Go.Proofs.YtinpchebcnkckaaGreatDoor
/-- The statement, under a short name, for the claim. -/
theorem escapeCuts_holds : Rows.EscapeCutsCardSaid := escapeCuts.card
end Go.Proofs.YtinpchebcnkckaaGreatDoor
