/-
  The law EscapeSigns holds: for every input it answers true, its arguments read behind the call as before. Conditions: the listed package-level variables as the program's text lays them (tied by the card).
-/
import Derived.Test.YtinpchebcnkckaaGreatDoorRowVars
import Derived.Test.YtinpchebcnkckaaGreatDoorPEsc2
import Derived.Test.YtinpchebcnkckaaGreatDoorPAx7
namespace Go.Proofs.YtinpchebcnkckaaGreatDoor.Pure
open Go.RowKit Go.Proofs.YtinpchebcnkckaaGreatDoorW.PrintWords Go.Proofs.YtinpchebcnkckaaGreatDoorW.PrintMore Go.Proofs.YtinpchebcnkckaaGreatDoor.Pl Go.Proofs.YtinpchebcnkckaaGreatDoor.PA

/-- A list of bytes as whole numbers. -/
def nm (l : List UInt8) : List Int := l.map fun x => (x.toNat : Int)
theorem nm_len (l : List UInt8) : (nm l).length = l.length := by simp [nm]
theorem nm_add (l : List UInt8) (x : UInt8) : nm l ++ [(x.toNat : Int)] = nm (l ++ [x]) := by simp [nm]
theorem nm_str (l : List UInt8) : strOfNums (nm l) = B l := by
  apply B_ext
  rw [B_data]
  simp [strOfNums, nm, Function.comp_def]
theorem bsl_len : ∀ l : List UInt8, (bsl l).length ≤ 2 * l.length
  | [] => by simp [bsl]
  | x :: l => by
    have := bsl_len l
    rw [bsl_cons, List.length_append, List.length_cons]
    split <;> simp <;> omega
theorem bsl_snoc (a : List UInt8) (x : UInt8) : bsl (a ++ [x]) = bsl a ++ (if sgn x = true then [92, x] else [x]) := by
  unfold bsl
  rw [List.flatMap_append]
  simp
theorem bsl_take (s : List UInt8) (i : Nat) (h : i < s.length) : bsl (s.take (i + 1)) = bsl (s.take i) ++ (if sgn s[i] = true then [92, s[i]] else [s[i]]) :=
  (congrArg bsl (List.take_succ_eq_append_getElem h)).trans (bsl_snoc _ _)
theorem signs_l (s : List UInt8) (hs : s.length ≤ 2000) : ∀ (d i : Nat), i + d = s.length → Ev (fun k => incipitlaw05_EscapeSigns.l0 k (B s) true (nm (bsl (s.take i))) (i : Int)) true := by
  intro d
  induction d with
  | zero =>
    intro i hi
    have h1 := bsl_len s
    rw [List.take_of_length_le (by omega)]
    refine Ev.step (f := fun _ => some true) (fun k => ?_) (Ev.now _)
    simp only [incipitlaw05_EscapeSigns.l0]
    rw [if_neg (by rw [B_size]; omega), if_pos trivial, nm_str, unesc_eq _ (by omega), Option.bind_some, une_bsl, beq_self_eq_true]
  | succ d ih =>
    intro i hi
    have hil : i < s.length := by omega
    have h1 := bsl_len (s.take i)
    rw [List.length_take] at h1
    have hb := bsl_take s i hil
    have ih2 := ih (i + 1) (by omega)
    rw [hb] at ih2
    refine Ev.step (fun k => ?_) ih2
    simp only [incipitlaw05_EscapeSigns.l0]
    rw [if_pos (by rw [B_size]; omega), if_pos (by omega), B_bt s i hil, sign_eq, Option.bind_some]
    by_cases h : sgn s[i] = true
    · rw [if_pos h, if_pos h, if_pos (by rw [nm_len]; omega), Option.bind_some, if_pos (by rw [List.length_append, nm_len]; simp; omega), w64 (by omega) (by omega)]
      rw [show (92 : Int) = ((92 : UInt8).toNat : Int) from rfl, nm_add, nm_add, List.append_assoc]
      rfl
    · rw [if_neg h, if_neg h, if_pos (by rw [nm_len]; omega), w64 (by omega) (by omega), nm_add]
      rfl
theorem EscapeSigns : ∀ (a0 : ByteArray), a0.size ≤ 140737488351232 → ∃ k, PA.incipitlaw05_EscapeSigns.f k a0 = some true := by
  intro a0 _
  apply Ev.rounds
  obtain ⟨s, rfl⟩ : ∃ s, a0 = B s := ⟨_, (B_eta a0).symm⟩
  unfold PA.incipitlaw05_EscapeSigns.f
  rw [awake_eq]
  simp only [Option.bind_some]
  by_cases h : ((B s).size : Int) > 2000
  · exact Ev.congr (fun k => by rw [if_pos h]) (Ev.now _)
  · rw [B_size] at h
    refine Ev.congr (fun k => by rw [if_neg (by rw [B_size]; exact h)]; rfl) (signs_l s (by omega) s.length 0 (Nat.zero_add _))
end Go.Proofs.YtinpchebcnkckaaGreatDoor.Pure
namespace Go.Proofs.YtinpchebcnkckaaGreatDoor.escapeSigns
open Go.ChangeShapes Go.WideShapes Go.ChangeAt Go.RowKit Go.Proofs.YtinpchebcnkckaaGreatDoorW.PrintWords Go.Proofs.YtinpchebcnkckaaGreatDoor.RowU8
open Go.ChangeMaps (open_string shut_string)
set_option linter.unusedVariables false
set_option maxRecDepth 100000 in
theorem contract (H : Type) (enc : TypeId × Value → H) (W : World) (base : Nat) (args : Array Value) (ds gs : List (DataW H)) (before : List MemPlace)
    (hval0 : ∀ (j : Nat) t v, Tryz.f6.params[j]? = some t → args[j]? = some v → Value.okWide Tryz.prog W .any base t v)
    (hW : DataW.Whole enc Tryz.prog Tryz.f6.params.toList Rows.escapeSignsSpec.vars false W args.toList ds gs before) (hsz0 : (DataW.weightsEach Tryz.prog (Tryz.f6.params.toList ++ (OpenSpec.ofChange Rows.escapeSignsSpec).bare.plain.varTypes Tryz.prog) (ds ++ gs)).all (· ≤ reachBytes) = true) (hSh : W.ShapedOpen Tryz.prog) :
    Calls Tryz.prog 6 args W fun e W' => ∃ v, e = .returned v ∧ Rows.escapeSignsSpec.post enc Tryz.prog Tryz.f6 false true false false W args v W' := by
  have hsz : (DataW.weightsEach Tryz.prog (Tryz.f6.params.toList ++ Rows.escapeSignsSpec.plain.varTypes Tryz.prog) (ds ++ gs)).all (· ≤ reachBytes) = true := hsz0
  have hval : ∀ (j : Nat) t v, Tryz.f6.params[j]? = some t → args[j]? = some v → Value.okWide Tryz.prog W .any base t v := hval0
  have hW' := hW
  obtain ⟨p, q, hA0, hV, rfl, hfz, hnd⟩ := hW
  have hA : DataW.TrodAll enc Tryz.prog W 0 (fun _ => true) true Tryz.f6.params.toList args.toList ds p := hA0
  rw [Tryz.params6] at hA hval hsz
  obtain ⟨v0, vs0, d0, ds0, p0, q0, hargs, rfl, rfl, h0, r0⟩ := trodAll_cons hA
  obtain ⟨rfl, rfl, rfl⟩ := trodAll_nil r0
  obtain rfl : args = #[v0] := by cases args; simp_all
  obtain ⟨rfl, rfl⟩ := trodVars_none hV
  obtain ⟨a0, rfl, rfl, rfl, y0⟩ := open_string Tryz.underlying9 (hval 0 9 v0 rfl rfl) h0
  have w0 : a0.size ≤ 140737488351232 := by
    have z := sized_string hsz (j := 0) (t := 9) rfl rfl
    rw [Array.length_toList] at z
    exact z
  clear hA0 hval0 hsz0 hsz
  obtain ⟨k, hp⟩ := Pure.EscapeSigns a0 w0
  refine (PA.incipitlaw05_EscapeSigns.calls k a0 true W (laidOf hSh) hp).mono ?_
  rintro e W' ⟨rfl, bel⟩
  exact ⟨_, rfl, _, _, _, [], _, [], hW', trodAll_mk1 (shut_bool Tryz.underlying4 _), (trodAll_cons_mk (shut_string Tryz.underlying9 y0) trodAll_mk0), rfl, bel.frame _, fun h => by cases h⟩
theorem laid_met (os : Os) : laidMet Tryz.prog Rows.escapeSignsRow.laid ((laidWorld os).forCall (fun _ _ => 0) ⟨#[], #[.string ByteArray.empty], []⟩).memory :=
  laidMet_of_run' 8 (by kernel_rfl) (by kernel_rfl)
theorem reads (os : Os) {H : Type} (enc : TypeId × Value → H) : ∃ places, DataW.whole enc Tryz.prog ((laidWorld os).forCall (fun _ _ => 0) ⟨#[], #[.string ByteArray.empty], []⟩).memory Tryz.f6.params.toList Rows.escapeSignsSpec.vars false (#[.string ByteArray.empty] : Array Value).toList 8 = some ([.lit (.string [])], [], places) :=
  ⟨[], by kernel_rfl⟩
set_option maxRecDepth 100000 in
theorem lifted (os : Os) (started : os.Started) (H : Type) (enc : TypeId × Value → H) (F : Stop.Interp) :
    ReturnsInHanded {} Tryz.checked os 6 .any ((OpenSpec.ofChange Rows.escapeSignsSpec).preRow enc Tryz.prog Tryz.f6 Rows.escapeSignsRow.domain false Rows.escapeSignsRow.laid) (((OpenSpec.ofChange Rows.escapeSignsSpec).at F).post enc Tryz.prog Tryz.f6 false true false false) := by
  obtain ⟨places, hx⟩ := reads os enc
  refine returnsInHanded_of_row (C := Tryz.checked) (s := OpenSpec.ofChange Rows.escapeSignsSpec) own started (by kernel_rfl) Tryz.func6
    (witness_row_atRef (enc := enc) (C := Tryz.checked) false (laidWorld os) #[.string ByteArray.empty] (laidWorld_os os) (by kernel_rfl) (by kernel_rfl) (by kernel_rfl)
      (OpenSpec.preRow_of_cond 8 hx (by kernel_rfl) (fun k hk => by cases hk) (by kernel_rfl) (laid_met os))) ?_
  intro W base args ds gs before hval hW _ _ hsz hL hSh _
  exact contract H enc W base args ds gs before hval hW hsz hSh
theorem said : Rows.EscapeSignsSaid :=
  OpenClaim.holds_of_cond 6 Tryz.f6 rfl rfl rfl rfl rfl rfl rfl ⟨rfl, rfl, rfl, rfl, rfl⟩ rfl rfl rfl rfl rfl (by kernel_rfl) Tryz.func6 (by kernel_rfl)
    (of_decide_eq_true (by kernel_rfl)) (by unfold Func.isWrapper; first | (rw [if_pos (by decide +kernel)]; kernel_rfl) | (rw [if_neg (by decide +kernel)]; exact ⟨rfl, rfl⟩))
    (fun os started H enc _ F => by rw [OpenClaim.pre_eq_preRow]; exact lifted os started H enc F)
theorem plain (f : FuncId) (fn : Func) (hf : Tryz.pinned.checked.prog.funcNamed "incipit/incipitlaw05.EscapeSigns" = some f) (hfn : Tryz.pinned.checked.prog.funcs[f]? = some fn) :
    true = Tryz.pinned.checked.prog.looks [] ∧ ∀ (j : Nat) t, fn.params[j]? = some t → Tryz.pinned.checked.prog.wantsStandIn t = false := by
  obtain rfl : f = 6 := Option.some.inj ((show Tryz.prog.funcNamed "incipit/incipitlaw05.EscapeSigns" = some 6 by kernel_rfl).symm.trans hf) |>.symm
  obtain rfl : fn = Tryz.f6 := (Option.some.inj (Tryz.func6.symm.trans hfn)).symm
  refine ⟨by kernel_rfl, fun j t ht => ?_⟩
  rw [Tryz.params6] at ht
  have hall : ∀ t ∈ (#[9] : Array Nat), Tryz.prog.wantsStandIn t = false := by
    intro t ht
    simp at ht
    subst ht
    exact (show Tryz.prog.wantsStandIn 9 = false by kernel_rfl)
  exact hall t (Array.mem_of_getElem? ht)
theorem card : Rows.EscapeSignsCardSaid :=
  Claim7.holds_tied_plain_at .later [] _ _ _ _ said (fun _ h => by cases h) (by kernel_rfl) (fun _ h => by cases h) escapeSigns_row_tie rfl ⟨rfl, rfl⟩ (by kernel_rfl) rfl plain (by kernel_rfl)
end Go.Proofs.YtinpchebcnkckaaGreatDoor.escapeSigns
namespace Go.Proofs.YtinpchebcnkckaaGreatDoor
/-- The statement, under a short name, for the claim. -/
theorem escapeSigns_holds : Rows.EscapeSignsCardSaid := escapeSigns.card
end Go.Proofs.YtinpchebcnkckaaGreatDoor
