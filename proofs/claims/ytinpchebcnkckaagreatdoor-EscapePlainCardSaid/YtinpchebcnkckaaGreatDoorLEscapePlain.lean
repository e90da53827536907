/-
  The law EscapePlain holds: for every input it answers true, its arguments read behind the call as before. Conditions: the listed package-level variables as the program's text lays them (tied by the card).
-/
import Derived.Test.YtinpchebcnkckaaGreatDoorRowVars
import Derived.Test.YtinpchebcnkckaaGreatDoorPEsc2
import Derived.Test.YtinpchebcnkckaaGreatDoorPAx8
namespace Go.Proofs.YtinpchebcnkckaaGreatDoor.Pure
open Go.RowKit Go.Proofs.YtinpchebcnkckaaGreatDoorW.PrintWords Go.Proofs.YtinpchebcnkckaaGreatDoorW.PrintMore Go.Proofs.YtinpchebcnkckaaGreatDoor.Pl Go.Proofs.YtinpchebcnkckaaGreatDoor.PA

/-- The bytes of which the statement speaks. -/
def okN (v : Nat) : Prop := 97 ≤ v ∧ v ≤ 122 ∨ 65 ≤ v ∧ v ≤ 90 ∨ 48 ≤ v ∧ v ≤ 57 ∨ v = 45 ∨ v = 95 ∨ v = 46 ∨ v = 47 ∨ v = 58
instance (v : Nat) : Decidable (okN v) := by unfold okN; infer_instance
abbrev okP (x : UInt8) : Prop := okN x.toNat
theorem okP_facts (x : UInt8) (h : okP x) : (x ≠ 38 ∧ x ≠ 60 ∧ x ≠ 62 ∧ x ≠ 34) ∧ (x ≠ 38 ∧ x ≠ 39 ∧ pln x = true) ∧ (x ≠ 92 ∧ x ≠ 38) := by
  have h0 : ∀ y : Fin 256, okP (UInt8.ofNat y.val) → (UInt8.ofNat y.val ≠ 38 ∧ UInt8.ofNat y.val ≠ 60 ∧ UInt8.ofNat y.val ≠ 62 ∧ UInt8.ofNat y.val ≠ 34) ∧ (UInt8.ofNat y.val ≠ 38 ∧ UInt8.ofNat y.val ≠ 39 ∧ pln (UInt8.ofNat y.val) = true) ∧ (UInt8.ofNat y.val ≠ 92 ∧ UInt8.ofNat y.val ≠ 38) := by decide +kernel
  have := h0 ⟨x.toNat, x.toNat_lt⟩
  simp only [UInt8.ofNat_toNat] at this
  exact this h
set_option maxHeartbeats 1000000 in
theorem plain_step (s : List UInt8) (i : Nat) (hil : i < s.length) (k : Nat) (hs : s.length ≤ 1000) : incipitlaw05_EscapePlain.l0 (k + 1) (B s) true (i : Int) = if okP s[i] then incipitlaw05_EscapePlain.l0 k (B s) true ((i + 1 : Nat) : Int) else some true := by
  simp only [incipitlaw05_EscapePlain.l0]
  rw [if_pos (by rw [B_size]; omega), if_pos (by omega), B_bt s i hil, w64 (by omega) (by omega)]
  have e : (i : Int) + 1 = ((i + 1 : Nat) : Int) := by omega
  rw [e]
  generalize incipitlaw05_EscapePlain.l0 k (B s) true ((i + 1 : Nat) : Int) = R
  show _ = if okN s[i].toNat then R else some true
  generalize s[i].toNat = v
  by_cases hP : okN v
  · rw [if_pos hP]
    unfold okN at hP
    repeat' split
    all_goals first | rfl | (exfalso; omega)
  · rw [if_neg hP]
    unfold okN at hP
    repeat' split
    all_goals first | rfl | (exfalso; omega)
theorem plain_l (s : List UInt8) (hs : s.length ≤ 1000) : ∀ (d i : Nat), i + d = s.length → (∀ x ∈ s.take i, okP x) → Ev (fun k => incipitlaw05_EscapePlain.l0 k (B s) true (i : Int)) true := by
  intro d
  induction d with
  | zero =>
    intro i hi hn
    rw [List.take_of_length_le (by omega)] at hn
    refine Ev.step (f := fun _ => some true) (fun k => ?_) (Ev.now _)
    simp only [incipitlaw05_EscapePlain.l0]
    rw [if_neg (by rw [B_size]; omega), if_pos trivial, html_eq s (by omega), Option.bind_some, htm_self s (fun x hx => (okP_facts x (hn x hx)).1), if_pos rfl, href_eq s (by omega), Option.bind_some, hrf_self s (fun x hx => (okP_facts x (hn x hx)).2.1), if_pos rfl,
      unesc_eq s (by omega), Option.bind_some]
    have h := une_cut s [] (fun x hx => (okP_facts x (hn x hx)).2.2)
    rw [List.append_nil, une_nil, List.append_nil] at h
    rw [h, beq_self_eq_true]
  | succ d ih =>
    intro i hi hn
    have hil : i < s.length := by omega
    by_cases h : okP s[i]
    · exact Ev.step (fun k => by rw [plain_step s i hil k hs, if_pos h]) (ih (i + 1) (by omega) (any_take hil hn h))
    · exact Ev.step (f := fun _ => some true) (fun k => by rw [plain_step s i hil k hs, if_neg h]) (Ev.now _)
theorem EscapePlain : ∀ (a0 : ByteArray), a0.size ≤ 140737488351232 → ∃ k, PA.incipitlaw05_EscapePlain.f k a0 = some true := by
  intro a0 _
  apply Ev.rounds
  obtain ⟨s, rfl⟩ : ∃ s, a0 = B s := ⟨_, (B_eta a0).symm⟩
  unfold PA.incipitlaw05_EscapePlain.f
  rw [awake_eq]
  simp only [Option.bind_some]
  by_cases h : ((B s).size : Int) > 1000
  · exact Ev.congr (fun k => by rw [if_pos h]) (Ev.now _)
  · rw [B_size] at h
    refine Ev.congr (fun k => by rw [if_neg (by rw [B_size]; exact h)]; rfl) (plain_l s (by omega) s.length 0 (Nat.zero_add _) (by simp))
end Go.Proofs.YtinpchebcnkckaaGreatDoor.Pure
namespace Go.Proofs.YtinpchebcnkckaaGreatDoor.escapePlain
open Go.ChangeShapes Go.WideShapes Go.ChangeAt Go.RowKit Go.Proofs.YtinpchebcnkckaaGreatDoorW.PrintWords Go.Proofs.YtinpchebcnkckaaGreatDoor.RowU8
open Go.ChangeMaps (open_string shut_string)
set_option linter.unusedVariables false
set_option maxRecDepth 100000 in
theorem contract (H : Type) (enc : TypeId × Value → H) (W : World) (base : Nat) (args : Array Value) (ds gs : List (DataW H)) (before : List MemPlace)
    (hval0 : ∀ (j : Nat) t v, Tryz.f8.params[j]? = some t → args[j]? = some v → Value.okWide Tryz.prog W .any base t v)
    (hW : DataW.Whole enc Tryz.prog Tryz.f8.params.toList Rows.escapePlainSpec.vars false W args.toList ds gs before) (hsz0 : (DataW.weightsEach Tryz.prog (Tryz.f8.params.toList ++ (OpenSpec.ofChange Rows.escapePlainSpec).bare.plain.varTypes Tryz.prog) (ds ++ gs)).all (· ≤ reachBytes) = true) (hSh : W.ShapedOpen Tryz.prog) :
    Calls Tryz.prog 8 args W fun e W' => ∃ v, e = .returned v ∧ Rows.escapePlainSpec.post enc Tryz.prog Tryz.f8 false true false false W args v W' := by
  have hsz : (DataW.weightsEach Tryz.prog (Tryz.f8.params.toList ++ Rows.escapePlainSpec.plain.varTypes Tryz.prog) (ds ++ gs)).all (· ≤ reachBytes) = true := hsz0
  have hval : ∀ (j : Nat) t v, Tryz.f8.params[j]? = some t → args[j]? = some v → Value.okWide Tryz.prog W .any base t v := hval0
  have hW' := hW
  obtain ⟨p, q, hA0, hV, rfl, hfz, hnd⟩ := hW
  have hA : DataW.TrodAll enc Tryz.prog W 0 (fun _ => true) true Tryz.f8.params.toList args.toList ds p := hA0
  rw [Tryz.params8] at hA hval hsz
  obtain ⟨v0, vs0, d0, ds0, p0, q0, hargs, rfl, rfl, h0, r0⟩ := trodAll_cons hA
  obtain ⟨rfl, rfl, rfl⟩ := trodAll_nil r0
  obtain rfl : args = #[v0] := by cases args; simp_all
  obtain ⟨rfl, rfl⟩ := trodVars_none hV
  obtain ⟨a0, rfl, rfl, rfl, y0⟩ := open_string Tryz.underlying9 (hval 0 9 v0 rfl rfl) h0
  have w0 : a0.size ≤ 140737488351232 := by
    have z := sized_string hsz (j := 0) (t := 9) rfl rfl
    rw [Array.length_toList] at z
    exact z
  clear hA0 hval0 hsz0 hsz
  obtain ⟨k, hp⟩ := Pure.EscapePlain a0 w0
  refine (PA.incipitlaw05_EscapePlain.calls k a0 true W (laidOf hSh) hp).mono ?_
  rintro e W' ⟨rfl, bel⟩
  exact ⟨_, rfl, _, _, _, [], _, [], hW', trodAll_mk1 (shut_bool Tryz.underlying4 _), (trodAll_cons_mk (shut_string Tryz.underlying9 y0) trodAll_mk0), rfl, bel.frame _, fun h => by cases h⟩
theorem laid_met (os : Os) : laidMet Tryz.prog Rows.escapePlainRow.laid ((laidWorld os).forCall (fun _ _ => 0) ⟨#[], #[.string ByteArray.empty], []⟩).memory :=
  laidMet_of_run' 8 (by kernel_rfl) (by kernel_rfl)
theorem reads (os : Os) {H : Type} (enc : TypeId × Value → H) : ∃ places, DataW.whole enc Tryz.prog ((laidWorld os).forCall (fun _ _ => 0) ⟨#[], #[.string ByteArray.empty], []⟩).memory Tryz.f8.params.toList Rows.escapePlainSpec.vars false (#[.string ByteArray.empty] : Array Value).toList 8 = some ([.lit (.string [])], [], places) :=
  ⟨[], by kernel_rfl⟩
set_option maxRecDepth 100000 in
theorem lifted (os : Os) (started : os.Started) (H : Type) (enc : TypeId × Value → H) (F : Stop.Interp) :
    ReturnsInHanded {} Tryz.checked os 8 .any ((OpenSpec.ofChange Rows.escapePlainSpec).preRow enc Tryz.prog Tryz.f8 Rows.escapePlainRow.domain false Rows.escapePlainRow.laid) (((OpenSpec.ofChange Rows.escapePlainSpec).at F).post enc Tryz.prog Tryz.f8 false true false false) := by
  obtain ⟨places, hx⟩ := reads os enc
  refine returnsInHanded_of_row (C := Tryz.checked) (s := OpenSpec.ofChange Rows.escapePlainSpec) own started (by kernel_rfl) Tryz.func8
    (witness_row_atRef (enc := enc) (C := Tryz.checked) false (laidWorld os) #[.string ByteArray.empty] (laidWorld_os os) (by kernel_rfl) (by kernel_rfl) (by kernel_rfl)
      (OpenSpec.preRow_of_cond 8 hx (by kernel_rfl) (fun k hk => by cases hk) (by kernel_rfl) (laid_met os))) ?_
  intro W base args ds gs before hval hW _ _ hsz hL hSh _
  exact contract H enc W base args ds gs before hval hW hsz hSh
theorem said : Rows.EscapePlainSaid :=
  OpenClaim.holds_of_cond 8 Tryz.f8 rfl rfl rfl rfl rfl rfl rfl ⟨rfl, rfl, rfl, rfl, rfl⟩ rfl rfl rfl rfl rfl (by kernel_rfl) Tryz.func8 (by kernel_rfl)
    (of_decide_eq_true (by kernel_rfl)) (by unfold Func.isWrapper; first | (rw [if_pos (by decide +kernel)]; kernel_rfl) | (rw [if_neg (by decide +kernel)]; exact ⟨rfl, rfl⟩))
    (fun os started H enc _ F => by rw [OpenClaim.pre_eq_preRow]; exact lifted os started H enc F)
theorem plain (f : FuncId) (fn : Func) (hf : Tryz.pinned.checked.prog.funcNamed "incipit/incipitlaw05.EscapePlain" = some f) (hfn : Tryz.pinned.checked.prog.funcs[f]? = some fn) :
    true = Tryz.pinned.checked.prog.looks [] ∧ ∀ (j : Nat) t, fn.params[j]? = some t → Tryz.pinned.checked.prog.wantsStandIn t = false := by
  obtain rfl : f = 8 := Option.some.inj ((show Tryz.prog.funcNamed "incipit/incipitlaw05.EscapePlain" = some 8 by kernel_rfl).symm.trans hf) |>.symm
  obtain rfl : fn = Tryz.f8 := (Option.some.inj (Tryz.func8.symm.trans hfn)).symm
  refine ⟨by kernel_rfl, fun j t ht => ?_⟩
  rw [Tryz.params8] at ht
  have hall : ∀ t ∈ (#[9] : Array Nat), Tryz.prog.wantsStandIn t = false := by
    intro t ht
    simp at ht
    subst ht
    exact (show Tryz.prog.wantsStandIn 9 = false by kernel_rfl)
  exact hall t (Array.mem_of_getElem? ht)
theorem card : Rows.EscapePlainCardSaid :=
  Claim7.holds_tied_plain_at .later [] _ _ _ _ said (fun _ h => by cases h) (by kernel_rfl) (fun _ h => by cases h) escapePlain_row_tie rfl ⟨rfl, rfl⟩ (by kernel_rfl) rfl plain (by kernel_rfl)
end Go.Proofs.YtinpchebcnkckaaGreatDoor.escapePlain
namespace Go.Proofs.YtinpchebcnkckaaGreatDoor
/-- The statement, under a short name, for the claim. -/
theorem escapePlain_holds : Rows.EscapePlainCardSaid := escapePlain.card
end Go.Proofs.YtinpchebcnkckaaGreatDoor
