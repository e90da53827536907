/-
  The law EscapeSafe holds: for every input it answers true, its arguments read behind the call as before. Conditions: the listed package-level variables as the program's text lays them (tied by the card).
-/
import Derived.Test.YtinpchebcnkckaaGreatDoorRowVars
import Derived.Test.YtinpchebcnkckaaGreatDoorPEsc2
import Derived.Test.YtinpchebcnkckaaGreatDoorPAx6
namespace Go.Proofs.YtinpchebcnkckaaGreatDoor.Pure
open Go.RowKit Go.Proofs.YtinpchebcnkckaaGreatDoorW.PrintWords Go.Proofs.YtinpchebcnkckaaGreatDoorW.PrintMore Go.Proofs.YtinpchebcnkckaaGreatDoor.Pl Go.Proofs.YtinpchebcnkckaaGreatDoor.PA

/-- What may stand at a place of a text in HTML. -/
def sf1 : List UInt8 → Prop
  | [] => True
  | y :: u => (y ≠ 60 ∧ y ≠ 62 ∧ y ≠ 34) ∧ (y = 38 → (y :: u).take 5 = [38, 97, 109, 112, 59] ∨ (y :: u).take 4 = [38, 108, 116, 59] ∨ (y :: u).take 4 = [38, 103, 116, 59] ∨ (y :: u).take 6 = [38, 113, 117, 111, 116, 59])
theorem sf_esc (x : UInt8) (r : List UInt8) : ∀ i, i < (esc x).length → sf1 ((esc x ++ r).drop i) := by
  intro i hi
  unfold esc at hi ⊢
  by_cases h1 : x = 38
  · rw [if_pos h1] at hi ⊢
    have : i = 0 ∨ i = 1 ∨ i = 2 ∨ i = 3 ∨ i = 4 := by simp at hi; omega
    rcases this with rfl | rfl | rfl | rfl | rfl <;> simp [sf1]
  · rw [if_neg h1] at hi ⊢
    by_cases h2 : x = 60
    · rw [if_pos h2] at hi ⊢
      have : i = 0 ∨ i = 1 ∨ i = 2 ∨ i = 3 := by simp at hi; omega
      rcases this with rfl | rfl | rfl | rfl <;> simp [sf1]
    · rw [if_neg h2] at hi ⊢
      by_cases h3 : x = 62
      · rw [if_pos h3] at hi ⊢
        have : i = 0 ∨ i = 1 ∨ i = 2 ∨ i = 3 := by simp at hi; omega
        rcases this with rfl | rfl | rfl | rfl <;> simp [sf1]
      · rw [if_neg h3] at hi ⊢
        by_cases h4 : x = 34
        · rw [if_pos h4] at hi ⊢
          have : i = 0 ∨ i = 1 ∨ i = 2 ∨ i = 3 ∨ i = 4 ∨ i = 5 := by simp at hi; omega
          rcases this with rfl | rfl | rfl | rfl | rfl | rfl <;> simp [sf1]
        · rw [if_neg h4] at hi ⊢
          have : i = 0 := by simp at hi; omega
          subst this
          exact ⟨⟨h2, h3, h4⟩, fun e => absurd e h1⟩
theorem sf_htm : ∀ (l : List UInt8) (i : Nat), sf1 ((htm l).drop i)
  | [], i => by simp [htm, sf1]
  | x :: l, i => by
    rw [htm_cons]
    by_cases h : i < (esc x).length
    · exact sf_esc x _ i h
    · rw [List.drop_append, List.drop_of_length_le (by omega), List.nil_append]
      exact sf_htm l _
/-- The bytes of an address. -/
def okA (y : UInt8) : Bool := decide (33 ≤ y.toNat) && decide (y.toNat ≤ 126) && !(decide (y = 60)) && !(decide (y = 62)) && !(decide (y = 34)) && !(decide (y = 39)) && !(decide (y = 92))
theorem okA_adr (x : UInt8) : (adr x).all okA = true := by
  have h : ∀ z : Fin 256, (adr (UInt8.ofNat z.val)).all okA = true := by decide +kernel
  have := h ⟨x.toNat, x.toNat_lt⟩
  simpa using this
theorem okA_hrf : ∀ l : List UInt8, (hrf l).all okA = true
  | [] => rfl
  | x :: l => by rw [hrf_cons, List.all_append, okA_adr, okA_hrf l]; rfl
theorem mn_ext (h : List UInt8) (i c : Nat) (hi : i ≤ h.length) (hl : h.length ≤ 100000) (hc : c ≤ 10) :
    (B h).extract ((i : Int)).toNat (mn ((B h).size : Int) (wrap64 ((i : Int) + (c : Int)))).toNat = B ((h.drop i).take c) ∧ (i : Int) ≤ mn ((B h).size : Int) (wrap64 ((i : Int) + (c : Int))) ∧ mn ((B h).size : Int) (wrap64 ((i : Int) + (c : Int))) ≤ ((B h).size : Int) := by
  have e : mn ((B h).size : Int) (wrap64 ((i : Int) + (c : Int))) = ((min h.length (i + c) : Nat) : Int) := by
    unfold mn
    rw [w64 (by omega) (by omega), B_size]
    split <;> omega
  rw [e, B_size]
  refine ⟨?_, by omega, by omega⟩
  rw [Int.toNat_natCast, Int.toNat_natCast, B_extract]
  congr 1
  rw [List.take_eq_take_iff, List.length_drop]
  omega
theorem safe_b (s a : List UInt8) (ha : a.length ≤ 100000) (hok : a.all okA = true) (h1 : s.length ≤ (htm s).length) (h2 : s.length ≤ a.length) : ∀ (d i : Nat), i + d = a.length → Ev (fun k => incipitlaw05_EscapeSafe.l1 k (B s) true (B (htm s)) (B a) (i : Int)) true := by
  intro d
  induction d with
  | zero =>
    intro i hi
    refine Ev.step (f := fun _ => some true) (fun k => ?_) (Ev.now _)
    simp only [incipitlaw05_EscapeSafe.l1]
    rw [if_neg (by rw [B_size]; omega), if_pos trivial, if_pos (by rw [B_size, B_size]; omega), decide_eq_true (by rw [B_size, B_size]; omega)]
  | succ d ih =>
    intro i hi
    have hil : i < a.length := by omega
    have hx := List.all_eq_true.1 hok _ (List.getElem_mem hil)
    refine Ev.step (fun k => ?_) (ih (i + 1) (by omega))
    simp only [incipitlaw05_EscapeSafe.l1]
    rw [if_pos (by rw [B_size]; omega), if_pos (by omega), B_bt a i hil]
    unfold okA at hx
    simp only [Bool.and_eq_true, decide_eq_true_eq, Bool.not_eq_true', decide_eq_false_iff_not] at hx
    obtain ⟨⟨⟨⟨⟨⟨b1, b2⟩, b3⟩, b4⟩, b5⟩, b6⟩, b7⟩ := hx
    have c3 : ¬ (((a[i]'hil).toNat : Int) = 60) := (byte_ne (a[i]'hil) 60 (by decide)).2 b3
    have c4 : ¬ (((a[i]'hil).toNat : Int) = 62) := (byte_ne (a[i]'hil) 62 (by decide)).2 b4
    have c5 : ¬ (((a[i]'hil).toNat : Int) = 34) := (byte_ne (a[i]'hil) 34 (by decide)).2 b5
    have c6 : ¬ (((a[i]'hil).toNat : Int) = 39) := (byte_ne (a[i]'hil) 39 (by decide)).2 b6
    have c7 : ¬ (((a[i]'hil).toNat : Int) = 92) := (byte_ne (a[i]'hil) 92 (by decide)).2 b7
    rw [if_neg (by omega), if_neg (by omega), if_neg c3, if_neg c4, if_neg c5, if_neg c6, if_neg c7, w64 (by omega) (by omega)]
    rfl
theorem safe_a (s : List UInt8) (hs : s.length ≤ 2000) : ∀ (d i : Nat), i + d = (htm s).length → Ev (fun k => incipitlaw05_EscapeSafe.l0 k (B s) true (B (htm s)) (i : Int)) true := by
  have hh := htm_len s
  have ha := hrf_len s
  intro d
  induction d with
  | zero =>
    intro i hi
    refine Ev.step (fun k => ?_) (safe_b s (hrf s) (by omega) (okA_hrf s) hh.1 ha.1 (hrf s).length 0 (Nat.zero_add _))
    simp only [incipitlaw05_EscapeSafe.l0]
    rw [if_neg (by rw [B_size]; omega), href_eq s (by omega), Option.bind_some]
    rfl
  | succ d ih =>
    intro i hi
    have hil : i < (htm s).length := by omega
    obtain ⟨y, hy⟩ : ∃ y, (htm s)[i] = y := ⟨_, rfl⟩
    have hd : (htm s).drop i = y :: (htm s).drop (i + 1) := by rw [← hy]; exact List.drop_eq_getElem_cons hil
    have hsf := sf_htm s i
    have hb : bt (B (htm s)) (i : Int) = (y.toNat : Int) := by rw [B_bt (htm s) i hil]; exact congrArg (fun z : UInt8 => ((z.toNat : Nat) : Int)) hy
    have m5 := mn_ext (htm s) i 5 (by omega) (by omega) (by decide)
    have m4 := mn_ext (htm s) i 4 (by omega) (by omega) (by decide)
    have m6 := mn_ext (htm s) i 6 (by omega) (by omega) (by decide)
    rw [hd] at hsf m5 m4 m6
    obtain ⟨⟨b1, b2, b3⟩, b4⟩ := hsf
    have c1 : ¬ ((y.toNat : Int) = 60) := (byte_ne y 60 (by decide)).2 b1
    have c2 : ¬ ((y.toNat : Int) = 62) := (byte_ne y 62 (by decide)).2 b2
    have c3 : ((y.toNat : Int) == 34) = false := beq_eq_false_iff_ne.2 ((byte_ne y 34 (by decide)).2 b3)
    have e38 : ((y.toNat : Int) = 38) ↔ y = 38 := u8_eq y 38 (by decide)
    refine Ev.step (f := fun k => incipitlaw05_EscapeSafe.j1 k (B s) true (B (htm s)) (i : Int) false) (fun k => ?_) (Ev.step (fun k => ?_) (ih (i + 1) (by omega)))
    · simp only [incipitlaw05_EscapeSafe.l0]
      rw [if_pos (by rw [B_size]; omega), if_pos (by omega), hb, if_neg c1, if_neg c2, c3]
    · simp only [incipitlaw05_EscapeSafe.j1]
      rw [if_neg (by simp), if_pos (by omega), if_pos (by rw [B_size]; omega), hb]
      have hw : wrap64 ((i : Int) + 1) = ((i + 1 : Nat) : Int) := by rw [w64 (by omega) (by omega)]; rfl
      rw [hw]
      by_cases h38 : y = 38
      · have hp := b4 h38
        have k5 : ((5 : Nat) : Int) = 5 := rfl
        have k4 : ((4 : Nat) : Int) = 4 := rfl
        have k6 : ((6 : Nat) : Int) = 6 := rfl
        rw [k5] at m5
        rw [k4] at m4
        rw [k6] at m6
        rw [if_pos (e38.2 h38), if_pos m5.2.1, if_pos m5.2.2, m5.1, B_toList]
        by_cases t1 : (y :: (htm s).drop (i + 1)).take 5 = [38, 97, 109, 112, 59]
        · rw [if_pos t1]
        · rw [if_neg t1, if_pos m4.2.1, if_pos m4.2.2, m4.1, B_toList]
          by_cases t2 : (y :: (htm s).drop (i + 1)).take 4 = [38, 108, 116, 59]
          · rw [if_pos t2]
          · rw [if_neg t2]
            by_cases t3 : (y :: (htm s).drop (i + 1)).take 4 = [38, 103, 116, 59]
            · rw [if_pos t3]
            · rw [if_neg t3, if_pos m6.2.1, if_pos m6.2.2, m6.1, B_toList, if_pos (((hp.resolve_left t1).resolve_left t2).resolve_left t3)]
      · rw [if_neg (fun e => h38 (e38.1 e))]
theorem EscapeSafe : ∀ (a0 : ByteArray), a0.size ≤ 140737488351232 → ∃ k, PA.incipitlaw05_EscapeSafe.f k a0 = some true := by
  intro a0 _
  apply Ev.rounds
  obtain ⟨s, rfl⟩ : ∃ s, a0 = B s := ⟨_, (B_eta a0).symm⟩
  unfold PA.incipitlaw05_EscapeSafe.f
  rw [awake_eq]
  simp only [Option.bind_some]
  by_cases h : ((B s).size : Int) > 2000
  · exact Ev.congr (fun k => by rw [if_pos h]) (Ev.now _)
  · rw [B_size] at h
    refine Ev.congr (fun k => by rw [if_neg (by rw [B_size]; exact h), html_eq s (by omega), Option.bind_some]; rfl) (safe_a s (by omega) (htm s).length 0 (Nat.zero_add _))
end Go.Proofs.YtinpchebcnkckaaGreatDoor.Pure
namespace Go.Proofs.YtinpchebcnkckaaGreatDoor.escapeSafe
open Go.ChangeShapes Go.WideShapes Go.ChangeAt Go.RowKit Go.Proofs.YtinpchebcnkckaaGreatDoorW.PrintWords Go.Proofs.YtinpchebcnkckaaGreatDoor.RowU8
open Go.ChangeMaps (open_string shut_string)
set_option linter.unusedVariables false
set_option maxRecDepth 100000 in
theorem contract (H : Type) (enc : TypeId × Value → H) (W : World) (base : Nat) (args : Array Value) (ds gs : List (DataW H)) (before : List MemPlace)
    (hval0 : ∀ (j : Nat) t v, Tryz.f4.params[j]? = some t → args[j]? = some v → Value.okWide Tryz.prog W .any base t v)
    (hW : DataW.Whole enc Tryz.prog Tryz.f4.params.toList Rows.escapeSafeSpec.vars false W args.toList ds gs before) (hsz0 : (DataW.weightsEach Tryz.prog (Tryz.f4.params.toList ++ (OpenSpec.ofChange Rows.escapeSafeSpec).bare.plain.varTypes Tryz.prog) (ds ++ gs)).all (· ≤ reachBytes) = true) (hSh : W.ShapedOpen Tryz.prog) :
    Calls Tryz.prog 4 args W fun e W' => ∃ v, e = .returned v ∧ Rows.escapeSafeSpec.post enc Tryz.prog Tryz.f4 false true false false W args v W' := by
  have hsz : (DataW.weightsEach Tryz.prog (Tryz.f4.params.toList ++ Rows.escapeSafeSpec.plain.varTypes Tryz.prog) (ds ++ gs)).all (· ≤ reachBytes) = true := hsz0
  have hval : ∀ (j : Nat) t v, Tryz.f4.params[j]? = some t → args[j]? = some v → Value.okWide Tryz.prog W .any base t v := hval0
  have hW' := hW
  obtain ⟨p, q, hA0, hV, rfl, hfz, hnd⟩ := hW
  have hA : DataW.TrodAll enc Tryz.prog W 0 (fun _ => true) true Tryz.f4.params.toList args.toList ds p := hA0
  rw [Tryz.params4] at hA hval hsz
  obtain ⟨v0, vs0, d0, ds0, p0, q0, hargs, rfl, rfl, h0, r0⟩ := trodAll_cons hA
  obtain ⟨rfl, rfl, rfl⟩ := trodAll_nil r0
  obtain rfl : args = #[v0] := by cases args; simp_all
  obtain ⟨rfl, rfl⟩ := trodVars_none hV
  obtain ⟨a0, rfl, rfl, rfl, y0⟩ := open_string Tryz.underlying9 (hval 0 9 v0 rfl rfl) h0
  have w0 : a0.size ≤ 140737488351232 := by
    have z := sized_string hsz (j := 0) (t := 9) rfl rfl
    rw [Array.length_toList] at z
    exact z
  clear hA0 hval0 hsz0 hsz
  obtain ⟨k, hp⟩ := Pure.EscapeSafe a0 w0
  refine (PA.incipitlaw05_EscapeSafe.calls k a0 true W (laidOf hSh) hp).mono ?_
  rintro e W' ⟨rfl, bel⟩
  exact ⟨_, rfl, _, _, _, [], _, [], hW', trodAll_mk1 (shut_bool Tryz.underlying4 _), (trodAll_cons_mk (shut_string Tryz.underlying9 y0) trodAll_mk0), rfl, bel.frame _, fun h => by cases h⟩
theorem laid_met (os : Os) : laidMet Tryz.prog Rows.escapeSafeRow.laid ((laidWorld os).forCall (fun _ _ => 0) ⟨#[], #[.string ByteArray.empty], []⟩).memory :=
  laidMet_of_run' 8 (by kernel_rfl) (by kernel_rfl)
theorem reads (os : Os) {H : Type} (enc : TypeId × Value → H) : ∃ places, DataW.whole enc Tryz.prog ((laidWorld os).forCall (fun _ _ => 0) ⟨#[], #[.string ByteArray.empty], []⟩).memory Tryz.f4.params.toList Rows.escapeSafeSpec.vars false (#[.string ByteArray.empty] : Array Value).toList 8 = some ([.lit (.string [])], [], places) :=
  ⟨[], by kernel_rfl⟩
set_option maxRecDepth 100000 in
theorem lifted (os : Os) (started : os.Started) (H : Type) (enc : TypeId × Value → H) (F : Stop.Interp) :
    ReturnsInHanded {} Tryz.checked os 4 .any ((OpenSpec.ofChange Rows.escapeSafeSpec).preRow enc Tryz.prog Tryz.f4 Rows.escapeSafeRow.domain false Rows.escapeSafeRow.laid) (((OpenSpec.ofChange Rows.escapeSafeSpec).at F).post enc Tryz.prog Tryz.f4 false true false false) := by
  obtain ⟨places, hx⟩ := reads os enc
  refine returnsInHanded_of_row (C := Tryz.checked) (s := OpenSpec.ofChange Rows.escapeSafeSpec) own started (by kernel_rfl) Tryz.func4
    (witness_row_atRef (enc := enc) (C := Tryz.checked) false (laidWorld os) #[.string ByteArray.empty] (laidWorld_os os) (by kernel_rfl) (by kernel_rfl) (by kernel_rfl)
      (OpenSpec.preRow_of_cond 8 hx (by kernel_rfl) (fun k hk => by cases hk) (by kernel_rfl) (laid_met os))) ?_
  intro W base args ds gs before hval hW _ _ hsz hL hSh _
  exact contract H enc W base args ds gs before hval hW hsz hSh
theorem said : Rows.EscapeSafeSaid :=
  OpenClaim.holds_of_cond 4 Tryz.f4 rfl rfl rfl rfl rfl rfl rfl ⟨rfl, rfl, rfl, rfl, rfl⟩ rfl rfl rfl rfl rfl (by kernel_rfl) Tryz.func4 (by kernel_rfl)
    (of_decide_eq_true (by kernel_rfl)) (by unfold Func.isWrapper; first | (rw [if_pos (by decide +kernel)]; kernel_rfl) | (rw [if_neg (by decide +kernel)]; exact ⟨rfl, rfl⟩))
    (fun os started H enc _ F => by rw [OpenClaim.pre_eq_preRow]; exact lifted os started H enc F)
theorem plain (f : FuncId) (fn : Func) (hf : Tryz.pinned.checked.prog.funcNamed "incipit/incipitlaw05.EscapeSafe" = some f) (hfn : Tryz.pinned.checked.prog.funcs[f]? = some fn) :
    true = Tryz.pinned.checked.prog.looks [] ∧ ∀ (j : Nat) t, fn.params[j]? = some t → Tryz.pinned.checked.prog.wantsStandIn t = false := by
  obtain rfl : f = 4 := Option.some.inj ((show Tryz.prog.funcNamed "incipit/incipitlaw05.EscapeSafe" = some 4 by kernel_rfl).symm.trans hf) |>.symm
  obtain rfl : fn = Tryz.f4 := (Option.some.inj (Tryz.func4.symm.trans hfn)).symm
  refine ⟨by kernel_rfl, fun j t ht => ?_⟩
  rw [Tryz.params4] at ht
  have hall : ∀ t ∈ (#[9] : Array Nat), Tryz.prog.wantsStandIn t = false := by
    intro t ht
    simp at ht
    subst ht
    exact (show Tryz.prog.wantsStandIn 9 = false by kernel_rfl)
  exact hall t (Array.mem_of_getElem? ht)
theorem card : Rows.EscapeSafeCardSaid :=
  Claim7.holds_tied_plain_at .later [] _ _ _ _ said (fun _ h => by cases h) (by kernel_rfl) (fun _ h => by cases h) escapeSafe_row_tie rfl ⟨rfl, rfl⟩ (by kernel_rfl) rfl plain (by kernel_rfl)
end Go.Proofs.YtinpchebcnkckaaGreatDoor.escapeSafe
namespace Go.Proofs.YtinpchebcnkckaaGreatDoor
/-- The statement, under a short name, for the claim. -/
theorem escapeSafe_holds : Rows.EscapeSafeCardSaid := escapeSafe.card
end Go.Proofs.YtinpchebcnkckaaGreatDoor
