/-
  The law LinkPlain holds: for every input it answers true, its arguments read behind the call as before. Conditions: the listed package-level variables as the program's text lays them (tied by the card).
-/
import Derived.Test.YtjobchgncdgfaaaGreatDoorSLinkPlain2
import Derived.Test.YtjobchgncdgfaaaGreatDoorSLinkPlain3
import Derived.Test.YtjobchgncdgfaaaGreatDoorSLinkPlain1
namespace Go.Proofs.YtjobchgncdgfaaaGreatDoor.Pure
open Go.RowKit Go.Proofs.YtjobchgncdgfaaaGreatDoorW.PrintWords Go.Proofs.YtjobchgncdgfaaaGreatDoorW.PrintMore Go.Proofs.YtjobchgncdgfaaaGreatDoor.Pl Go.Proofs.YtjobchgncdgfaaaGreatDoor.PA

theorem wht_ne (x : UInt8) (t : List UInt8) (h : wsp x = false) : wht (x :: t) = 0 := by rw [wht_cons, if_neg (by rw [h]; decide)]
theorem wht_ws (x : UInt8) (t : List UInt8) (h : wsp x = true) : wht (x :: t) = wht t + 1 := by rw [wht_cons, if_pos h]
theorem wht_ok (s t : List UInt8) (hs : s ≠ []) (h : ∀ x ∈ s, okA x) : wht (s ++ t) = 0 := by
  cases s with
  | nil => exact absurd rfl hs
  | cons x r => exact wht_ne x _ (wsp_okA (h x (by simp)))
/-- "(", an address, a blank, a title in quotes, ")". -/
theorem tlr_one (q : UInt8) (d t : List UInt8) (hq : q = 34 ∨ q = 39 ∨ q = 40) (hd : ∀ x ∈ d, okA x) (ht : ∀ x ∈ t, okA x) (hne : d ≠ []) :
    tlr (40 :: (d ++ 32 :: (q :: (t ++ (if q = 40 then 41 else q) :: [41])))) = (d, t, d.length + t.length + 5) := by
  obtain ⟨S, hS⟩ : ∃ S, 40 :: (d ++ 32 :: (q :: (t ++ (if q = 40 then 41 else q) :: [41]))) = S := ⟨_, rfl⟩
  have s1 : S.drop 1 = d ++ 32 :: (q :: (t ++ (if q = 40 then 41 else q) :: [41])) := by rw [← hS]; rfl
  have e1 : a1 S = 1 := by unfold a1; rw [s1, wht_ok d _ hne hd]
  have e2 : tD S = (d, d.length, true) := by unfold tD; rw [e1, s1]; exact dst_okA d 32 _ hd hne (by decide)
  have e3 : a2 S = 1 + d.length := by unfold a2; rw [e1, e2]
  have s2 : S.drop (1 + d.length) = 32 :: (q :: (t ++ (if q = 40 then 41 else q) :: [41])) := by rw [← List.drop_drop, s1]; exact List.drop_left' rfl
  have hwq : wsp q = false := by rcases hq with rfl | rfl | rfl <;> decide
  have e4 : tG S = 1 := by unfold tG; rw [e3, s2, wht_ws 32 _ (by decide), wht_ne q _ hwq]
  have s3 : S.drop (1 + d.length + 1) = q :: (t ++ (if q = 40 then 41 else q) :: [41]) := by rw [← List.drop_drop, s2]; rfl
  have e5 : tT S = (t, t.length + 2) := by unfold tT; rw [e3, e4, s3]; exact ttl_okA q t [41] hq ht
  have hl : 0 < d.length := List.length_pos_iff.2 hne
  have e6 : tOk S = true := by unfold tOk; rw [e2, e4, e5]; simp; exact hl
  have e7 : a3 S = 1 + d.length + 1 + (t.length + 2) := by unfold a3; rw [if_pos e6, e3, e4, e5]
  have s4 : S.drop (1 + d.length + 1 + (t.length + 2)) = [41] := by
    rw [← List.drop_drop, s3, show t.length + 2 = (t.length + 1) + 1 by omega, List.drop_succ_cons]
    have : t ++ (if q = 40 then (41 : UInt8) else q) :: [41] = (t ++ [if q = 40 then (41 : UInt8) else q]) ++ [41] := by simp
    rw [this]
    exact List.drop_left' (by simp)
  have e8 : a4 S = 1 + d.length + 1 + (t.length + 2) := by unfold a4; rw [e7, s4, wht_ne 41 _ (by decide), Nat.add_zero]
  rw [hS]
  unfold tlr
  rw [if_pos (by rw [← hS]; rfl), e8, s4, if_pos (by rfl), e2, if_pos e6, e5]
  simp only [Prod.mk.injEq, true_and]
  omega
/-- "( <", an address, "> )". -/
theorem tlr_two (d : List UInt8) (hd : ∀ x ∈ d, okA x) : tlr (40 :: 32 :: 60 :: (d ++ 62 :: 32 :: [41])) = (d, [], d.length + 6) := by
  obtain ⟨S, hS⟩ : ∃ S, 40 :: 32 :: 60 :: (d ++ 62 :: 32 :: [41]) = S := ⟨_, rfl⟩
  have s1 : S.drop 1 = 32 :: 60 :: (d ++ 62 :: 32 :: [41]) := by rw [← hS]; rfl
  have e1 : a1 S = 2 := by unfold a1; rw [s1, wht_ws 32 _ (by decide), wht_ne 60 _ (by decide)]
  have s2 : S.drop 2 = 60 :: (d ++ 62 :: 32 :: [41]) := by rw [← hS]; rfl
  have e2 : tD S = (d, d.length + 2, true) := by unfold tD; rw [e1, s2]; exact ang_okA d _ hd
  have e3 : a2 S = 2 + (d.length + 2) := by unfold a2; rw [e1, e2]
  have s3 : S.drop (2 + (d.length + 2)) = 32 :: [41] := by
    rw [← List.drop_drop, s2, show d.length + 2 = (d.length + 1) + 1 by omega, List.drop_succ_cons]
    have : d ++ 62 :: 32 :: [41] = (d ++ [62]) ++ (32 :: [41]) := by simp
    rw [this]
    exact List.drop_left' (by simp)
  have e4 : tG S = 1 := by unfold tG; rw [e3, s3]; decide
  have s4 : S.drop (2 + (d.length + 2) + 1) = [41] := by rw [← List.drop_drop, s3]; rfl
  have e5 : tT S = ([], 0) := by unfold tT; rw [e3, e4, s4]; rfl
  have e6 : tOk S = false := by unfold tOk; rw [e5]; simp
  have e7 : a3 S = 2 + (d.length + 2) := by unfold a3; rw [if_neg (by rw [e6]; decide), e3]
  have e8 : a4 S = 2 + (d.length + 2) + 1 := by unfold a4; rw [e7, s3]; rfl
  rw [hS]
  unfold tlr
  rw [if_pos (by rw [← hS]; rfl), e8, s4, if_pos (by rfl), e2, if_neg (by rw [e6]; decide)]
  simp only [Prod.mk.injEq, true_and]
  omega
def qs : List (List UInt8) := [[34, 34], [39, 39], [40, 41]]
theorem plainL_end (d t : List UInt8) (a : Int) (hdl : d.length ≤ 500) (htl : t.length ≤ 500) (hne : d ≠ []) (h : ∀ x ∈ d ++ t, okA x) (hq : ∃ j : Nat, j < 3 ∧ Int.tmod (Go.bits .and .i64 a 65535) 3 = (j : Int)) :
    Ev (fun k => incipitlaw09_LinkPlain.l0 k (B d) (B t) a true (((d ++ t).length : Nat) : Int)) true := by
  have hd : ∀ x ∈ d, okA x := fun x hx => h x (List.mem_append_left _ hx)
  have ht : ∀ x ∈ t, okA x := fun x hx => h x (List.mem_append_right _ hx)
  obtain ⟨j, hj, hqj⟩ := hq
  obtain ⟨q, c, hqc, hq3, hcq⟩ : ∃ q c : UInt8, rdOf ByteArray.empty ([(⟨#[34, 34]⟩ : ByteArray), (⟨#[39, 39]⟩ : ByteArray), (⟨#[40, 41]⟩ : ByteArray)] : List ByteArray) (j : Int) = B [q, c] ∧ (q = 34 ∨ q = 39 ∨ q = 40) ∧ c = if q = 40 then 41 else q := by
    match j, hj with
    | 0, _ => exact ⟨34, 34, rfl, .inl rfl, rfl⟩
    | 1, _ => exact ⟨39, 39, rfl, .inr (.inl rfl), rfl⟩
    | 2, _ => exact ⟨40, 41, rfl, .inr (.inr rfl), rfl⟩
  have q1 : (B [q, c]).extract 0 1 = B [q] := B_to _ _
  have q2 : (B [q, c]).extract 1 (B [q, c]).size = B [c] := B_from _ _ _ (B_size _)
  have x1 : (((((((⟨#[40]⟩ : ByteArray) ++ B d) ++ (⟨#[32]⟩ : ByteArray)) ++ B [q]) ++ B t) ++ B [c]) ++ (⟨#[41]⟩ : ByteArray)) = B (40 :: (d ++ 32 :: (q :: (t ++ (if q = 40 then 41 else q) :: [41])))) := by
    rw [← hcq, show (⟨#[40]⟩ : ByteArray) = B [40] from rfl, show (⟨#[32]⟩ : ByteArray) = B [32] from rfl, show (⟨#[41]⟩ : ByteArray) = B [41] from rfl, B_append, B_append, B_append, B_append, B_append, B_append]
    simp
  have x2 : (((⟨#[40, 32, 60]⟩ : ByteArray) ++ B d) ++ (⟨#[62, 32, 41]⟩ : ByteArray)) = B (40 :: 32 :: 60 :: (d ++ 62 :: 32 :: [41])) := by
    rw [show (⟨#[40, 32, 60]⟩ : ByteArray) = B [40, 32, 60] from rfl, show (⟨#[62, 32, 41]⟩ : ByteArray) = B [62, 32, 41] from rfl, B_append, B_append]
    simp
  have t1 := tail_ev (40 :: (d ++ 32 :: (q :: (t ++ (if q = 40 then 41 else q) :: [41])))) (by simp; omega)
  have t2 := tail_ev (40 :: 32 :: 60 :: (d ++ 62 :: 32 :: [41])) (by simp; omega)
  rw [tlr_one q d t hq3 hd ht hne] at t1
  rw [tlr_two d hd] at t2
  have sz : ∀ l : List UInt8, (B l).size = l.length := B_size
  have wA : wrap64 (wrap64 ((d.length : Int) + (t.length : Int)) + 5) = ((d.length + t.length + 5 : Nat) : Int) := by rw [w64 (x := (d.length : Int) + (t.length : Int)) (by omega) (by omega), w64 (by omega) (by omega)]; omega
  have wB : wrap64 ((d.length : Int) + 6) = ((d.length + 6 : Nat) : Int) := by rw [w64 (by omega) (by omega)]; omega
  have n40 : (⟨#[40]⟩ : ByteArray) = B [40] := rfl
  have n32 : (⟨#[32]⟩ : ByteArray) = B [32] := rfl
  have n3 : (⟨#[40, 32, 60]⟩ : ByteArray) = B [40, 32, 60] := rfl
  refine Ev.step (f := fun k => (link_Tail.f k (B (40 :: (d ++ 32 :: (q :: (t ++ (if q = 40 then 41 else q) :: [41])))))).bind _) (fun k => by
    simp only [incipitlaw09_LinkPlain.l0]
    rw [if_pos (by rw [sz, sz]; omega), if_neg (by rw [B_append, sz]; omega), Option.bind_some, hqj, if_pos (by omega), if_pos (by show (j : Int) < 3; omega), hqc, if_pos (by rw [sz]; omega),
      if_pos (by rw [n40, B_append, sz]; simp; omega), if_pos (by decide), if_pos (by rw [sz]; simp), q1, q2, if_pos (by rw [n40, n32, B_append, B_append, sz, sz]; simp; omega),
      if_pos (by rw [n40, n32, B_append, B_append, B_append, sz, sz]; simp; omega), if_pos (by rw [n40, n32, B_append, B_append, B_append, B_append, sz, sz]; simp; omega),
      if_pos (by rw [n40, n32, B_append, B_append, B_append, B_append, B_append, sz]; simp; omega), x1]) (Ev.bind t1 ?_)
  refine Ev.congr (f := fun k => (link_Tail.f k (B (40 :: 32 :: 60 :: (d ++ 62 :: 32 :: [41])))).bind _) (fun k => by rw [if_pos (by rw [sz]; omega), if_pos (by rw [n3, B_append, sz]; simp; omega), x2]) (Ev.bind t2 ?_)
  refine Ev.congr (f := fun _ => some true) (fun k => ?_) (Ev.now _)
  rw [if_pos (by first | trivial | rfl), if_pos (by rfl), if_pos (by rfl), sz, sz, wA, if_pos (by first | trivial | rfl), if_pos (by rfl), if_pos (by exact B_toList []), wB]
  simp
theorem plainL_l (d t : List UInt8) (a : Int) (hdl : d.length ≤ 500) (htl : t.length ≤ 500) (hne : d ≠ []) (hq : ∃ j : Nat, j < 3 ∧ Int.tmod (Go.bits .and .i64 a 65535) 3 = (j : Int)) : ∀ (e i : Nat), i + e = (d ++ t).length → (∀ x ∈ (d ++ t).take i, okA x) →
    Ev (fun k => incipitlaw09_LinkPlain.l0 k (B d) (B t) a true (i : Int)) true := by
  intro e
  induction e with
  | zero =>
    intro i hi h
    obtain rfl : i = (d ++ t).length := by omega
    rw [List.take_length] at h
    exact plainL_end d t a hdl htl hne h hq
  | succ e ih =>
    intro i hi h
    have hil : i < (d ++ t).length := by omega
    have hb : bt (B d ++ B t) (i : Int) = (((d ++ t)[i]).toNat : Int) := by rw [B_append]; exact B_bt _ i hil
    have ht : (d ++ t).take (i + 1) = (d ++ t).take i ++ [(d ++ t)[i]] := (List.take_append_getElem hil).symm
    have hl : (d ++ t).length ≤ 1000 := by rw [List.length_append]; omega
    obtain ⟨x, hx⟩ : ∃ x, (d ++ t)[i] = x := ⟨_, rfl⟩
    rw [hx] at hb ht
    have hw : wrap64 ((i : Int) + 1) = ((i + 1 : Nat) : Int) := w64 (by omega) (by omega)
    have hstep : ∀ k, incipitlaw09_LinkPlain.l0 (k + 1) (B d) (B t) a true (i : Int) = if 97 ≤ x.toNat ∧ x.toNat ≤ 122 ∨ 48 ≤ x.toNat ∧ x.toNat ≤ 57 then incipitlaw09_LinkPlain.l0 k (B d) (B t) a true ((i + 1 : Nat) : Int) else some true := by
      intro k
      simp only [incipitlaw09_LinkPlain.l0]
      rw [if_pos (by rw [B_size, B_size]; rw [List.length_append] at hl; omega), if_pos (by rw [B_append, B_size]; omega), if_pos (by omega), hb, hw]
      by_cases h1 : 97 ≤ x.toNat
      · rw [if_pos (by omega)]
        by_cases h2 : x.toNat ≤ 122
        · rw [if_pos (by omega), if_pos (.inl ⟨h1, h2⟩)]
        · rw [if_neg (by omega), if_pos (by omega), if_neg (by omega), if_neg (by omega)]
      · rw [if_neg (by omega)]
        by_cases h2 : 48 ≤ x.toNat
        · rw [if_pos (by omega)]
          by_cases h3 : x.toNat ≤ 57
          · rw [if_pos (by omega), if_pos (.inr ⟨h2, h3⟩)]
          · rw [if_neg (by omega), if_neg (by omega)]
        · rw [if_neg (by omega), if_neg (by omega)]
    by_cases hx2 : okA x
    · refine Ev.step (fun k => (hstep k).trans (if_pos hx2)) (ih (i + 1) (by omega) ?_)
      intro y hy
      rw [ht] at hy
      rcases List.mem_append.1 hy with hy | hy
      · exact h y hy
      · rw [List.mem_singleton] at hy
        rw [hy]
        exact hx2
    · exact Ev.step (f := fun _ => some true) (fun k => (hstep k).trans (if_neg hx2)) (Ev.now _)
theorem low_bits (a : Int) : ∃ j : Nat, j < 3 ∧ Int.tmod (Go.bits .and .i64 a 65535) 3 = (j : Int) := by
  have h : 0 ≤ Go.bits .and .i64 a 65535 := by
    have hb : (BitVec.ofInt IntKind.i64.bits a &&& BitVec.ofInt IntKind.i64.bits 65535).toNat ≤ 65535 := by
      rw [BitVec.toNat_and]
      exact Nat.le_trans Nat.and_le_right (by decide)
    show 0 ≤ IntKind.i64.wrap ((BitVec.ofInt IntKind.i64.bits a &&& BitVec.ofInt IntKind.i64.bits 65535).toNat : Int)
    generalize (BitVec.ofInt IntKind.i64.bits a &&& BitVec.ofInt IntKind.i64.bits 65535).toNat = n at hb ⊢
    rw [IntKind.wrap_i64]
    omega
  refine ⟨(Int.tmod (Go.bits .and .i64 a 65535) 3).toNat, ?_, ?_⟩
  · have := Int.tmod_lt_of_pos (Go.bits .and .i64 a 65535) (show (0 : Int) < 3 by decide)
    omega
  · have := Int.tmod_nonneg 3 h
    omega
theorem LinkPlain : ∀ (a0 : ByteArray) (a1 : ByteArray) (a2 : Int), a0.size ≤ 140737488351232 → a1.size ≤ 140737488351232 → (Lit.int .i64 a2).wf = true → ∃ k, PA.incipitlaw09_LinkPlain.f k a0 a1 a2 = some true := by
  intro a0 a1 a2 _ _ _
  obtain ⟨d, rfl⟩ : ∃ s, a0 = B s := ⟨_, (B_eta a0).symm⟩
  obtain ⟨t, rfl⟩ : ∃ s, a1 = B s := ⟨_, (B_eta a1).symm⟩
  apply Ev.rounds
  unfold incipitlaw09_LinkPlain.f
  refine Ev.bind awake_ev ?_
  have hj0 : Ev (fun k => incipitlaw09_LinkPlain.j0 k (B d) (B t) a2 true true) true := by
    refine Ev.step (f := fun _ => some true) (fun k => ?_) (Ev.now _)
    simp only [incipitlaw09_LinkPlain.j0]
    exact if_pos trivial
  rw [B_toList]
  by_cases h0 : d = []
  · exact Ev.congr (fun k => if_pos h0) hj0
  · refine Ev.congr (fun k => if_neg h0) ?_
    by_cases h : ((B d).size : Int) > 500
    · exact Ev.congr (fun k => if_pos h) hj0
    · refine Ev.congr (fun k => if_neg h) ?_
      by_cases h2 : ((B t).size : Int) > 500
      · rw [decide_eq_true h2]
        exact hj0
      · rw [decide_eq_false h2]
        rw [B_size] at h h2
        refine Ev.step (fun k => ?_) (plainL_l d t a2 (by omega) (by omega) h0 (low_bits a2) (d ++ t).length 0 (Nat.zero_add _) (by simp))
        simp only [incipitlaw09_LinkPlain.j0]
        rw [if_neg (by decide)]
        rfl
end Go.Proofs.YtjobchgncdgfaaaGreatDoor.Pure

namespace Go.Proofs.YtjobchgncdgfaaaGreatDoor.linkPlain
open Go.ChangeShapes Go.WideShapes Go.ChangeAt Go.RowKit Go.Proofs.YtjobchgncdgfaaaGreatDoorW.PrintWords Go.Proofs.YtjobchgncdgfaaaGreatDoor.RowU8
open Go.ChangeMaps (open_string shut_string)
set_option linter.unusedVariables false
set_option maxRecDepth 100000 in
theorem contract (H : Type) (enc : TypeId × Value → H) (W : World) (base : Nat) (args : Array Value) (ds gs : List (DataW H)) (before : List MemPlace)
    (hval0 : ∀ (j : Nat) t v, Tryz.f5.params[j]? = some t → args[j]? = some v → Value.okWide Tryz.prog W .any base t v)
    (hW : DataW.Whole enc Tryz.prog Tryz.f5.params.toList Rows.linkPlainSpec.vars false W args.toList ds gs before) (hsz0 : (DataW.weightsEach Tryz.prog (Tryz.f5.params.toList ++ (OpenSpec.ofChange Rows.linkPlainSpec).bare.plain.varTypes Tryz.prog) (ds ++ gs)).all (· ≤ reachBytes) = true) (hSh : W.ShapedOpen Tryz.prog) :
    Calls Tryz.prog 5 args W fun e W' => ∃ v, e = .returned v ∧ Rows.linkPlainSpec.post enc Tryz.prog Tryz.f5 false true false false W args v W' := by
  have hsz : (DataW.weightsEach Tryz.prog (Tryz.f5.params.toList ++ Rows.linkPlainSpec.plain.varTypes Tryz.prog) (ds ++ gs)).all (· ≤ reachBytes) = true := hsz0
  have hval : ∀ (j : Nat) t v, Tryz.f5.params[j]? = some t → args[j]? = some v → Value.okWide Tryz.prog W .any base t v := hval0
  have hW' := hW
  obtain ⟨p, q, hA0, hV, rfl, hfz, hnd⟩ := hW
  have hA : DataW.TrodAll enc Tryz.prog W 0 (fun _ => true) true Tryz.f5.params.toList args.toList ds p := hA0
  rw [Tryz.params5] at hA hval hsz
  obtain ⟨v0, vs0, d0, ds0, p0, q0, hargs, rfl, rfl, h0, r0⟩ := trodAll_cons hA
  obtain ⟨v1, vs1, d1, ds1, p1, q1, rfl, rfl, rfl, h1, r1⟩ := trodAll_cons r0
  obtain ⟨v2, vs2, d2, ds2, p2, q2, rfl, rfl, rfl, h2, r2⟩ := trodAll_cons r1
  obtain ⟨rfl, rfl, rfl⟩ := trodAll_nil r2
  obtain rfl : args = #[v0, v1, v2] := by cases args; simp_all
  obtain ⟨rfl, rfl⟩ := trodVars_none hV
  obtain ⟨a0, rfl, rfl, rfl, y0⟩ := open_string Tryz.underlying9 (hval 0 9 v0 rfl rfl) h0
  have w0 : a0.size ≤ 140737488351232 := by
    have z := sized_string hsz (j := 0) (t := 9) rfl rfl
    rw [Array.length_toList] at z
    exact z
  obtain ⟨a1, rfl, rfl, rfl, y1⟩ := open_string Tryz.underlying9 (hval 1 9 v1 rfl rfl) h1
  have w1 : a1.size ≤ 140737488351232 := by
    have z := sized_string hsz (j := 1) (t := 9) rfl rfl
    rw [Array.length_toList] at z
    exact z
  obtain ⟨a2, rfl, rfl, rfl, w2⟩ := open_int Tryz.underlying3 (hval 2 3 v2 rfl rfl) h2
  clear hA0 hval0 hsz0 hsz
  obtain ⟨k, hp⟩ := Pure.LinkPlain a0 a1 a2 w0 w1 w2
  refine (PA.incipitlaw09_LinkPlain.calls k a0 a1 a2 true W (laidOf hSh) hp).mono ?_
  rintro e W' ⟨rfl, bel⟩
  exact ⟨_, rfl, _, _, _, [], _, [], hW', trodAll_mk1 (shut_bool Tryz.underlying4 _), (trodAll_cons_mk (shut_string Tryz.underlying9 y0) (trodAll_cons_mk (shut_string Tryz.underlying9 y1) (trodAll_cons_mk (shut_int Tryz.underlying3 w2) trodAll_mk0))), rfl, bel.frame _, fun h => by cases h⟩
theorem laid_met (os : Os) : laidMet Tryz.prog Rows.linkPlainRow.laid ((laidWorld os).forCall (fun _ _ => 0) ⟨#[], #[.string ByteArray.empty, .string ByteArray.empty, .int .i64 0], []⟩).memory :=
  laidMet_of_run' 8 (by kernel_rfl) (by kernel_rfl)
theorem reads (os : Os) {H : Type} (enc : TypeId × Value → H) : ∃ places, DataW.whole enc Tryz.prog ((laidWorld os).forCall (fun _ _ => 0) ⟨#[], #[.string ByteArray.empty, .string ByteArray.empty, .int .i64 0], []⟩).memory Tryz.f5.params.toList Rows.linkPlainSpec.vars false (#[.string ByteArray.empty, .string ByteArray.empty, .int .i64 0] : Array Value).toList 8 = some ([.lit (.string []), .lit (.string []), .lit (.int .i64 0)], [], places) :=
  ⟨[], by kernel_rfl⟩
set_option maxRecDepth 100000 in
theorem lifted (os : Os) (started : os.Started) (H : Type) (enc : TypeId × Value → H) (F : Stop.Interp) :
    ReturnsInHanded {} Tryz.checked os 5 .any ((OpenSpec.ofChange Rows.linkPlainSpec).preRow enc Tryz.prog Tryz.f5 Rows.linkPlainRow.domain false Rows.linkPlainRow.laid) (((OpenSpec.ofChange Rows.linkPlainSpec).at F).post enc Tryz.prog Tryz.f5 false true false false) := by
  obtain ⟨places, hx⟩ := reads os enc
  refine returnsInHanded_of_row (C := Tryz.checked) (s := OpenSpec.ofChange Rows.linkPlainSpec) own started (by kernel_rfl) Tryz.func5
    (witness_row_atRef (enc := enc) (C := Tryz.checked) false (laidWorld os) #[.string ByteArray.empty, .string ByteArray.empty, .int .i64 0] (laidWorld_os os) (by kernel_rfl) (by kernel_rfl) (by kernel_rfl)
      (OpenSpec.preRow_of_cond 8 hx (by kernel_rfl) (fun k hk => by cases hk) (by kernel_rfl) (laid_met os))) ?_
  intro W base args ds gs before hval hW _ _ hsz hL hSh _
  exact contract H enc W base args ds gs before hval hW hsz hSh
theorem said : Rows.LinkPlainSaid :=
  OpenClaim.holds_of_cond 5 Tryz.f5 rfl rfl rfl rfl rfl rfl rfl ⟨rfl, rfl, rfl, rfl, rfl⟩ rfl rfl rfl rfl rfl (by kernel_rfl) Tryz.func5 (by kernel_rfl)
    (of_decide_eq_true (by kernel_rfl)) (by unfold Func.isWrapper; first | (rw [if_pos (by decide +kernel)]; kernel_rfl) | (rw [if_neg (by decide +kernel)]; exact ⟨rfl, rfl⟩))
    (fun os started H enc _ F => by rw [OpenClaim.pre_eq_preRow]; exact lifted os started H enc F)
theorem plain (f : FuncId) (fn : Func) (hf : Tryz.pinned.checked.prog.funcNamed "incipit/incipitlaw09.LinkPlain" = some f) (hfn : Tryz.pinned.checked.prog.funcs[f]? = some fn) :
    true = Tryz.pinned.checked.prog.looks [] ∧ ∀ (j : Nat) t, fn.params[j]? = some t → Tryz.pinned.checked.prog.wantsStandIn t = false := by
  obtain rfl : f = 5 := Option.some.inj ((show Tryz.prog.funcNamed "incipit/incipitlaw09.LinkPlain" = some 5 by kernel_rfl).symm.trans hf) |>.symm
  obtain rfl : fn = Tryz.f5 := (Option.some.inj (Tryz.func5.symm.trans hfn)).symm
  refine ⟨by kernel_rfl, fun j t ht => ?_⟩
  rw [Tryz.params5] at ht
  have hall : ∀ t ∈ (#[9, 9, 3] : Array Nat), Tryz.prog.wantsStandIn t = false := by
    intro t ht
    simp at ht
    rcases ht with rfl | rfl
    · exact (show Tryz.prog.wantsStandIn 9 = false by kernel_rfl)
    · exact (show Tryz.prog.wantsStandIn 3 = false by kernel_rfl)
  exact hall t (Array.mem_of_getElem? ht)
theorem card : Rows.LinkPlainCardSaid :=
  Claim7.holds_tied_plain_at .later [] _ _ _ _ said (fun _ h => by cases h) (by kernel_rfl) (fun _ h => by cases h) linkPlain_row_tie rfl ⟨rfl, rfl⟩ (by kernel_rfl) rfl plain (by kernel_rfl)
end Go.Proofs.YtjobchgncdgfaaaGreatDoor.linkPlain
namespace Go.Proofs.YtjobchgncdgfaaaGreatDoor
/-- The statement, under a short name, for the claim. -/
theorem linkPlain_holds : Rows.LinkPlainCardSaid := linkPlain.card
end Go.Proofs.YtjobchgncdgfaaaGreatDoor
