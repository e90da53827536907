/-
  The plain law of EntityNumbers: what its printed function computes is true at every input of the row's form.
-/
import Derived.Test.YtmkoooldekbpaaaDoorPEnt4
import Derived.Test.YtmkoooldekbpaaaDoorPAx3
namespace Go.Proofs.YtmkoooldekbpaaaDoor.Pure
open Go.RowKit Go.Proofs.YtmkoooldekbpaaaDoorW.PrintWords Go.Proofs.YtmkoooldekbpaaaDoorW.PrintMore Go.Proofs.YtmkoooldekbpaaaDoor.Pl Go.Proofs.YtmkoooldekbpaaaDoor.PA

theorem num_fold (b : Nat) : ∀ (t : List UInt8) (n : Nat), t.foldl (fun n x => n * b + dv x) n = n * b ^ t.length + num b t
  | [], n => by simp [num]
  | x :: t, n => by
    rw [List.foldl_cons, num_fold b t, show num b (x :: t) = t.foldl (fun n x => n * b + dv x) (0 * b + dv x) from rfl, num_fold b t, Nat.zero_mul, Nat.zero_add, List.length_cons, Nat.pow_succ, Nat.add_mul, Nat.mul_assoc, Nat.mul_comm b, Nat.add_assoc]
theorem num_cons (b : Nat) (x : UInt8) (t : List UInt8) : num b (x :: t) = dv x * b ^ t.length + num b t := by
  rw [num, List.foldl_cons, num_fold, Nat.zero_mul, Nat.zero_add]
/-- One digit more. -/
theorem num_step (b v : Nat) (_hb : 0 < b) (x : UInt8) (t : List UInt8) (X : Nat) (hx : dv x = v % b) (h : X = v * b ^ t.length + num b t) : X = (v / b) * b ^ (x :: t).length + num b (x :: t) := by
  rw [num_cons, hx, List.length_cons, Nat.pow_succ, h, ← Nat.add_assoc, Nat.mul_comm (b ^ t.length) b, ← Nat.mul_assoc, ← Nat.add_mul, Nat.mul_comm (v / b) b, Nat.div_add_mod]
theorem len_le (b m v X n : Nat) (hv : 0 < v) (h : v * b ^ n ≤ X) (hX : X < b ^ m) (hb : 0 < b) : n < m := by
  rcases Nat.lt_or_ge n m with h' | h'
  · exact h'
  · have h1 : b ^ m ≤ b ^ n := Nat.pow_le_pow_right hb h'
    have h2 : b ^ n ≤ v * b ^ n := Nat.le_mul_of_pos_left _ hv
    omega
theorem dig10 : ∀ i : Nat, i < 10 → dv (UInt8.ofNat (48 + i)) = i ∧ dOk 10 (UInt8.ofNat (48 + i)) ∧ UInt8.ofNat (48 + i) ≠ 59 := by
  have h : ∀ i : Fin 10, dv (UInt8.ofNat (48 + i.val)) = i.val ∧ dOk 10 (UInt8.ofNat (48 + i.val)) ∧ UInt8.ofNat (48 + i.val) ≠ 59 := by decide +kernel
  exact fun i hi => h ⟨i, hi⟩
def lowc (i : Nat) : UInt8 := ([48, 49, 50, 51, 52, 53, 54, 55, 56, 57, 97, 98, 99, 100, 101, 102] : List UInt8).getD i 0
def uppc (i : Nat) : UInt8 := ([48, 49, 50, 51, 52, 53, 54, 55, 56, 57, 65, 66, 67, 68, 69, 70] : List UInt8).getD i 0
theorem dig16 : ∀ i : Nat, i < 16 → (dv (lowc i) = i ∧ dOk 16 (lowc i)) ∧ dv (uppc i) = i ∧ dOk 16 (uppc i) := by
  have h : ∀ i : Fin 16, (dv (lowc i.val) = i.val ∧ dOk 16 (lowc i.val)) ∧ dv (uppc i.val) = i.val ∧ dOk 16 (uppc i.val) := by decide +kernel
  exact fun i hi => h ⟨i, hi⟩
theorem lowx (i : Nat) (h : i < 16) : (⟨#[48, 49, 50, 51, 52, 53, 54, 55, 56, 57, 97, 98, 99, 100, 101, 102]⟩ : ByteArray).extract i (i + 1) = B [lowc i] := by
  have h0 : ∀ i : Fin 16, ((⟨#[48, 49, 50, 51, 52, 53, 54, 55, 56, 57, 97, 98, 99, 100, 101, 102]⟩ : ByteArray).extract i.val (i.val + 1)) = B [lowc i.val] := by decide +kernel
  exact h0 ⟨i, h⟩
theorem uppx (i : Nat) (h : i < 16) : (⟨#[48, 49, 50, 51, 52, 53, 54, 55, 56, 57, 65, 66, 67, 68, 69, 70]⟩ : ByteArray).extract i (i + 1) = B [uppc i] := by
  have h0 : ∀ i : Fin 16, ((⟨#[48, 49, 50, 51, 52, 53, 54, 55, 56, 57, 65, 66, 67, 68, 69, 70]⟩ : ByteArray).extract i.val (i.val + 1)) = B [uppc i.val] := by decide +kernel
  exact h0 ⟨i, h⟩
theorem ok59 (b : Nat) (hb : b = 10 ∨ b = 16) (x : UInt8) (h : dOk b x) : x ≠ 59 := by
  rintro rfl
  rcases hb with rfl | rfl
  · exact absurd h (by decide)
  · exact absurd h (by decide)
theorem chr_all (b most : Nat) (ok : UInt8 → Bool) (hok : ∀ x, ok x = true ↔ dOk b x) (t : List UInt8) (h0 : t ≠ []) (hl : t.length ≤ most) (hd : ∀ x ∈ t, dOk b x) : chr b most ok t = (Go.Utf8.encode (fixr (num b t)), true) := by
  unfold chr
  rw [if_neg]
  rintro (h | h | h)
  · exact h0 h
  · omega
  · rw [List.all_eq_true.2 (fun x hx => (hok x).2 (hd x hx))] at h
    cases h
theorem enc_fix (n : Nat) (hn : n ≤ 9999999) : Go.Utf8.encode (fixr n) = if n = 0 ∨ n > 1114111 then B [239, 191, 189] else Go.Utf8.encode (wrap32 (n : Int)) := by
  have hF : Go.Utf8.encode 65533 = B [239, 191, 189] := by decide +kernel
  unfold fixr Lib.validRune
  by_cases h0 : n = 0 ∨ n > 1114111
  · rw [if_pos h0, if_pos, hF]
    rcases h0 with h | h
    · exact .inl h
    · exact .inr (by rw [decide_eq_false_iff_not]; omega)
  · rw [if_neg h0]
    rw [not_or] at h0
    have hw : wrap32 (n : Int) = (n : Int) := by unfold wrap32; omega
    rw [hw]
    by_cases hs : 55296 ≤ n ∧ n ≤ 57343
    · rw [if_pos (.inr (by rw [decide_eq_false_iff_not]; omega)), hF]
      have hv : Go.Utf8.valid (n : Int) = false := by
        unfold Go.Utf8.valid
        simp only [Bool.or_eq_false_iff, Bool.and_eq_false_iff, decide_eq_false_iff_not]
        omega
      unfold Go.Utf8.encode
      rw [hv]
      simp only [Bool.false_eq_true, if_false]
      decide +kernel
    · rw [if_neg]
      rw [not_or, decide_eq_false_iff_not, Classical.not_not]
      omega
theorem read_dec (t m : List UInt8) (X : Nat) (h0 : t ≠ []) (hl : t.length ≤ 7) (hd : ∀ x ∈ t, dOk 10 x) (hX : num 10 t = X) (hm : m.length ≤ 300) :
    entity_Read.f ((((⟨#[38, 35]⟩ : ByteArray) ++ B t) ++ (⟨#[59]⟩ : ByteArray)) ++ B m) = some (Go.Utf8.encode (fixr X), (t.length : Int) + 3) := by
  have e : (((⟨#[38, 35]⟩ : ByteArray) ++ B t) ++ (⟨#[59]⟩ : ByteArray)) ++ B m = B (38 :: ((35 :: t) ++ 59 :: m)) := by
    rw [show (⟨#[38, 35]⟩ : ByteArray) = B [38, 35] from rfl, show (⟨#[59]⟩ : ByteArray) = B [59] from rfl, B_append, B_append, B_append]
    congr 1
    simp
  have hb : bdy (35 :: t) = (Go.Utf8.encode (fixr X), true) := by
    rw [← hX]
    cases t with
    | nil => exact absurd rfl h0
    | cons y t =>
      have hy : ¬ (y.toNat ||| 32) = 120 := by
        intro e
        have h := hd y (by simp)
        rcases (or_x y).1 e with rfl | rfl
        · exact absurd h (by decide)
        · exact absurd h (by decide)
      rw [bdy_two, if_neg hy]
      exact chr_all 10 7 dg dg_ok _ h0 hl hd
  rw [e, read_eq _ (by simp; omega), rdE_at (35 :: t) m (by rw [List.mem_cons]; rintro (e | e); exact absurd e (by decide); exact ok59 10 (.inl rfl) _ (hd _ e) rfl), hb, if_pos rfl, List.length_cons]
  congr 2 <;> omega
theorem read_hex (z : UInt8) (hz : (z.toNat ||| 32) = 120) (hz59 : z ≠ 59) (t m : List UInt8) (X : Nat) (h0 : t ≠ []) (hl : t.length ≤ 6) (hd : ∀ x ∈ t, dOk 16 x) (hX : num 16 t = X) (hm : m.length ≤ 300) :
    entity_Read.f ((((⟨#[38, 35, z]⟩ : ByteArray) ++ B t) ++ (⟨#[59]⟩ : ByteArray)) ++ B m) = some (Go.Utf8.encode (fixr X), (t.length : Int) + 4) := by
  have e : (((⟨#[38, 35, z]⟩ : ByteArray) ++ B t) ++ (⟨#[59]⟩ : ByteArray)) ++ B m = B (38 :: ((35 :: z :: t) ++ 59 :: m)) := by
    rw [show (⟨#[38, 35, z]⟩ : ByteArray) = B [38, 35, z] from rfl, show (⟨#[59]⟩ : ByteArray) = B [59] from rfl, B_append, B_append, B_append]
    congr 1
    simp
  have hb : bdy (35 :: z :: t) = (Go.Utf8.encode (fixr X), true) := by
    rw [← hX, bdy_two, if_pos hz]
    exact chr_all 16 6 hxd hxd_ok _ h0 hl hd
  rw [e, read_eq _ (by simp; omega), rdE_at (35 :: z :: t) m (by rw [List.mem_cons, List.mem_cons]; rintro (e | e | e); exact absurd e (by decide); exact hz59 e.symm; exact ok59 16 (.inr rfl) _ (hd _ e) rfl), hb, if_pos rfl, List.length_cons, List.length_cons]
  congr 2 <;> omega
/-- What the two loops have made. -/
structure Digs (b most X : Nat) (t : List UInt8) : Prop where
  ne : t ≠ []
  len : t.length ≤ most
  ok : ∀ x ∈ t, dOk b x
  num : num b t = X
theorem nums_j3 (X : Nat) (hX : X ≤ 9999999) (m t h g : List UInt8) (hm : m.length ≤ 300) (ht : Digs 10 7 X t) (hh : Digs 16 6 X h) (hg : Digs 16 6 X g) (hgl : g.length = h.length) (b : Bool) (hb : b = decide (X = 0 ∨ X > 1114111)) :
    Ev (fun k => incipitlaw04_EntityNumbers.j3 k (B m) true (B t) (B h) (B g) (Go.Utf8.encode (wrap32 (X : Int))) b) true := by
  have q1 := read_dec t m X ht.ne ht.len ht.ok ht.num hm
  have q2 := read_hex 120 (by decide) (by decide) h m X hh.ne hh.len hh.ok hh.num hm
  have q3 := read_hex 88 (by decide) (by decide) g m X hg.ne hg.len hg.ok hg.num hm
  have l1 := ht.len
  have l2 := hh.len
  have l3 := hg.len
  have hef := enc_fix X hX
  have z1 : 2 + (B t).size ≤ 9223372036854775807 := by rw [B_size]; omega
  have z2 : ((⟨#[38, 35]⟩ : ByteArray) ++ B t).size + 1 ≤ 9223372036854775807 := by rw [ByteArray.size_append, B_size]; show 2 + _ + 1 ≤ _; omega
  have z3 : (((⟨#[38, 35]⟩ : ByteArray) ++ B t) ++ (⟨#[59]⟩ : ByteArray)).size + (B m).size ≤ 9223372036854775807 := by rw [ByteArray.size_append, ByteArray.size_append, B_size, B_size]; show 2 + _ + 1 + _ ≤ _; omega
  have y1 : 3 + (B h).size ≤ 9223372036854775807 := by rw [B_size]; omega
  have y2 : ((⟨#[38, 35, 120]⟩ : ByteArray) ++ B h).size + 1 ≤ 9223372036854775807 := by rw [ByteArray.size_append, B_size]; show 3 + _ + 1 ≤ _; omega
  have y3 : (((⟨#[38, 35, 120]⟩ : ByteArray) ++ B h) ++ (⟨#[59]⟩ : ByteArray)).size + (B m).size ≤ 9223372036854775807 := by rw [ByteArray.size_append, ByteArray.size_append, B_size, B_size]; show 3 + _ + 1 + _ ≤ _; omega
  have x1 : 3 + (B g).size ≤ 9223372036854775807 := by rw [B_size]; omega
  have x2 : ((⟨#[38, 35, 88]⟩ : ByteArray) ++ B g).size + 1 ≤ 9223372036854775807 := by rw [ByteArray.size_append, B_size]; show 3 + _ + 1 ≤ _; omega
  have x3 : (((⟨#[38, 35, 88]⟩ : ByteArray) ++ B g) ++ (⟨#[59]⟩ : ByteArray)).size + (B m).size ≤ 9223372036854775807 := by rw [ByteArray.size_append, ByteArray.size_append, B_size, B_size]; show 3 + _ + 1 + _ ≤ _; omega
  have w1 : wrap64 (((B t).size : Int) + 3) = (t.length : Int) + 3 := by rw [B_size, w64 (by omega) (by omega)]
  have w2 : wrap64 (((B h).size : Int) + 4) = (h.length : Int) + 4 := by rw [B_size, w64 (by omega) (by omega)]
  rw [hgl] at q3
  have hE : (B [239, 191, 189]).toList = [239, 191, 189] := B_toList _
  refine Ev.step (f := fun _ => some true) (fun k => ?_) (Ev.now _)
  simp only [incipitlaw04_EntityNumbers.j3]
  by_cases hc : X = 0 ∨ X > 1114111
  · rw [if_pos hc] at hef
    rw [hef] at q1 q2 q3
    rw [hb, decide_eq_true hc, if_pos rfl, if_pos z1, if_pos z2, if_pos z3, q1, Option.bind_some, if_pos y1, if_pos y2, if_pos y3, q2, Option.bind_some, if_pos x1, if_pos x2, if_pos x3, q3, Option.bind_some, w1, w2, hE, if_pos trivial]
    dsimp only
    rw [if_pos rfl, if_pos rfl, if_pos rfl, if_pos rfl, if_pos rfl, beq_self_eq_true]
  · rw [if_neg hc] at hef
    rw [hef] at q1 q2 q3
    rw [hb, decide_eq_false hc, if_neg (by decide), if_pos z1, if_pos z2, if_pos z3, q1, Option.bind_some, if_pos y1, if_pos y2, if_pos y3, q2, Option.bind_some, if_pos x1, if_pos x2, if_pos x3, q3, Option.bind_some, w1, w2, if_pos trivial]
    dsimp only
    rw [if_pos rfl, if_pos rfl, if_pos rfl, if_pos rfl, if_pos rfl, beq_self_eq_true]
theorem cons_B (x : UInt8) (t : List UInt8) : B [x] ++ B t = B (x :: t) := B_append _ _
theorem w64n (z : Nat) (h : z ≤ 99999999) : wrap64 (z : Int) = (z : Int) := w64 (by omega) (by omega)
theorem hex_l (m t : List UInt8) (X : Nat) (hX : X ≤ 9999999)
    (K : ∀ h g, Digs 16 6 X h → Digs 16 6 X g → g.length = h.length → Ev (fun k => incipitlaw04_EntityNumbers.j3 k (B m) true (B t) (B h) (B g) (Go.Utf8.encode (wrap32 (X : Int))) (decide (X = 0 ∨ X > 1114111))) true) :
    ∀ (v : Nat) (h g : List UInt8), v ≤ X → h.length ≤ 6 → g.length = h.length → (∀ x ∈ h, dOk 16 x) → (∀ x ∈ g, dOk 16 x) → X = v * 16 ^ h.length + num 16 h → X = v * 16 ^ g.length + num 16 g →
      Ev (fun k => incipitlaw04_EntityNumbers.l1 k (B m) true (X : Int) (B t) (B h) (B g) (v : Int)) true := by
  intro v
  induction v using Nat.strongRecOn with
  | ind v ih =>
    intro h g hv hl hgl hoh hog hXh hXg
    have HXh := Lib.hid hXh
    have HXg := Lib.hid hXg
    clear hXh hXg
    have hmod : Int.tmod (v : Int) 16 = ((v % 16 : Nat) : Int) := (Int.ofNat_tmod v 16).symm
    have hdiv : Int.tdiv (v : Int) 16 = ((v / 16 : Nat) : Int) := (Int.ofNat_tdiv v 16).symm
    have hlt : v % 16 < 16 := Nat.mod_lt _ (by decide)
    have q1 : (0 : Int) ≤ ((v % 16 : Nat) : Int) := by omega
    have q2 : ((v % 16 : Nat) : Int) ≤ ((v % 16 + 1 : Nat) : Int) := by omega
    have q3 : ((v % 16 + 1 : Nat) : Int) ≤ 16 := by omega
    have hw1 : wrap64 (((v % 16 : Nat) : Int) + 1) = ((v % 16 + 1 : Nat) : Int) := w64n (v % 16 + 1) (by omega)
    have hw2 : wrap64 ((v / 16 : Nat) : Int) = ((v / 16 : Nat) : Int) := w64n _ (by omega)
    have z1 : (B [lowc (v % 16)]).size + (B h).size ≤ 9223372036854775807 := by rw [B_size, B_size]; simp only [List.length_cons, List.length_nil]; omega
    have z2 : (B [uppc (v % 16)]).size + (B g).size ≤ 9223372036854775807 := by rw [B_size, B_size]; simp only [List.length_cons, List.length_nil]; omega
    have Z1 := Lib.hid z1
    have Z2 := Lib.hid z2
    clear z1 z2
    obtain ⟨⟨d1, d2⟩, d3, d4⟩ := dig16 (v % 16) hlt
    have HXh2 := Lib.hid (num_step 16 v (by decide) (lowc (v % 16)) h X d1 HXh.out)
    have HXg2 := Lib.hid (num_step 16 v (by decide) (uppc (v % 16)) g X d3 HXg.out)
    clear d1 d3
    have ok1 : ∀ x ∈ lowc (v % 16) :: h, dOk 16 x := by
      intro x hx
      rcases List.mem_cons.1 hx with rfl | hx
      · exact d2
      · exact hoh x hx
    have ok2 : ∀ x ∈ uppc (v % 16) :: g, dOk 16 x := by
      intro x hx
      rcases List.mem_cons.1 hx with rfl | hx
      · exact d4
      · exact hog x hx
    have hfin : ∀ h g : List UInt8, h ≠ [] → h.length ≤ 6 → g.length = h.length → (∀ x ∈ h, dOk 16 x) → (∀ x ∈ g, dOk 16 x) → X = 0 * 16 ^ h.length + num 16 h → X = 0 * 16 ^ g.length + num 16 g →
        Ev (fun k => incipitlaw04_EntityNumbers.l1 k (B m) true (X : Int) (B t) (B h) (B g) 0) true := by
      intro h g h0 hl hgl hoh hog e1 e2
      have k1 := Lib.hid (show num 16 h = X by rw [Nat.zero_mul, Nat.zero_add] at e1; exact e1.symm)
      have k2 := Lib.hid (show num 16 g = X by rw [Nat.zero_mul, Nat.zero_add] at e2; exact e2.symm)
      clear e1 e2
      have g0 : g ≠ [] := by intro e; rw [e] at hgl; exact h0 (List.length_eq_zero_iff.1 hgl.symm)
      refine Ev.step (fun k => ?_) (K h g ⟨h0, hl, hoh, k1.out⟩ ⟨g0, by omega, hog, k2.out⟩ hgl)
      simp only [incipitlaw04_EntityNumbers.l1]
      rw [if_neg (by decide), if_neg (by rw [B_toList]; exact h0)]
      by_cases hX0 : X = 0
      · rw [if_pos (by omega), decide_eq_true (.inl hX0)]
      · rw [if_neg (by omega)]
        congr 1
        rw [decide_eq_decide]
        omega
    by_cases hv0 : 0 < v
    · have hlen := len_le 16 6 v X h.length hv0 (Nat.le.intro HXh.out.symm) (Nat.lt_of_le_of_lt hX (by decide)) (by decide)
      refine Ev.step (fun k => ?_) (ih (v / 16) (Nat.div_lt_self hv0 (by decide)) (lowc (v % 16) :: h) (uppc (v % 16) :: g) (Nat.le_trans (Nat.div_le_self _ _) hv) hlen (by simp [hgl]) ok1 ok2 HXh2.out HXg2.out)
      simp only [incipitlaw04_EntityNumbers.l1]
      rw [if_pos (show (v : Int) > 0 from Int.natCast_pos.2 hv0), hmod, hdiv, hw1, hw2, if_pos q1, if_pos q2, if_pos q3, Int.toNat_natCast, Int.toNat_natCast, lowx _ hlt, uppx _ hlt, if_pos Z1.out, if_pos Z2.out, cons_B, cons_B]
    · obtain rfl : v = 0 := Nat.le_zero.1 (Nat.not_lt.1 hv0)
      by_cases h0 : h = []
      · subst h0
        obtain rfl : g = [] := List.length_eq_zero_iff.1 hgl
        refine Ev.step (fun k => ?_) (hfin (lowc (0 % 16) :: []) (uppc (0 % 16) :: []) (by simp) (by simp) (by simp) ok1 ok2 HXh2.out HXg2.out)
        simp only [incipitlaw04_EntityNumbers.l1]
        rw [if_neg (by decide), if_pos (by rw [B_toList]), hmod, hdiv, hw1, hw2, if_pos q1, if_pos q2, if_pos q3, Int.toNat_natCast, Int.toNat_natCast, lowx _ hlt, uppx _ hlt, if_pos Z1.out, if_pos Z2.out, cons_B, cons_B]
        rfl
      · exact hfin h g h0 hl hgl hoh hog HXh.out HXg.out
theorem dec_l (m : List UInt8) (X : Nat) (hX : X ≤ 9999999)
    (K : ∀ t, Digs 10 7 X t → Ev (fun k => incipitlaw04_EntityNumbers.l1 k (B m) true (X : Int) (B t) (⟨#[]⟩ : ByteArray) (⟨#[]⟩ : ByteArray) (X : Int)) true) :
    ∀ (v : Nat) (t : List UInt8), v ≤ X → t.length ≤ 7 → (∀ x ∈ t, dOk 10 x) → X = v * 10 ^ t.length + num 10 t →
      Ev (fun k => incipitlaw04_EntityNumbers.l0 k (B m) true (X : Int) (B t) (⟨#[]⟩ : ByteArray) (⟨#[]⟩ : ByteArray) (v : Int)) true := by
  intro v
  induction v using Nat.strongRecOn with
  | ind v ih =>
    intro t hv hl hot hXt
    have HXt := Lib.hid hXt
    clear hXt
    have hmod : Int.tmod (v : Int) 10 = ((v % 10 : Nat) : Int) := (Int.ofNat_tmod v 10).symm
    have hdiv : Int.tdiv (v : Int) 10 = ((v / 10 : Nat) : Int) := (Int.ofNat_tdiv v 10).symm
    have hlt : v % 10 < 10 := Nat.mod_lt _ (by decide)
    obtain ⟨d1, d2, _⟩ := dig10 (v % 10) hlt
    have hw2 : wrap64 ((v / 10 : Nat) : Int) = ((v / 10 : Nat) : Int) := w64n _ (by omega)
    have hch : strOfNums [(48 + (((v % 10 : Nat) : Int) % 256)) % 256] = B [UInt8.ofNat (48 + v % 10)] := by
      rw [show (48 + (((v % 10 : Nat) : Int) % 256)) % 256 = ((48 + v % 10 : Nat) : Int) by omega]
      rfl
    have HXt2 := Lib.hid (num_step 10 v (by decide) (UInt8.ofNat (48 + v % 10)) t X d1 HXt.out)
    have ok1 : ∀ x ∈ UInt8.ofNat (48 + v % 10) :: t, dOk 10 x := by
      intro x hx
      rcases List.mem_cons.1 hx with rfl | hx
      · exact d2
      · exact hot x hx
    have hfin : ∀ t : List UInt8, t ≠ [] → t.length ≤ 7 → (∀ x ∈ t, dOk 10 x) → X = 0 * 10 ^ t.length + num 10 t →
        Ev (fun k => incipitlaw04_EntityNumbers.l0 k (B m) true (X : Int) (B t) (⟨#[]⟩ : ByteArray) (⟨#[]⟩ : ByteArray) 0) true := by
      intro t h0 hl hot e1
      have k1 := Lib.hid (show num 10 t = X by rw [Nat.zero_mul, Nat.zero_add] at e1; exact e1.symm)
      clear e1
      refine Ev.step (fun k => ?_) (K t ⟨h0, hl, hot, k1.out⟩)
      simp only [incipitlaw04_EntityNumbers.l0]
      rw [if_neg (by decide), if_neg (by rw [B_toList]; exact h0)]
    have z1 : (B [UInt8.ofNat (48 + v % 10)]).size + (B t).size ≤ 9223372036854775807 := by rw [B_size, B_size]; simp; omega
    by_cases hv0 : 0 < v
    · have hlen := len_le 10 7 v X t.length hv0 (Nat.le.intro HXt.out.symm) (Nat.lt_of_le_of_lt hX (by decide)) (by decide)
      refine Ev.step (fun k => ?_) (ih (v / 10) (Nat.div_lt_self hv0 (by decide)) (UInt8.ofNat (48 + v % 10) :: t) (Nat.le_trans (Nat.div_le_self _ _) hv) (by rw [List.length_cons]; omega) ok1 HXt2.out)
      simp only [incipitlaw04_EntityNumbers.l0, Option.bind_some]
      rw [if_pos (by omega), hmod, hdiv, hw2, hch, if_pos z1, cons_B]
    · obtain rfl : v = 0 := Nat.le_zero.1 (Nat.not_lt.1 hv0)
      by_cases h0 : t = []
      · subst h0
        refine Ev.step (fun k => ?_) (hfin (UInt8.ofNat (48 + 0 % 10) :: []) (by simp) (by simp) ok1 HXt2.out)
        simp only [incipitlaw04_EntityNumbers.l0, Option.bind_some]
        rw [if_neg (by decide), if_pos (by rw [B_toList]), hmod, hdiv, hw2, hch, if_pos z1, cons_B]
        rfl
      · exact hfin t h0 hl hot HXt.out
theorem EntityNumbers : ∀ (a0 : Int) (a1 : ByteArray), (Lit.int .i64 a0).wf = true → a1.size ≤ 140737488351232 → ∃ k, PA.incipitlaw04_EntityNumbers.f k a0 a1 = some true := by
  intro a0 a1 _ _
  apply Ev.rounds
  obtain ⟨m, rfl⟩ : ∃ m, a1 = B m := ⟨_, (B_eta a1).symm⟩
  obtain ⟨X, hX, hXl⟩ := and_mask a0 16777215 (by decide)
  unfold PA.incipitlaw04_EntityNumbers.f
  rw [awake_eq]
  simp only [Option.bind_some]
  have hX' : Go.bits .and .i64 a0 16777215 = (X : Int) := hX
  rw [hX']
  have htrue : Ev (fun k => incipitlaw04_EntityNumbers.j0 k (B m) true (X : Int) true) true := by
    refine Ev.step (f := fun _ => some true) (fun k => ?_) (Ev.now _)
    simp only [incipitlaw04_EntityNumbers.j0, if_true]
  by_cases h : ((B m).size : Int) > 300
  · exact Ev.congr (fun k => by rw [if_pos h]) htrue
  · by_cases h2 : (X : Int) > 9999999
    · exact Ev.congr (fun k => by rw [if_neg h, decide_eq_true h2]) htrue
    · rw [B_size] at h
      refine Ev.congr (f := fun k => incipitlaw04_EntityNumbers.j0 k (B m) true (X : Int) false) (fun k => by rw [if_neg (by rw [B_size]; exact h), decide_eq_false h2]) ?_
      refine Ev.step (fun k => ?_) (dec_l m X (by omega) (fun t ht => hex_l m t X (by omega) (fun h' g hh hg hgl => nums_j3 X (by omega) m t h' g (by omega) ht hh hg hgl _ rfl) X [] [] (Nat.le_refl _) (by simp) rfl (by simp) (by simp) (by simp [num]) (by simp [num])) X [] (Nat.le_refl _) (by simp) (by simp) (by simp [num]))
      simp only [incipitlaw04_EntityNumbers.j0]
      rw [if_neg (by simp)]
      rfl
end Go.Proofs.YtmkoooldekbpaaaDoor.Pure
