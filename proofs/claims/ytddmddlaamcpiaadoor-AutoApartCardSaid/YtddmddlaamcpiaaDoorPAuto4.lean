/-
  Plain functions for the layer auto, fourth part: what a text's addresses are. Condition: a text of at most 2^30 bytes.
-/
import Derived.Test.YtddmddlaamcpiaaDoorPAuto3
namespace Go.Proofs.YtddmddlaamcpiaaDoor.Pl
open Go.RowKit Go.Proofs.YtddmddlaamcpiaaDoorW.PrintWords Go.Proofs.YtddmddlaamcpiaaDoorW.PrintMore

def www : List UInt8 := [119, 119, 119, 46]
def http : List UInt8 := [104, 116, 116, 112, 58, 47, 47]
def https : List UInt8 := [104, 116, 116, 112, 115, 58, 47, 47]
def mailto : List UInt8 := [109, 97, 105, 108, 116, 111, 58]
/-- Behind a scheme. -/
def scheme (p l : List UInt8) : Option (List UInt8 × Nat) :=
  if p.isPrefixOf l = true ∧ 0 < host (l.drop p.length) then some (l.take (tail l (p.length + host (l.drop p.length))), tail l (p.length + host (l.drop p.length))) else none
def oneM (l : List UInt8) : List UInt8 × Nat := if mailbox l = 0 then ([], 0) else (mailto ++ l.take (mailbox l), mailbox l)
def oneS (l : List UInt8) : List UInt8 × Nat := ((scheme http l).or (scheme https l)).getD (oneM l)
def one (l : List UInt8) : List UInt8 × Nat := if www.isPrefixOf l = true ∧ 4 < host l then (http ++ l.take (tail l (host l)), tail l (host l)) else oneS l
theorem mailbox_le (l : List UInt8) : mailbox l ≤ l.length := by
  have h1 := wl_le [46, 45, 95, 43] l
  have h2 := host_le (l.drop (wl [46, 45, 95, 43] l + 1))
  rw [List.length_drop] at h2
  unfold mailbox
  by_cases h : (l.drop (wl [46, 45, 95, 43] l)).head? ≠ some 64
  · rw [if_pos h]
    split <;> omega
  · rw [if_neg h]
    have hk : wl [46, 45, 95, 43] l < l.length := by
      rcases Nat.lt_or_ge (wl [46, 45, 95, 43] l) l.length with h5 | h5
      · exact h5
      · rw [List.drop_eq_nil_of_le h5] at h
        exact absurd (fun e => by cases e) h
    repeat' split
    all_goals omega
theorem isP_len {p l : List UInt8} (h : p.isPrefixOf l = true) : p.length ≤ l.length := by
  rw [List.isPrefixOf_iff_prefix] at h
  exact h.length_le
theorem scheme_some {p l : List UInt8} {r : List UInt8 × Nat} (h : scheme p l = some r) : p.isPrefixOf l = true ∧ 0 < host (l.drop p.length) ∧ r = (l.take (tail l (p.length + host (l.drop p.length))), tail l (p.length + host (l.drop p.length))) := by
  by_cases hc : p.isPrefixOf l = true ∧ 0 < host (l.drop p.length)
  · rw [scheme, if_pos hc] at h
    exact ⟨hc.1, hc.2, (Option.some.inj h).symm⟩
  · rw [scheme, if_neg hc] at h
    cases h
theorem scheme_le {p l : List UInt8} {r : List UInt8 × Nat} (h : scheme p l = some r) : r.2 ≤ l.length := by
  obtain ⟨h1, h3, h4⟩ := scheme_some h
  have h1 := isP_len h1
  have h2 := host_le (l.drop p.length)
  rw [List.length_drop] at h2
  have h5 := tail_len l (p.length + host (l.drop p.length)) (by omega)
  rw [h4]
  dsimp only
  exact h5
theorem one_le (l : List UInt8) : (one l).2 ≤ l.length := by
  have h1 := host_le l
  unfold one
  by_cases hc : www.isPrefixOf l = true ∧ 4 < host l
  · rw [if_pos hc]
    dsimp only
    exact tail_len l _ h1
  · rw [if_neg hc]
    unfold oneS
    cases hs : scheme http l with
    | some r => exact scheme_le hs
    | none =>
      cases hs2 : scheme https l with
      | some r => exact scheme_le hs2
      | none =>
        show (oneM l).2 ≤ _
        unfold oneM
        split
        · exact Nat.zero_le _
        · exact mailbox_le l
def rB (r : List UInt8 × Nat) : ByteArray × Int := (B r.1, (r.2 : Int))
theorem oneM_ev (l : List UInt8) (hl : l.length ≤ 1073741824) (ps : List ByteArray) (i : Int) (hi : (ps.length : Int) ≤ i) : Ev (fun k => PA.auto_one.l0 k (B l) ps (ps.length : Int) i) (rB (oneM l)) := by
  have hm := mailbox_le l
  refine Ev.step (f := fun k => (PA.auto_mailbox.f k (B l)).bind fun t132 => (if t132 = 0 then (some ((⟨#[]⟩ : ByteArray), 0)) else (if 0 ≤ t132 then (if t132 ≤ ((B l).size : Int) then (if 7 + ((B l).extract 0 (t132 : Int).toNat).size ≤ 9223372036854775807 then (some ((⟨#[109, 97, 105, 108, 116, 111, 58]⟩ : ByteArray) ++ ((B l).extract 0 (t132 : Int).toNat), t132)) else (none)) else (none)) else (none)))) (fun k => ?_) ?_
  · simp only [PA.auto_one.l0]
    rw [if_neg (by omega)]
  · refine Ev.bind (mail_ev l hl) ?_
    refine Ev.congr (f := fun _ => some (rB (oneM l))) (fun _ => ?_) (Ev.now _)
    unfold oneM
    by_cases h : mailbox l = 0
    · rw [if_pos (by omega), if_pos h]
      rfl
    · rw [if_neg (by omega), if_pos (by omega), if_pos (by rw [B_size]; omega), Int.toNat_natCast, B_to, if_pos (by rw [B_size, List.length_take]; omega), if_neg h]
      rw [show (⟨#[109, 97, 105, 108, 116, 111, 58]⟩ : ByteArray) ++ B (l.take (mailbox l)) = B (mailto ++ l.take (mailbox l)) from B_append mailto _]
      rfl
/-- One scheme's turn. -/
theorem scheme_ev (l : List UInt8) (hl : l.length ≤ 1073741824) (ps : List ByteArray) (i : Nat) (p : List UInt8) (hp : ps[i]? = some (B p)) (hps : ps.length ≤ 2) (r : ByteArray × Int)
    (hn : scheme p l = none → Ev (fun k => PA.auto_one.l0 k (B l) ps (ps.length : Int) ((i + 1 : Nat) : Int)) r) (hs : ∀ x, scheme p l = some x → r = rB x) : Ev (fun k => PA.auto_one.l0 k (B l) ps (ps.length : Int) (i : Int)) r := by
  obtain ⟨hi, hpi⟩ := List.getElem?_eq_some_iff.1 hp
  have hg := getD_at ps i hi
  rw [hpi] at hg
  have hcut : PA.strings_CutPrefix.f (B l) (B p) = some (B (Lib.trimPrefix l p), p.isPrefixOf l) := by
    unfold PA.strings_CutPrefix.f Lib.hasPrefix
    rw [B_data, B_data]
    rfl
  have hstep : ∀ k, PA.auto_one.l0 (k + 1) (B l) ps (ps.length : Int) (i : Int) = if p.isPrefixOf l = true then ((PA.auto_host.f k (B (Lib.trimPrefix l p))).bind fun t136 => (if t136 > 0 then ((PA.auto_tail.f k (B l) (wrap64 ((p.length : Int) + t136))).bind fun t137 => (if 0 ≤ t137 then (if t137 ≤ ((B l).size : Int) then (some ((B l).extract 0 (t137 : Int).toNat, t137)) else (none)) else (none))) else PA.auto_one.l0 k (B l) ps (ps.length : Int) ((i + 1 : Nat) : Int))) else PA.auto_one.l0 k (B l) ps (ps.length : Int) ((i + 1 : Nat) : Int) := by
    intro k
    simp only [PA.auto_one.l0]
    rw [if_pos (by omega), if_pos (by omega), if_pos (by omega), hg, hcut, Option.bind_some, B_size, w64 (x := (i : Int) + 1) (by omega) (by omega)]
    rfl
  by_cases hpre : p.isPrefixOf l = true
  · have htp : Lib.trimPrefix l p = l.drop p.length := by unfold Lib.trimPrefix Lib.hasPrefix; rw [if_pos hpre]
    have hlen := isP_len hpre
    have hh := host_le (l.drop p.length)
    rw [List.length_drop] at hh
    refine Ev.step (f := fun k => (PA.auto_host.f k (B (l.drop p.length))).bind fun t136 => (if t136 > 0 then ((PA.auto_tail.f k (B l) (wrap64 ((p.length : Int) + t136))).bind fun t137 => (if 0 ≤ t137 then (if t137 ≤ ((B l).size : Int) then (some ((B l).extract 0 (t137 : Int).toNat, t137)) else (none)) else (none))) else PA.auto_one.l0 k (B l) ps (ps.length : Int) ((i + 1 : Nat) : Int))) (fun k => by rw [hstep, if_pos hpre, htp]) ?_
    refine Ev.bind (host_ev _ (by rw [List.length_drop]; omega)) ?_
    by_cases h0 : 0 < host (l.drop p.length)
    · have hsc : scheme p l = some (l.take (tail l (p.length + host (l.drop p.length))), tail l (p.length + host (l.drop p.length))) := by unfold scheme; rw [if_pos ⟨hpre, h0⟩]
      rw [hs _ hsc]
      have htl := tail_len l (p.length + host (l.drop p.length)) (by omega)
      have hte := tail_ev l (p.length + host (l.drop p.length)) hl (by omega)
      generalize host (l.drop p.length) = hh0 at *
      refine Ev.congr (f := fun k => (PA.auto_tail.f k (B l) ((p.length + hh0 : Nat) : Int)).bind fun t137 => (if 0 ≤ t137 then (if t137 ≤ ((B l).size : Int) then (some ((B l).extract 0 (t137 : Int).toNat, t137)) else (none)) else (none))) (fun k => ?_) ?_
      · rw [if_pos (by omega), w64 (by omega) (by omega)]
        rfl
      · refine Ev.bind hte ?_
        refine Ev.congr (fun _ => ?_) (Ev.now _)
        rw [if_pos (by omega), if_pos (by rw [B_size]; omega), Int.toNat_natCast, B_to]
        rfl
    · refine Ev.congr (fun k => ?_) (hn (by unfold scheme; rw [if_neg (fun e => h0 e.2)]))
      rw [if_neg (by omega)]
  · refine Ev.step (fun k => ?_) (hn (by unfold scheme; rw [if_neg (fun e => hpre e.1)]))
    rw [hstep, if_neg hpre]
theorem oneS_ev (l : List UInt8) (hl : l.length ≤ 1073741824) : Ev (fun k => PA.auto_one.j0 k (B l)) (rB (oneS l)) := by
  refine Ev.step (f := fun k => PA.auto_one.l0 k (B l) [B http, B https] (([B http, B https].length : Nat) : Int) ((0 : Nat) : Int)) (fun k => rfl) ?_
  refine scheme_ev l hl [B http, B https] 0 http rfl (by decide) _ (fun h0 => ?_) (fun x hx => by unfold oneS; rw [hx]; rfl)
  refine scheme_ev l hl [B http, B https] 1 https rfl (by decide) _ (fun h1 => ?_) (fun x hx => by unfold oneS; rw [h0, hx]; rfl)
  have := oneM_ev l hl [B http, B https] ((1 + 1 : Nat) : Int) (by decide)
  unfold oneS
  rw [h0, h1]
  exact this
theorem one_ev (l : List UInt8) (hl : l.length ≤ 1073741824) : Ev (fun k => PA.auto_one.f k (B l)) (rB (one l)) := by
  have hh := host_le l
  unfold PA.auto_one.f one
  have e1 : PA.strings_HasPrefix.f (B l) (⟨#[119, 119, 119, 46]⟩ : ByteArray) = some (www.isPrefixOf l) := pre_f l www
  by_cases hw : www.isPrefixOf l = true
  · refine Ev.congr (f := fun k => (PA.auto_host.f k (B l)).bind fun t127 => (if t127 > 4 then ((PA.auto_tail.f k (B l) t127).bind fun t128 => (if 0 ≤ t128 then (if t128 ≤ ((B l).size : Int) then (if 7 + ((B l).extract 0 (t128 : Int).toNat).size ≤ 9223372036854775807 then (some ((⟨#[104, 116, 116, 112, 58, 47, 47]⟩ : ByteArray) ++ ((B l).extract 0 (t128 : Int).toNat), t128)) else (none)) else (none)) else (none))) else (PA.auto_one.j0 k (B l)))) (fun k => by rw [e1, Option.bind_some, if_pos hw]) ?_
    refine Ev.bind (host_ev l hl) ?_
    by_cases h4 : 4 < host l
    · rw [if_pos ⟨hw, h4⟩]
      have htl := tail_len l (host l) hh
      refine Ev.congr (f := fun k => (PA.auto_tail.f k (B l) ((host l : Nat) : Int)).bind fun t128 => (if 0 ≤ t128 then (if t128 ≤ ((B l).size : Int) then (if 7 + ((B l).extract 0 (t128 : Int).toNat).size ≤ 9223372036854775807 then (some ((⟨#[104, 116, 116, 112, 58, 47, 47]⟩ : ByteArray) ++ ((B l).extract 0 (t128 : Int).toNat), t128)) else (none)) else (none)) else (none))) (fun k => by rw [if_pos (by omega)]) ?_
      refine Ev.bind (tail_ev l (host l) hl hh) ?_
      refine Ev.congr (fun _ => ?_) (Ev.now _)
      rw [if_pos (by omega), if_pos (by rw [B_size]; omega), Int.toNat_natCast, B_to, if_pos (by rw [B_size, List.length_take]; omega)]
      rw [show (⟨#[104, 116, 116, 112, 58, 47, 47]⟩ : ByteArray) ++ B (l.take (tail l (host l))) = B (http ++ l.take (tail l (host l))) from B_append http _]
      rfl
    · rw [if_neg (fun e => h4 e.2)]
      refine Ev.congr (fun k => ?_) (oneS_ev l hl)
      rw [if_neg (by omega)]
  · rw [if_neg (fun e => hw e.1)]
    refine Ev.congr (fun k => ?_) (oneS_ev l hl)
    rw [e1, Option.bind_some, if_neg hw]
/-- What may stand ahead of an address. -/
def ahd (x : UInt8) : Bool := ([32, 9, 10, 42, 95, 126, 40] : List UInt8).contains x
/-- A text's addresses: where, and to where they lead; 'ok': one may begin here. -/
def fd : Nat → Bool → Nat → List UInt8 → List (Nat × Nat × List UInt8)
  | 0, _, _, _ => []
  | _ + 1, _, _, [] => []
  | f + 1, ok, i, x :: t =>
    if ok = false ∨ (one (x :: t)).2 = 0 then fd f (ahd x) (i + 1) t
    else (i, i + (one (x :: t)).2, (one (x :: t)).1) :: fd f (ahd ((x :: t).getD ((one (x :: t)).2 - 1) 0)) (i + (one (x :: t)).2) ((x :: t).drop (one (x :: t)).2)
def toS (x : Nat × Nat × List UInt8) : PA.S26 := ⟨(x.1 : Int), (x.2.1 : Int), B x.2.2⟩
def okAt (l : List UInt8) (i : Nat) : Bool := decide (i = 0) || ahd (l.getD (i - 1) 0)
theorem find_l (l : List UInt8) (hl : l.length ≤ 1073741824) : ∀ (f i : Nat) (acc : List PA.S26), i + f = l.length → acc.length ≤ i → ∀ g, l.length - i ≤ g → Ev (fun k => PA.auto_Find.l0 k (B l) acc (i : Int)) (acc ++ (fd g (okAt l i) i (l.drop i)).map toS) := by
  intro f
  induction f using Nat.strongRecOn with
  | ind f ih =>
    intro i acc hi ha g hg
    by_cases h0 : i = l.length
    · subst h0
      rw [List.drop_length]
      refine Ev.step (f := fun _ => some acc) (fun k => ?_) (by cases g <;> (simp only [fd, List.map_nil, List.append_nil]; exact Ev.now _))
      simp only [PA.auto_Find.l0]
      rw [if_neg (by rw [B_size]; omega)]
    · have hil : i < l.length := by omega
      obtain ⟨g, rfl⟩ : ∃ g', g = g' + 1 := ⟨g - 1, by omega⟩
      have hdr : l.drop i = l[i] :: l.drop (i + 1) := List.drop_eq_getElem_cons hil
      have hok1 : okAt l (i + 1) = ahd l[i] := by
        unfold okAt
        rw [decide_eq_false (by omega), Bool.false_or, Nat.add_sub_cancel, List.getD_eq_getElem?_getD, List.getElem?_eq_getElem hil]
        rfl
      have hnext := ih (f - 1) (by omega) (i + 1) acc (by omega) (by omega) g (by omega)
      rw [hok1] at hnext
      have hj1 : ∀ b : Bool, b = !(okAt l i) → Ev (fun k => PA.auto_Find.j1 k (B l) acc (i : Int) b) (acc ++ (fd (g + 1) (okAt l i) i (l.drop i)).map toS) := by
        intro b hb
        cases hoki : okAt l i with
        | false =>
          rw [hoki] at hb
          subst hb
          rw [hdr, fd, if_pos (.inl rfl)]
          refine Ev.step (fun k => ?_) hnext
          simp only [PA.auto_Find.j1]
          rw [if_pos (show (!false) = true from rfl), w64 (by omega) (by omega)]
          rfl
        | true =>
          rw [hoki] at hb
          subst hb
          have hle := one_le (l.drop i)
          rw [List.length_drop] at hle
          have hone := one_ev (l.drop i) (by rw [List.length_drop]; omega)
          have e1 : (B l).extract ((i : Int)).toNat (B l).size = B (l.drop i) := B_from l _ _ (B_size l)
          refine Ev.step (f := fun k => (PA.auto_one.f k (B (l.drop i))).bind fun bt139 => (if bt139.2 = 0 then (PA.auto_Find.l0 k (B l) acc (wrap64 ((i : Int) + 1))) else (if acc.length < 4398046511104 then (PA.auto_Find.l0 k (B l) (acc ++ [(⟨(i : Int), wrap64 ((i : Int) + bt139.2), bt139.1⟩ : PA.S26)]) (wrap64 ((i : Int) + bt139.2))) else (none)))) (fun k => ?_) ?_
          · simp only [PA.auto_Find.j1]
            rw [if_neg (by decide), if_pos (by omega), if_pos (by rw [B_size]; omega), e1]
          · refine Ev.bind hone ?_
            rw [hdr] at hle ⊢
            rw [fd]
            generalize hon : one (l[i] :: l.drop (i + 1)) = r at *
            by_cases hn : r.2 = 0
            · rw [if_pos (.inr hn)]
              refine Ev.congr (fun k => ?_) hnext
              rw [if_pos (by show (r.2 : Int) = 0; omega), w64 (by omega) (by omega)]
              rfl
            · rw [if_neg (by rintro (h | h); cases h; exact hn h)]
              have hn2 := ih (f - r.2) (by omega) (i + r.2) (acc ++ [toS (i, i + r.2, r.1)]) (by omega) (by rw [List.length_append, List.length_singleton]; omega) g (by omega)
              have hokn : okAt l (i + r.2) = ahd ((l[i] :: l.drop (i + 1)).getD (r.2 - 1) 0) := by
                unfold okAt
                rw [decide_eq_false (by omega), Bool.false_or, ← hdr, List.getD_eq_getElem?_getD, List.getD_eq_getElem?_getD, List.getElem?_drop, show i + r.2 - 1 = i + (r.2 - 1) by omega]
              have hdn : l.drop (i + r.2) = (l[i] :: l.drop (i + 1)).drop r.2 := by rw [← hdr, List.drop_drop]
              rw [hokn, hdn, List.append_assoc] at hn2
              refine Ev.congr (fun k => ?_) hn2
              rw [if_neg (by show ¬ (r.2 : Int) = 0; omega), if_pos (by omega), show (rB r).2 = (r.2 : Int) from rfl, w64 (by omega) (by omega)]
              rfl
      by_cases hi0 : i = 0
      · have hok : okAt l i = true := by unfold okAt; rw [decide_eq_true hi0, Bool.true_or]
        refine Ev.step (fun k => ?_) (hj1 false (by rw [hok]; rfl))
        simp only [PA.auto_Find.l0]
        rw [if_pos (by rw [B_size]; omega), if_neg (by omega)]
      · have hg0 : l.getD (i - 1) 0 = l[i - 1]'(by omega) := by rw [List.getD_eq_getElem?_getD, List.getElem?_eq_getElem (by omega)]; rfl
        have hok : okAt l i = ahd (l[i - 1]'(by omega)) := by unfold okAt; rw [decide_eq_false hi0, Bool.false_or, hg0]
        have e2 : wrap64 ((i : Int) - 1) = ((i - 1 : Nat) : Int) := by rw [w64 (by omega) (by omega)]; omega
        have e3 : PA.strings_IndexByte.f (⟨#[32, 9, 10, 42, 95, 126, 40]⟩ : ByteArray) ((l[i - 1]'(by omega)).toNat : Int) = some (Lib.indexByte [32, 9, 10, 42, 95, 126, 40] (l[i - 1]'(by omega))) := idx_f _ _
        have e4 := ib_iff [32, 9, 10, 42, 95, 126, 40] (l[i - 1]'(by omega))
        refine Ev.step (fun k => ?_) (hj1 (decide (Lib.indexByte [32, 9, 10, 42, 95, 126, 40] (l[i - 1]'(by omega)) < 0)) ?_)
        · simp only [PA.auto_Find.l0]
          rw [if_pos (by rw [B_size]; omega), if_pos (by omega), e2, if_pos (by omega), if_pos (by rw [B_size]; omega), B_bt l (i - 1) (by omega), e3, Option.bind_some]
        · rw [hok]
          unfold ahd
          cases hc : ([32, 9, 10, 42, 95, 126, 40] : List UInt8).contains (l[i - 1]'(by omega)) with
          | true => exact decide_eq_false (by have := e4.2 hc; omega)
          | false => exact decide_eq_true (by
              by_cases h : 0 ≤ Lib.indexByte [32, 9, 10, 42, 95, 126, 40] (l[i - 1]'(by omega))
              · have := e4.1 h; rw [hc] at this; cases this
              · omega)
def adr (l : List UInt8) : List (Nat × Nat × List UInt8) := fd l.length true 0 l
theorem find_ev (l : List UInt8) (hl : l.length ≤ 1073741824) : Ev (fun k => PA.auto_Find.f k (B l)) ((adr l).map toS) := by
  have := find_l l hl l.length 0 [] (by omega) (by simp) l.length (by omega)
  rw [List.drop_zero, List.nil_append] at this
  exact this
theorem awake_ev : Ev (fun k => PA.incipitlaw17_awake.f k) true := Ev.of (fun k => PA.incipitlaw17_awake.mono k) (k := 60) (by decide +kernel)
end Go.Proofs.YtddmddlaamcpiaaDoor.Pl
