/-
  The law RefsTakes holds: for every input it answers true, its arguments read behind the call as before. Conditions: the listed package-level variables as the program's text lays them (tied by the card).
-/
import Derived.Test.YtekifcbokdidlaaGreatDoorSRefsTakes4
import Derived.Test.YtekifcbokdidlaaGreatDoorSRefsTakes7
import Derived.Test.YtekifcbokdidlaaGreatDoorSRefsTakes8
import Derived.Test.YtekifcbokdidlaaGreatDoorSRefsTakes5
import Derived.Test.YtekifcbokdidlaaGreatDoorSRefsTakes1
set_option linter.unusedVariables false
namespace Go.Proofs.YtekifcbokdidlaaGreatDoor.Pure
open Go.RowKit Go.Proofs.YtekifcbokdidlaaGreatDoorW.PrintWords Go.Proofs.YtekifcbokdidlaaGreatDoorW.PrintMore Go.Proofs.YtekifcbokdidlaaGreatDoor.Pl Go.Proofs.YtekifcbokdidlaaGreatDoor.PA

theorem rlf_l : ∀ (r p : List UInt8) (c : Nat),p.length + r.length ≤ 1048576 → c ≤ p.length → Ev (fun k => incipitref10_lf.l0 k (B (p ++ r)) (c : Int) (p.length : Int)) ((c + r.count 10 : Nat) : Int)
 | [],p,c,hp,hc => by
  refine Ev.step (f := fun _ => some ((c : Nat) : Int)) (fun k => ?_) (Ev.now _)
  rw [incipitref10_lf.l0,if_neg (by rw [B_size,List.append_nil];omega)]
 | x :: r,p,c,hp,hc => by
  have hp' : p.length + r.length + 1 ≤ 1048576 := by simp at hp;omega
  have hsz : (p.length : Int) < ((B (p ++ x :: r)).size : Int) := lt_sz p r x
  have hz : bt (B (p ++ x :: r)) (p.length : Int) = (x.toNat : Int) := bt_mid p r x
  have c10 : ((x.toNat : Int) = 10) ↔ x = 10 := u8_eq _ 10 (by omega)
  have w1 : wrap64 ((p.length : Int) + 1) = ((p.length + 1 : Nat) : Int) := winc (by omega)
  by_cases hx : x = 10
  ·have ih := rlf_l r (p ++ [x]) (c + 1) (by simp;omega) (by simp;omega)
   rw [← snoc,snoc_len] at ih
   rw [show (x :: r).count 10 = r.count 10 + 1 by rw [hx];exact List.count_cons_self,show c + (List.count 10 r + 1) = c + 1 + List.count 10 r by omega]
   refine Ev.step (fun k => ?_) ih
   rw [incipitref10_lf.l0,if_pos hsz,if_pos (nn _),hz,if_pos (c10.2 hx),w1,winc (by omega)]
  ·have ih := rlf_l r (p ++ [x]) c (by simp;omega) (by simp;omega)
   rw [← snoc,snoc_len] at ih
   rw [show (x :: r).count 10 = r.count 10 from List.count_cons_of_ne hx]
   refine Ev.step (fun k => ?_) ih
   rw [incipitref10_lf.l0,if_pos hsz,if_pos (nn _),hz,if_neg (fun e => hx (c10.1 e)),w1]
theorem rlf_ev (s : List UInt8) (h : s.length ≤ 1048576) : Ev (fun k => incipitref10_lf.f k (B s)) ((s.count 10 : Nat) : Int) := by
  have := rlf_l s [] 0 (by simpa using h) (Nat.zero_le _)
  rw [Nat.zero_add] at this
  exact this
theorem rgapR_ev (s : List UInt8) (h : s.length ≤ 1048576) : Ev (fun k => incipitref10_gap.f k (B s)) (if gok s = true then ((wht s : Nat) : Int) else -1) := by
 have hw := wht_le s
 have e : (B s).extract 0 (((wht s : Nat) : Int)).toNat = B (s.take (wht s)) := by rw [Int.toNat_natCast];exact B_to s _
 unfold incipitref10_gap.f
 refine Ev.bind (rwhite_ev s h) ?_
 refine Ev.congr (f := fun k => (incipitref10_lf.f k (B (s.take (wht s)))).bind _) (fun k => by rw [if_pos (nn _),if_pos (szl hw),e]) (Ev.bind (rlf_ev _ (by rw [List.length_take];omega)) ?_)
 unfold gok
 by_cases h1 : (s.take (wht s)).count 10 ≤ 1
 ·rw [decide_eq_true h1,if_pos rfl]
  have h2 : ¬ (((s.take (wht s)).count 10 : Nat) : Int) > 1 := by omega
  exact Ev.congr (f := fun _ => some ((wht s : Nat) : Int)) (fun k => if_neg h2) (Ev.now _)
 ·rw [decide_eq_false h1]
  have h2 : (((s.take (wht s)).count 10 : Nat) : Int) > 1 := by omega
  exact Ev.congr (f := fun _ => some (-1)) (fun k => if_pos h2) (Ev.now _)
/-- How much blanks and a line's end are; -1: something else. -/
def eolI (i : Nat) : Option Nat → Int
  | some e => ((i + e : Nat) : Int)
  | none => -1
theorem rend_l : ∀ (r p : List UInt8),p.length + r.length ≤ 1048576 → Ev (fun k => incipitref10_end.l0 k (B (p ++ r)) (p.length : Int)) (eolI p.length (eol r))
 | [],p,hp => by
  refine Ev.step (f := fun k => incipitref10_end.j1 k (B (p ++ [])) (p.length : Int)) (fun k => ?_) (Ev.step (f := fun _ => some (p.length : Int)) (fun k => ?_) (Ev.now _))
  ·rw [incipitref10_end.l0,if_neg (by rw [B_size,List.append_nil];omega)]
  ·rw [incipitref10_end.j1,if_pos (by rw [B_size,List.append_nil])]
 | x :: r,p,hp => by
  have hp' : p.length + r.length + 1 ≤ 1048576 := by simp at hp;omega
  have hsz : (p.length : Int) < ((B (p ++ x :: r)).size : Int) := lt_sz p r x
  have hz : bt (B (p ++ x :: r)) (p.length : Int) = (x.toNat : Int) := bt_mid p r x
  have c10 : ((x.toNat : Int) = 10) ↔ x = 10 := u8_eq _ 10 (by omega)
  have c32 : ((x.toNat : Int) = 32) ↔ x = 32 := u8_eq _ 32 (by omega)
  have c9 : ((x.toNat : Int) = 9) ↔ x = 9 := u8_eq _ 9 (by omega)
  have w1 : wrap64 ((p.length : Int) + 1) = ((p.length + 1 : Nat) : Int) := winc (by omega)
  rw [eol]
  by_cases hb : x = 32 ∨ x = 9
  ·rw [if_pos hb]
   have ih := rend_l r (p ++ [x]) (by simp;omega)
   rw [← snoc,snoc_len] at ih
   have e : eolI (p.length + 1) (eol r) = eolI p.length ((eol r).map (· + 1)) := by
    cases eol r with
    | none => rfl
    | some e => show ((p.length + 1 + e : Nat) : Int) = ((p.length + (e + 1) : Nat) : Int);omega
   rw [← e]
   refine Ev.step (fun k => ?_) ih
   rw [incipitref10_end.l0,if_pos hsz,if_pos (nn _),hz]
   by_cases h32 : x = 32
   ·rw [if_pos (c32.2 h32),w1]
   ·rw [if_neg (fun e => h32 (c32.1 e)),if_pos (c9.2 (by rcases hb with h | h;exact absurd h h32;exact h)),w1]
  ·rw [if_neg hb]
   refine Ev.step (f := fun k => incipitref10_end.j1 k (B (p ++ x :: r)) (p.length : Int)) (fun k => ?_) ?_
   ·rw [incipitref10_end.l0,if_pos hsz,if_pos (nn _),hz,if_neg (fun e => hb (.inl (c32.1 e))),if_neg (fun e => hb (.inr (c9.1 e)))]
   ·by_cases hx : x = 10
    ·rw [if_pos hx]
     refine Ev.step (f := fun _ => some ((p.length + 1 : Nat) : Int)) (fun k => ?_) (Ev.now _)
     rw [incipitref10_end.j1,if_neg (by omega),if_pos (nn _),if_pos hsz,hz,if_pos (c10.2 hx),w1]
    ·rw [if_neg hx]
     refine Ev.step (f := fun _ => some (-1)) (fun k => ?_) (Ev.now _)
     rw [incipitref10_end.j1,if_neg (by omega),if_pos (nn _),if_pos hsz,hz,if_neg (fun e => hx (c10.1 e))]
theorem rend_ev (s : List UInt8) (h : s.length ≤ 1048576) : Ev (fun k => incipitref10_end.f k (B s)) (eolI 0 (eol s)) := rend_l s [] (by simpa using h)
def ttdI : Option (List UInt8 × Nat) → ByteArray × Int
  | some x => (B x.1,((x.2 : Nat) : Int))
  | none => (B [],-1)
theorem rtitled_ev (s : List UInt8) (hs : s.length ≤ 2000) : Ev (fun k => incipitref10_titled.f k (B s)) (ttdI (ttd s)) := by
 have hw := wht_le s
 have hT := ttl_le (s.drop (wht s))
 rw [List.length_drop] at hT
 unfold incipitref10_titled.f
 refine Ev.bind (rgapR_ev s (by omega)) ?_
 by_cases hg : gok s = true ∧ wht s ≠ 0
 case neg =>
  have e : ttd s = none := by unfold ttd;exact if_neg hg
  rw [e]
  refine Ev.congr (f := fun _ => some _) (fun k => if_pos ?_) (Ev.now _)
  by_cases h1 : gok s = true
  ·rw [if_pos h1]
   have : wht s = 0 := Decidable.byContradiction fun h => hg ⟨h1,h⟩
   omega
  ·rw [if_neg h1];omega
 have e0 : ttd s = if (ttl (s.drop (wht s))).2 = 0 then none else (eol (s.drop (wht s + (ttl (s.drop (wht s))).2))).map fun e => ((ttl (s.drop (wht s))).1,wht s + (ttl (s.drop (wht s))).2 + e) := by
  unfold ttd
  exact if_pos hg
 have x1 : (B s).extract (((wht s : Nat) : Int)).toNat (B s).size = B (s.drop (wht s)) := by rw [Int.toNat_natCast];exact B_from s _ _ (B_size _)
 have ht := rtitle_ev (s.drop (wht s)) (by rw [List.length_drop];omega)
 obtain ⟨T,hTe⟩ : ∃ T,ttl (s.drop (wht s)) = T := ⟨_,rfl⟩
 rw [hTe] at e0 ht hT
 rw [if_pos hg.1]
 have hge : ¬ ((wht s : Nat) : Int) < 1 := by have := hg.2;omega
 refine Ev.congr (f := fun k => (incipitref09_Title.f k (B (s.drop (wht s)))).bind _) (fun k => by rw [if_neg hge,if_pos (nn _),if_pos (szl hw),x1]) (Ev.bind ht ?_)
 by_cases h0 : T.2 = 0
 ·rw [e0,if_pos h0]
  exact Ev.congr (f := fun _ => some _) (fun k => if_pos (by omega)) (Ev.now _)
 rw [e0,if_neg h0]
 have w2 : wrap64 (((wht s : Nat) : Int) + ((T.2 : Nat) : Int)) = ((wht s + T.2 : Nat) : Int) := wadd (by omega)
 have x2 : (B s).extract (((wht s + T.2 : Nat) : Int)).toNat (B s).size = B (s.drop (wht s + T.2)) := by rw [Int.toNat_natCast];exact B_from s _ _ (B_size _)
 refine Ev.congr (f := fun k => (incipitref10_end.f k (B (s.drop (wht s + T.2)))).bind _) (fun k => by
  dsimp only
  rw [if_neg (by omega),w2,if_pos (nn _),if_pos (szl (by omega)),x2]) (Ev.bind (rend_ev _ (by rw [List.length_drop];omega)) ?_)
 cases he : eol (s.drop (wht s + T.2)) with
 | none => exact Ev.congr (f := fun _ => some _) (fun k => if_pos (by show (-1 : Int) < 0;omega)) (Ev.now _)
 | some e =>
  have hle := eol_le _ _ he
  rw [List.length_drop] at hle
  refine Ev.congr (f := fun _ => some (B T.1,((wht s + T.2 + e : Nat) : Int))) (fun k => ?_) (Ev.now _)
  show (if (((0 + e : Nat) : Int)) < 0 then _ else some (B T.1,wrap64 (((wht s + T.2 : Nat) : Int) + ((0 + e : Nat) : Int)))) = _
  rw [if_neg (by omega),Nat.zero_add,wadd (by omega)]
theorem rtake_zero (s l : ByteArray) (g : Int) : Ev (fun k => incipitref10_Take.j0 k s l g true) (bt4 ([],[],[],0)) := by
  refine Ev.step (f := fun _ => some (bt4 ([],[],[],0))) (fun k => ?_) (Ev.now _)
  rw [incipitref10_Take.j0]
  exact if_pos rfl
theorem rtake_ev (s : List UInt8) (hs : s.length ≤ 2000) : Ev (fun k => incipitref10_Take.f k (B s)) (bt4 (tk s)) := by
 have hl := lab_le s
 have hl1 := lab_le1 s
 have hlab := rlabel_ev s hs
 obtain ⟨L,hL⟩ : ∃ L,lab s = L := ⟨_,rfl⟩
 rw [hL] at hl hl1 hlab
 have e0 : tk s = if L.2 = 0 then ([],[],[],0) else match s.drop L.2 with
  | [] => ([],[],[],0)
  | x :: r => if x = 58 then tkr L.1 L.2 r else ([],[],[],0) := by unfold tk;rw [hL];rfl
 rw [e0]
 unfold incipitref10_Take.f
 refine Ev.bind hlab ?_
 by_cases h0 : L.2 = 0
 ·rw [if_pos h0]
  exact Ev.congr (fun k => if_pos (by omega)) (rtake_zero (B s) (B L.1) _)
 rw [if_neg h0]
 refine Ev.congr (fun k => if_neg (by omega)) ?_
 cases hd : s.drop L.2 with
 | nil =>
  have hle := congrArg List.length hd
  rw [List.length_drop,List.length_nil] at hle
  exact Ev.congr (fun k => if_pos (by rw [B_size];omega)) (rtake_zero (B s) (B L.1) _)
 | cons x r =>
  have hlen : s.length = L.2 + 1 + r.length := by
   have := congrArg List.length hd
   rw [List.length_drop,List.length_cons] at this
   omega
  have hr : s.drop (L.2 + 1) = r := by rw [← List.drop_drop,hd];rfl
  have hb : bt (B s) ((L.2 : Nat) : Int) = (x.toNat : Int) := by
   have hlt : L.2 < s.length := by omega
   rw [B_bt s L.2 hlt]
   rw [List.drop_eq_getElem_cons hlt] at hd
   rw [(List.cons.inj hd).1]
  have c58 : ((x.toNat : Int) = 58) ↔ x = 58 := u8_eq _ 58 (by omega)
  refine Ev.congr (f := fun k => incipitref10_Take.j0 k (B s) (B L.1) ((L.2 : Nat) : Int) ((x.toNat : Int) != 58)) (fun k => by rw [if_neg (by rw [B_size];omega),if_pos (nn _),if_pos (by rw [B_size];omega),hb]) ?_
  by_cases hx : x = 58
  case neg =>
   rw [show ((x.toNat : Int) != 58) = true by rw [bne,beq_eq_false_iff_ne.2 (fun e => hx (c58.1 e))];rfl]
   show Ev _ (bt4 (if x = 58 then tkr L.1 L.2 r else ([],[],[],0)))
   rw [if_neg hx]
   exact rtake_zero _ _ _
  rw [show ((x.toNat : Int) != 58) = false by rw [bne,beq_iff_eq.2 (c58.2 hx)];rfl]
  show Ev _ (bt4 (if x = 58 then tkr L.1 L.2 r else ([],[],[],0)))
  rw [if_pos hx]
  clear hb c58 hx hd
  have w0 : wrap64 (((L.2 : Nat) : Int) + 1) = ((L.2 + 1 : Nat) : Int) := winc (by omega)
  have x0 : (B s).extract (((L.2 + 1 : Nat) : Int)).toNat (B s).size = B r := by rw [Int.toNat_natCast,B_from s _ _ (B_size _),hr]
  have hw := wht_le r
  unfold tkr
  refine Ev.step (f := fun k => (incipitref10_gap.f k (B r)).bind _) (fun k => by
   rw [incipitref10_Take.j0,if_neg (by decide),w0,if_pos (nn _),if_pos (szl (by omega)),x0]) (Ev.bind (rgapR_ev r (by omega)) ?_)
  by_cases hg : gok r = true
  case neg =>
   rw [if_neg hg,if_neg hg]
   exact Ev.congr (f := fun _ => some _) (fun k => if_pos (by omega)) (Ev.now _)
  rw [if_pos hg,if_pos hg]
  have w1 : wrap64 (((L.2 + 1 : Nat) : Int) + ((wht r : Nat) : Int)) = ((L.2 + 1 + wht r : Nat) : Int) := wadd (by omega)
  have x1 : (B s).extract (((L.2 + 1 + wht r : Nat) : Int)).toNat (B s).size = B (r.drop (wht r)) := by rw [Int.toNat_natCast,B_from s _ _ (B_size _),← hr,List.drop_drop]
  have hd1 := rdest_ev (r.drop (wht r)) (by rw [List.length_drop];omega)
  have hD := dst_le (r.drop (wht r))
  rw [List.length_drop] at hD
  obtain ⟨D,hDe⟩ : ∃ D,dst (r.drop (wht r)) = D := ⟨_,rfl⟩
  rw [hDe] at hd1 hD ⊢
  refine Ev.congr (f := fun k => (incipitref09_Dest.f k (B (r.drop (wht r)))).bind _) (fun k => by rw [if_neg (by omega),w1,if_pos (nn _),if_pos (szl (by omega)),x1]) (Ev.bind hd1 ?_)
  by_cases hok : D.2.2 = true
  case neg =>
   rw [if_neg hok]
   exact Ev.congr (f := fun _ => some _) (fun k => if_neg hok) (Ev.now _)
  rw [if_pos hok]
  have w2 : wrap64 (((L.2 + 1 + wht r : Nat) : Int) + ((D.2.1 : Nat) : Int)) = ((L.2 + 1 + (wht r + D.2.1) : Nat) : Int) := by rw [wadd (by omega),Nat.add_assoc]
  have x2 : (B s).extract (((L.2 + 1 + (wht r + D.2.1) : Nat) : Int)).toNat (B s).size = B (r.drop (wht r + D.2.1)) := by rw [Int.toNat_natCast,B_from s _ _ (B_size _),← hr,List.drop_drop]
  have hql : (r.drop (wht r + D.2.1)).length = r.length - (wht r + D.2.1) := List.length_drop
  obtain ⟨q,hq⟩ : ∃ q,r.drop (wht r + D.2.1) = q := ⟨_,rfl⟩
  rw [hq] at x2 hql
  rw [hq]
  refine Ev.congr (f := fun k => (incipitref03_Label.f k (B L.1)).bind _) (fun k => by
   dsimp only
   rw [if_pos hok]) (Ev.bind (rlbl_ev L.1 (by omega)) ?_)
  refine Ev.congr (f := fun k => (incipitref10_titled.f k (B q)).bind _) (fun k => by rw [w2,if_pos (nn _),if_pos (szl (by omega)),x2]) (Ev.bind (rtitled_ev q (by omega)) ?_)
  unfold tkq
  cases htt : ttd q with
  | some x =>
   have hm := ttd_le q x.1 x.2 htt
   refine Ev.congr (f := fun _ => some (bt4 (lbl L.1,D.1,x.1,L.2 + 1 + (wht r + D.2.1) + x.2))) (fun k => ?_) (Ev.now _)
   show (if ((x.2 : Nat) : Int) ≥ 0 then some (B (lbl L.1),B D.1,B x.1,wrap64 (((L.2 + 1 + (wht r + D.2.1) : Nat) : Int) + ((x.2 : Nat) : Int))) else _) = _
   rw [if_pos (nn _),wadd (by omega)]
   rfl
  | none =>
   refine Ev.congr (f := fun k => (incipitref10_end.f k (B q)).bind _) (fun k => if_neg (by show ¬ (-1 : Int) ≥ 0;omega)) (Ev.bind (rend_ev q (by omega)) ?_)
   cases he : eol q with
   | some m =>
    have hm := eol_le q m he
    refine Ev.congr (f := fun _ => some (bt4 (lbl L.1,D.1,[],L.2 + 1 + (wht r + D.2.1) + m))) (fun k => ?_) (Ev.now _)
    show (if (((0 + m : Nat) : Int)) < 0 then _ else some (B (lbl L.1),B D.1,(⟨#[]⟩ : ByteArray),wrap64 (((L.2 + 1 + (wht r + D.2.1) : Nat) : Int) + ((0 + m : Nat) : Int)))) = _
    rw [if_neg (by omega),Nat.zero_add,wadd (by omega)]
    rfl
   | none =>
    exact Ev.congr (f := fun _ => some (bt4 ([],[],[],0))) (fun k => if_pos (by show (-1 : Int) < 0;omega)) (Ev.now _)
end Go.Proofs.YtekifcbokdidlaaGreatDoor.Pure

namespace Go.Proofs.YtekifcbokdidlaaGreatDoor.Pure
open Go.RowKit Go.Proofs.YtekifcbokdidlaaGreatDoorW.PrintWords Go.Proofs.YtekifcbokdidlaaGreatDoorW.PrintMore Go.Proofs.YtekifcbokdidlaaGreatDoor.Pl Go.Proofs.YtekifcbokdidlaaGreatDoor.PA

theorem rall_l : ∀ (f : Nat) (s : List UInt8) (acc : List S26),s.length ≤ f → s.length ≤ 2000 → acc.length + s.length ≤ 1000000 → Ev (fun k => incipitref10_All.l0 k (B s) acc) (acc ++ (alf f s).1,B (alf f s).2) := by
 intro f
 induction f with
 | zero =>
  intro s acc hf hs ha
  obtain rfl : s = [] := List.length_eq_zero_iff.1 (by omega)
  refine Ev.step (f := fun k => (incipitref10_Take.f k (B [])).bind _) (fun k => by rw [incipitref10_All.l0]) (Ev.bind (rtake_ev [] (by simp)) ?_)
  rw [tk_nil]
  refine Ev.congr (f := fun _ => some (acc,B [])) (fun k => if_pos rfl) ?_
  rw [alf,List.append_nil]
  exact Ev.now _
 | succ f ih =>
  intro s acc hf hs ha
  have hle := tk_le s
  refine Ev.step (f := fun k => (incipitref10_Take.f k (B s)).bind _) (fun k => by rw [incipitref10_All.l0]) (Ev.bind (rtake_ev s hs) ?_)
  rw [alf]
  by_cases h0 : (tk s).2.2.2 = 0
  ·rw [if_pos h0,List.append_nil]
   exact Ev.congr (f := fun _ => some (acc,B s)) (fun k => if_pos (by show (((tk s).2.2.2 : Nat) : Int) = 0;omega)) (Ev.now _)
  ·rw [if_neg h0]
   have ih2 := ih (s.drop (tk s).2.2.2) (acc ++ [rfOf (tk s)]) (by rw [List.length_drop];omega) (by rw [List.length_drop];omega) (by rw [List.length_drop,List.length_append,List.length_singleton];omega)
   rw [List.append_assoc] at ih2
   refine Ev.congr (fun k => ?_) ih2
   show (if (((tk s).2.2.2 : Nat) : Int) = 0 then _ else if acc.length < 2932031007402 then (if (0 : Int) ≤ (((tk s).2.2.2 : Nat) : Int) then (if (((tk s).2.2.2 : Nat) : Int) ≤ ((B s).size : Int) then incipitref10_All.l0 k ((B s).extract ((((tk s).2.2.2 : Nat) : Int)).toNat (B s).size) (acc ++ [rfOf (tk s)]) else none) else none) else none) = _
   rw [if_neg (by omega),if_pos (by omega),if_pos (by omega),if_pos (by rw [B_size];omega),Int.toNat_natCast,B_from s _ _ (B_size _)]
theorem rall_ev (s : List UInt8) (hs : s.length ≤ 2000) : Ev (fun k => incipitref10_All.f k (B s)) ((alf s.length s).1,B (alf s.length s).2) := rall_l s.length s [] (Nat.le_refl _) hs (by simp;omega)
theorem same_l (l : List S26) (hl : l.length ≤ 1000000) : ∀ (d i : Nat),i + d = l.length → Ev (fun k => incipitref10_Same.l0 k l l (i : Int)) true
  | 0,i,h => by
    refine Ev.step (f := fun _ => some true) (fun k => ?_) (Ev.now _)
    rw [incipitref10_Same.l0,if_neg (by omega)]
  | d + 1,i,h => by
    refine Ev.step (fun k => ?_) (same_l l hl d (i + 1) (by omega))
    rw [incipitref10_Same.l0,if_pos (by omega),if_pos (by omega),if_pos (by omega),if_pos rfl,if_pos rfl,if_pos rfl,w64 (by omega) (by omega)]
    rfl
theorem same_ev (l : List S26) (hl : l.length ≤ 1000000) : Ev (fun k => incipitref10_Same.f k l l) true := by
  unfold incipitref10_Same.f
  exact Ev.congr (fun k => if_pos rfl) (same_l l hl l.length 0 (Nat.zero_add _))
theorem RefsTakes : ∀ (a0 : ByteArray),a0.size ≤ 140737488351232 → ∃ k,PA.incipitlaw10_RefsTakes.f k a0 = some true := by
 intro a0 _
 obtain ⟨s,rfl⟩ : ∃ s,a0 = B s := ⟨_,(B_eta a0).symm⟩
 apply Ev.rounds
 unfold incipitlaw10_RefsTakes.f
 refine Ev.bind awake_ev ?_
 by_cases h : ((B s).size : Int) > 2000
 ·exact Ev.congr (fun k => if_pos h) (Ev.now _)
 have hs : s.length ≤ 2000 := by rw [B_size] at h;omega
 have hl := alf_len s.length s
 refine Ev.congr (f := fun k => (refs_Take.f k (B s)).bind _) (fun k => if_neg h) (Ev.bind (take_ev s (by omega)) ?_)
 refine Ev.bind (rtake_ev s hs) ?_
 refine Ev.bind (all_ev s (by omega)) ?_
 refine Ev.bind (rall_ev s hs) ?_
 refine Ev.congr (f := fun k => (incipitref10_Same.f k [rfOf (tk s)] [rfOf (tk s)]).bind _) (fun k => by
  rw [if_pos rfl,if_pos rfl]
  rfl) (Ev.bind (same_ev _ (by simp)) ?_)
 refine Ev.congr (f := fun k => (incipitref10_Same.f k (alf s.length s).1 (alf s.length s).1).bind _) (fun k => if_pos rfl) (Ev.bind (same_ev _ (by omega)) ?_)
 refine Ev.congr (f := fun _ => some true) (fun k => ?_) (Ev.now _)
 rw [if_pos rfl,beq_self_eq_true]
end Go.Proofs.YtekifcbokdidlaaGreatDoor.Pure

namespace Go.Proofs.YtekifcbokdidlaaGreatDoor.refsTakes
open Go.ChangeShapes Go.WideShapes Go.ChangeAt Go.RowKit Go.Proofs.YtekifcbokdidlaaGreatDoorW.PrintWords Go.Proofs.YtekifcbokdidlaaGreatDoor.RowU8
open Go.ChangeMaps (open_string shut_string)
set_option linter.unusedVariables false
set_option maxRecDepth 100000 in
theorem contract (H : Type) (enc : TypeId × Value → H) (W : World) (base : Nat) (args : Array Value) (ds gs : List (DataW H)) (before : List MemPlace)
  (hval0 : ∀ (j : Nat) t v,Tryz.f5.params[j]? = some t → args[j]? = some v → Value.okWide Tryz.prog W .any base t v)
  (hW : DataW.Whole enc Tryz.prog Tryz.f5.params.toList Rows.refsTakesSpec.vars false W args.toList ds gs before) (hsz0 : (DataW.weightsEach Tryz.prog (Tryz.f5.params.toList ++ (OpenSpec.ofChange Rows.refsTakesSpec).bare.plain.varTypes Tryz.prog) (ds ++ gs)).all (· ≤ reachBytes) = true) (hSh : W.ShapedOpen Tryz.prog) (hL : laidMetH Tryz.prog Rows.refsTakesRow.laid W) :
  Calls Tryz.prog 5 args W fun e W' => ∃ v,e = .returned v ∧ Rows.refsTakesSpec.post enc Tryz.prog Tryz.f5 false true false false W args v W' := by
 have hsz : (DataW.weightsEach Tryz.prog (Tryz.f5.params.toList ++ Rows.refsTakesSpec.plain.varTypes Tryz.prog) (ds ++ gs)).all (· ≤ reachBytes) = true := hsz0
 have hval : ∀ (j : Nat) t v,Tryz.f5.params[j]? = some t → args[j]? = some v → Value.okWide Tryz.prog W .any base t v := hval0
 have hW' := hW
 obtain ⟨p,q,hA0,hV,rfl,hfz,hnd⟩ := hW
 have hA : DataW.TrodAll enc Tryz.prog W 0 (fun _ => true) true Tryz.f5.params.toList args.toList ds p := hA0
 rw [Tryz.params5] at hA hval hsz
 obtain ⟨v0,vs0,d0,ds0,p0,q0,hargs,rfl,rfl,h0,r0⟩ := trodAll_cons hA
 obtain ⟨rfl,rfl,rfl⟩ := trodAll_nil r0
 obtain rfl : args = #[v0] := by cases args;simp_all
 obtain ⟨rfl,rfl⟩ := trodVars_none hV
 obtain ⟨a0,rfl,rfl,rfl,y0⟩ := open_string Tryz.underlying9 (hval 0 9 v0 rfl rfl) h0
 have w0 : a0.size ≤ 140737488351232 := by
  have z := sized_string hsz (j := 0) (t := 9) rfl rfl
  rw [Array.length_toList] at z
  exact z
 clear hA0 hval0 hsz0 hsz
 obtain ⟨k,hp⟩ := Pure.RefsTakes a0 w0
 refine (PA.incipitlaw10_RefsTakes.calls k a0 true W (laidOf hSh hL (by kernel_rfl) (by simp [Rows.refsTakesRow]) (by simp [Rows.refsTakesRow])) hp).mono ?_
 rintro e W' ⟨rfl,bel⟩
 exact ⟨_,rfl,_,_,_,[],_,[],hW',trodAll_mk1 (shut_bool Tryz.underlying4 _),(trodAll_cons_mk (shut_string Tryz.underlying9 y0) trodAll_mk0),rfl,bel.frame _,fun h => by cases h⟩
theorem laid_met (os : Os) : laidMet Tryz.prog Rows.refsTakesRow.laid ((laidWorld os).forCall (fun _ _ => 0) ⟨#[],#[.string ByteArray.empty],[]⟩).memory :=
  laidMet_of_run' 8 (by kernel_rfl) (by kernel_rfl)
theorem reads (os : Os) {H : Type} (enc : TypeId × Value → H) : ∃ places,DataW.whole enc Tryz.prog ((laidWorld os).forCall (fun _ _ => 0) ⟨#[],#[.string ByteArray.empty],[]⟩).memory Tryz.f5.params.toList Rows.refsTakesSpec.vars false (#[.string ByteArray.empty] : Array Value).toList 8 = some ([.lit (.string [])],[],places) :=
  ⟨[],by kernel_rfl⟩
set_option maxRecDepth 100000 in
theorem lifted (os : Os) (started : os.Started) (H : Type) (enc : TypeId × Value → H) (F : Stop.Interp) :
  ReturnsInHanded {} Tryz.checked os 5 .any ((OpenSpec.ofChange Rows.refsTakesSpec).preRow enc Tryz.prog Tryz.f5 Rows.refsTakesRow.domain false Rows.refsTakesRow.laid) (((OpenSpec.ofChange Rows.refsTakesSpec).at F).post enc Tryz.prog Tryz.f5 false true false false) := by
 obtain ⟨places,hx⟩ := reads os enc
 refine returnsInHanded_of_row (C := Tryz.checked) (s := OpenSpec.ofChange Rows.refsTakesSpec) own started (by kernel_rfl) Tryz.func5
  (witness_row_atRef (enc := enc) (C := Tryz.checked) false (laidWorld os) #[.string ByteArray.empty] (laidWorld_os os) (by kernel_rfl) (by kernel_rfl) (by kernel_rfl)
   (OpenSpec.preRow_of_cond 8 hx (by kernel_rfl) (fun k hk => by cases hk) (by kernel_rfl) (laid_met os))) ?_
 intro W base args ds gs before hval hW _ _ hsz hL hSh _
 exact contract H enc W base args ds gs before hval hW hsz hSh hL
theorem said : Rows.RefsTakesSaid :=
  OpenClaim.holds_of_cond 5 Tryz.f5 rfl rfl rfl rfl rfl rfl rfl ⟨rfl,rfl,rfl,rfl,rfl⟩ rfl rfl rfl rfl rfl (by kernel_rfl) Tryz.func5 (by kernel_rfl)
    (of_decide_eq_true (by kernel_rfl)) (by unfold Func.isWrapper;first | (rw [if_pos (by decide +kernel)];kernel_rfl) | (rw [if_neg (by decide +kernel)];exact ⟨rfl,rfl⟩))
    (fun os started H enc _ F => by rw [OpenClaim.pre_eq_preRow];exact lifted os started H enc F)
theorem plain (f : FuncId) (fn : Func) (hf : Tryz.pinned.checked.prog.funcNamed "incipit/incipitlaw10.RefsTakes" = some f) (hfn : Tryz.pinned.checked.prog.funcs[f]? = some fn) :
  true = Tryz.pinned.checked.prog.looks [] ∧ ∀ (j : Nat) t,fn.params[j]? = some t → Tryz.pinned.checked.prog.wantsStandIn t = false := by
 obtain rfl : f = 5 := Option.some.inj ((show Tryz.prog.funcNamed "incipit/incipitlaw10.RefsTakes" = some 5 by kernel_rfl).symm.trans hf) |>.symm
 obtain rfl : fn = Tryz.f5 := (Option.some.inj (Tryz.func5.symm.trans hfn)).symm
 refine ⟨by kernel_rfl,fun j t ht => ?_⟩
 rw [Tryz.params5] at ht
 have hall : ∀ t ∈ (#[9] : Array Nat),Tryz.prog.wantsStandIn t = false := by
  intro t ht
  simp at ht
  subst ht
  exact (show Tryz.prog.wantsStandIn 9 = false by kernel_rfl)
 exact hall t (Array.mem_of_getElem? ht)
theorem card : Rows.RefsTakesCardSaid :=
  Claim7.holds_tied_plain_at .later [] _ _ _ _ said (fun _ h => by cases h) (by kernel_rfl) (fun _ h => by cases h) refsTakes_row_tie rfl ⟨rfl,rfl⟩ (by kernel_rfl) rfl plain (by kernel_rfl)
end Go.Proofs.YtekifcbokdidlaaGreatDoor.refsTakes
namespace Go.Proofs.YtekifcbokdidlaaGreatDoor
/-- The statement, under a short name, for the claim. -/
theorem refsTakes_holds : Rows.RefsTakesCardSaid := refsTakes.card
end Go.Proofs.YtekifcbokdidlaaGreatDoor
