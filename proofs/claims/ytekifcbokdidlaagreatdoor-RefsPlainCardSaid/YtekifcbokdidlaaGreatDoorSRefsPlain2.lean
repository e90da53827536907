/-
  Texts of the proof of RefsPlain, part 2 of 6: contracts and plain laws. Conditions: see each statement.
-/
import Derived.Test.YtekifcbokdidlaaGreatDoorSRefsPlain1
import Derived.WalkKit
import Derived.Laws.Tables
import Derived.Laws.Rows
import Derived.Laws.CopyOwn
import Derived.RangeFuncRecord
import Derived.KernelRfl
import Derived.WalkLawsBesides
import Derived.BigCall
import Derived.Lib.Hide
import Derived.Lib.SplitLaws
import Derived.Lib.IndexMore
import Derived.ChangeKeysEq
import Derived.Laws.Cover4
set_option linter.unusedVariables false
namespace Go.Proofs.YtekifcbokdidlaaGreatDoor.PA
open Go.RowKit Go.Proofs.YtekifcbokdidlaaGreatDoor.Pl Go.Proofs.YtekifcbokdidlaaGreatDoorW.PrintWords Go.Proofs.YtekifcbokdidlaaGreatDoorW.PrintLast Go.Proofs.YtekifcbokdidlaaGreatDoorW.PrintMore
set_option linter.unusedVariables false

/-- Composite literals, one behind the other. -/
def bldAll (P : Program) : List Oper → Act → Option Act
  | [],a => some a
  | o :: r,a => match o.guard,o.op with
    | none,.build t parts => match P.built t (parts.map fun (i,x) => (i,a.eval x)).toList with
      | some c => bldAll P r (a.put o.dst (.agg c))
      | none => none
    | _,_ => none
theorem wpList_bldAll {P : Program} {ops : Array Oper} {Q : Exit → Act → World → Prop} {w : World} : ∀ (l r : List Oper) (a a' : Act),bldAll P l a = some a' → wpList P ops Q r a' w → wpList P ops Q (l ++ r) a w
  | [],r,a,a',h,hr => by
    obtain rfl := Option.some.inj h
    exact hr
  | o :: l,r,a,a',h,hr => by
    unfold bldAll at h
    split at h
    · rename_i t parts hg ho
      split at h
      · rename_i c hc
        refine wpList_build hg t parts ho (by rw [hc];rfl) ?_
        rw [hc]
        exact wpList_bldAll l r _ a' h hr
      · cases h
    · cases h
/-- The table's cells. -/
noncomputable def entCells : Array Value := (entL.flatMap fun e => [Value.string (B e.1),Value.int .i32 (e.2 : Int)]).toArray
noncomputable def tabOps : Array Oper := match Tryz.f132.body with
  | some (.seq _ (.seq (.region _ o _) _)) => o
  | _ => #[]
def tabAct (b : Nat) : Act := { tmps := #[Value.pointer (some ⟨b,0,none⟩)] ++ Array.replicate 184 undef,defers := [] }
theorem tab_built (b : Nat) : (bldAll Tryz.prog (tabOps.toList.take 184) (tabAct b)).map (fun a => (a.eval (.tmp 0),a.eval (.tmp 184),a.defers)) = some (.pointer (some ⟨b,0,none⟩),.agg entCells,[]) := by kernel_rfl
theorem tab_ops : ∃ o : Oper, tabOps.toList.drop 184 = [o] ∧ o.dst = none ∧ o.guard = none ∧ o.op = .store 134 (.tmp 0) (.tmp 184) := ⟨(tabOps.toList.drop 184).headD { dst := none, op := .store 134 (.tmp 0) (.tmp 184), type := 0, pos := "", after := #[], guard := none }, by kernel_rfl, by kernel_rfl, by kernel_rfl, by kernel_rfl⟩
theorem tab_body : Tryz.f132.body = some (.seq (.region 0 #[{ dst := some 0, op := .alloc 134, type := 0, pos := "table.go:10", after := #[], guard := none }] false) (.seq (.region 1 tabOps false) .ret)) := by kernel_rfl
theorem tab_len : entCells.size = 366 := by kernel_rfl
theorem tab_one : entCells.all (·.oneCell') = true := by kernel_rfl
theorem tab_zero : Tryz.zeroCells134.size = 366 := by kernel_rfl
theorem tab_info : (Tryz.prog.info? 134).map (·.size) = some 366 := by kernel_rfl
set_option maxRecDepth 100000 in
set_option maxHeartbeats 4000000 in
theorem table_walk (w : World) : Calls Tryz.prog 132 #[] w fun e w' => e = .returned (.agg entCells) ∧ Below w.heap.size w w' := by
  refine calls_of_wp Tryz.func132 tab_body ?_
  have htm : (#[] : Array Value) ++ Array.replicate ((Tryz.f132).ntmps - (#[] : Array Value).size) undef = Array.replicate 185 undef := by kernel_rfl
  rw [htm]
  have e1 : ∀ b : Nat,({ tmps := (Array.replicate 185 undef).setIfInBounds 0 (.pointer (some ⟨b,0,none⟩)),defers := [] } : Act) = tabAct b := fun b => by kernel_rfl
  obtain ⟨o,ho,hod,hog,hoo⟩ := tab_ops
  refine wp_seq (wp_region_list (wpList_plain rfl fun K hK => ?_))
  generalize hA : (Array.replicate 185 undef : Array Value) = A at e1 ⊢
  go_simp
  refine hK _ _ (wpList_nil ?_)
  clear hK K
  refine wp_seq (wp_region_list ?_)
  have hsplit : tabOps.toList = tabOps.toList.take 184 ++ [o] := by rw [← ho,List.take_append_drop]
  have hb := tab_built w.heap.size
  cases hq : bldAll Tryz.prog (tabOps.toList.take 184) (tabAct w.heap.size) with
  | none => rw [hq] at hb;cases hb
  | some a' =>
    rw [hq] at hb
    simp only [Option.map_some,Option.some.injEq,Prod.mk.injEq] at hb
    obtain ⟨h1,h2,h3⟩ := hb
    rw [hsplit]
    refine wpList_bldAll _ _ _ _ hq ?_
    refine wpList_store_row hog _ _ _ hoo w.heap.size entCells h1 h2 134 Tryz.zeroCells134 (World.alloc_heap_new w _) (tab_info.trans (congrArg some tab_len.symm)) (tab_zero.trans tab_len.symm) tab_one ?_
    refine wpList_nil (wp_ret ?_)
    rw [hod]
    have hg := setRow_heap (w.alloc (.cells Tryz.zeroCells134 134)) w.heap.size Tryz.zeroCells134 entCells 134 (0,0) (World.alloc_heap_new w _)
    refine bodyPost_ret (v := .agg entCells) (results_cell_row (fn := Tryz.f132) rfl _ _ w.heap.size 134 entCells (0,0) _ h1 hg Tryz.underlying134 rfl (tab_info.trans (congrArg some tab_len.symm))) h3 ⟨rfl,?_⟩
    exact below_setRow ((Below.refl _ w).alloc (Nat.le_refl _) _) (Nat.le_refl _) _
end Go.Proofs.YtekifcbokdidlaaGreatDoor.PA

namespace Go.Proofs.YtekifcbokdidlaaGreatDoor.PA
open Go.RowKit Go.Proofs.YtekifcbokdidlaaGreatDoor.Pl Go.Proofs.YtekifcbokdidlaaGreatDoorW.PrintWords Go.Proofs.YtekifcbokdidlaaGreatDoorW.PrintLast Go.Proofs.YtekifcbokdidlaaGreatDoorW.PrintMore
set_option linter.unusedVariables false

/-- Texts compared. -/
def cmpT (x y : List UInt8) : Int := if Op.bytesLess x y = true then -1 else if x = y then 0 else 1
theorem isNaN_any (x : ByteArray) (w : World) : Calls Tryz.prog 142 #[.string x] w fun e w' => e = .returned (.bool false) ∧ w = w' := by
  go_enter Tryz.func142,Tryz.ntmps142
  go_wp2
  go_ret
  exact ⟨by simp,rfl⟩
theorem compare_any (x y : ByteArray) (w : World) : Calls Tryz.prog 135 #[.string x,.string y] w fun e w' => e = .returned (.int .i64 (cmpT x.toList y.toList)) ∧ w = w' := by
  have hlg : cmpT x.toList y.toList = if Op.bytesLess x.toList y.toList = true then -1 else if x.toList = y.toList then 0 else 1 := rfl
  cases h1 : Op.bytesLess x.toList y.toList with
  | true =>
    rw [h1,if_pos rfl] at hlg
    have HL := Lib.hid hlg
    clear hlg
    go_enter Tryz.func135,Tryz.ntmps135
    go_wp2_with (first | (go_at_call 142;refine (isNaN_any _ _).mono ?_;rintro e w' ⟨rfl,rfl⟩))
    go_ret
    exact ⟨congrArg (fun z => Ending.returned (.int .i64 z)) HL.out.symm,rfl⟩
  | false =>
    rw [h1,if_neg (by decide)] at hlg
    by_cases h2 : x.toList = y.toList
    · rw [if_pos h2] at hlg
      have h3 : (x.toList == y.toList) = true := beq_iff_eq.2 h2
      have HL := Lib.hid hlg
      clear hlg h2
      go_enter Tryz.func135,Tryz.ntmps135
      go_wp2_with (first | (go_at_call 142;refine (isNaN_any _ _).mono ?_;rintro e w' ⟨rfl,rfl⟩))
      go_ret
      exact ⟨congrArg (fun z => Ending.returned (.int .i64 z)) HL.out.symm,rfl⟩
    · rw [if_neg h2] at hlg
      have h3 : (x.toList == y.toList) = false := beq_eq_false_iff_ne.2 h2
      have HL := Lib.hid hlg
      clear hlg h2
      go_enter Tryz.func135,Tryz.ntmps135
      go_wp2_with (first | (go_at_call 142;refine (isNaN_any _ _).mono ?_;rintro e w' ⟨rfl,rfl⟩))
      go_ret
      exact ⟨congrArg (fun z => Ending.returned (.int .i64 z)) HL.out.symm,rfl⟩
theorem named1_any (x y : ByteArray) (n : Int) (w : World) : Calls Tryz.prog 134 #[.agg #[.string x,.int .i32 n],.string y] w fun e w' => e = .returned (.int .i64 (cmpT x.toList y.toList)) ∧ Below w.heap.size w w' := by
  have HC := Lib.hid (compare_any x y)
  go_enter Tryz.func134,Tryz.ntmps134
  go_wp2_with (first | (go_at_call 135;refine (HC.out _).mono ?_;rintro e w' ⟨rfl,rfl⟩))
  go_ret
  exact ⟨rfl,(Below.refl _ _).alloc (Nat.le_refl _) _⟩
/-- The name at a place. -/
def enm (k : Nat) : List UInt8 := (entL.getD k ([],0)).1
def enn (k : Nat) : Int := (((entL.getD k ([],0)).2 : Nat) : Int)
/-- The binary search: rounds, from, to. -/
def bsr (t : List UInt8) : Nat → Nat → Nat → Nat
  | 0,i,_ => i
  | f + 1,i,j => if i < j then if cmpT (enm ((i + j) / 2)) t < 0 then bsr t f ((i + j) / 2 + 1) j else bsr t f i ((i + j) / 2) else i
theorem bsr_end (t : List UInt8) (f i j : Nat) (h : ¬ i < j) : bsr t f i j = i := by
  cases f with
  | zero => rfl
  | succ f => rw [bsr,if_neg h]
/-- The table lies in a block. -/
def EntAt (b : Nat) (w : World) : Prop := ∀ k,k < 183 → w.cell? ⟨b,k * 2,none⟩ = some (.string (B (enm k))) ∧ w.cell? ⟨b,k * 2 + 1,none⟩ = some (.int .i32 (enn k))
theorem EntAt.go {b : Nat} {w w' : World} (h : EntAt b w) (hb : Below w.heap.size w w') (hlt : b < w.heap.size) : EntAt b w' := fun k hk =>
  ⟨(hb.cell (p := ⟨b,k * 2,none⟩) hlt).trans (h k hk).1,(hb.cell (p := ⟨b,k * 2 + 1,none⟩) hlt).trans (h k hk).2⟩
set_option maxHeartbeats 4000000 in
set_option maxRecDepth 100000 in
theorem bsearch_any (b : Nat) (t : List UInt8) (w : World) (hE : EntAt b w) (hb : b < w.heap.size) :
    Calls Tryz.prog 133 #[.slice (some ⟨b,0,none⟩) 183 183,.string (B t),.func (.func 134) #[] #[]] w fun e w' =>
      e = .returned (.tuple #[.int .i64 ((bsr t 183 0 183 : Nat) : Int),.bool (decide (bsr t 183 0 183 < 183 ∧ enm (bsr t 183 0 183) = t))]) ∧ Below w.heap.size w w' := by
  obtain ⟨R,hR⟩ : ∃ R,bsr t 183 0 183 = R := ⟨_,rfl⟩
  rw [hR]
  have HR := Lib.hid hR
  have HE := Lib.hid hE
  clear hR hE
  go_enter Tryz.func133,Tryz.ntmps133
  go_wp2
  go_loopw [9,10] (fun vi vj wr => ∃ (f i j : Nat),vi = .int .i64 i ∧ vj = .int .i64 j ∧ i ≤ j ∧ j ≤ 183 ∧ Hid (j - i ≤ f ∧ bsr t f i j = R) ∧ Hid (Below w.heap.size w wr))
    (fun vi vj _ => (intOf vj).toNat - (intOf vi).toNat)
  case atStart => exact ⟨183,0,183,rfl,rfl,by omega,by omega,⟨by omega,HR.out⟩,Below.refl _ _⟩
  case round =>
    obtain ⟨f,i,j,rfl,rfl,hij,hj,HF,HB⟩ := hrel
    by_cases hlt : i < j
    · obtain ⟨hf,hr⟩ := HF.out
      clear HF
      have hEk := (HE.out.go HB.out hb) ((i + j) / 2) (by omega)
      have hsz := HB.out.size
      go_wp2_with fail
      refine (named1_any _ _ _ wr).mono ?_
      rintro e w2 ⟨rfl,hb2⟩
      rw [B_toList,B_toList]
      have HB2 := Lib.hid (HB.out.trans (hb2.mono hsz))
      obtain ⟨f,rfl⟩ : ∃ g,f = g + 1 := ⟨f - 1,by omega⟩
      rw [bsr,if_pos hlt] at hr
      obtain ⟨c,hc⟩ : ∃ c,cmpT (enm ((i + j) / 2)) t = c := ⟨_,rfl⟩
      rw [hc] at hr ⊢
      clear hEk hsz hb2 HB HE hc
      by_cases hc0 : c < 0
      · rw [if_pos hc0] at hr
        have HR2 := Lib.hid hr
        clear hr
        go_wp2
        go_roundw
        case rel => exact ⟨f,(i + j) / 2 + 1,j,by first | rfl | (congr 1;omega),rfl,by omega,hj,⟨by omega,HR2.out⟩,HB2⟩
        case measure => simp [intOf];omega
      · rw [if_neg hc0] at hr
        have HR2 := Lib.hid hr
        clear hr
        have hc1 : 0 ≤ c := by omega
        go_wp2
        go_roundw
        case rel => exact ⟨f,i,(i + j) / 2,rfl,by first | rfl | (congr 1;omega),by omega,by omega,⟨by omega,HR2.out⟩,HB2⟩
        case measure => simp [intOf];omega
    · obtain ⟨hf,hr⟩ := HF.out
      rw [bsr_end t f i j hlt] at hr
      obtain rfl : i = R := hr
      have hsz := HB.out.size
      clear HF HR
      by_cases h183 : i < 183
      · have hEk := (HE.out.go HB.out hb) i h183
        have hcz : cmpT (enm i) t = 0 ↔ enm i = t := by
          unfold cmpT
          constructor
          · intro h
            split at h
            · cases h
            · split at h
              · assumption
              · cases h
          · intro h
            rw [h]
            have hn : ∀ l : List UInt8,Op.bytesLess l l = false := by
              intro l
              induction l with
              | nil => rfl
              | cons x l ih =>
                have hx : ¬ x < x := by
                  intro h
                  exact absurd (UInt8.lt_iff_toNat_lt.1 h) (Nat.lt_irrefl _)
                simp [Op.bytesLess,ih,hx]
            rw [hn,if_neg (by decide),if_pos rfl]
        have hdec : decide (i < 183 ∧ enm i = t) = decide (cmpT (enm i) t = 0) := by rw [decide_eq_decide,hcz];exact ⟨fun h => h.2,fun h => ⟨h183,h⟩⟩
        have HDEC := Lib.hid hdec
        clear hdec hcz
        have hd1 : decide (i < 183) = true := decide_eq_true h183
        go_wp2_with fail
        refine (named1_any _ _ _ wr).mono ?_
        rintro e w2 ⟨rfl,hb2⟩
        rw [B_toList,B_toList]
        obtain ⟨c,hc⟩ : ∃ c,cmpT (enm i) t = c := ⟨_,rfl⟩
        rw [hc] at HDEC ⊢
        have HB2 := Lib.hid (HB.out.trans (hb2.mono hsz))
        clear hEk hsz hb2 HB HE hc hd1
        cases hcd : decide (c = 0) with
        | true =>
          rw [hcd] at HDEC
          have hceq : (c == 0) = true := beq_iff_eq.2 (of_decide_eq_true hcd)
          clear hcd
          go_wp2
          go_ret2
          exact ⟨congrArg (fun z => Ending.returned (.tuple #[.int .i64 ((i : Nat) : Int),.bool z])) HDEC.out.symm,HB2.out⟩
        | false =>
          rw [hcd] at HDEC
          have hceq : (c == 0) = false := beq_eq_false_iff_ne.2 (of_decide_eq_false hcd)
          clear hcd
          go_wp2
          go_ret2
          exact ⟨congrArg (fun z => Ending.returned (.tuple #[.int .i64 ((i : Nat) : Int),.bool z])) HDEC.out.symm,HB2.out⟩
      · have hdec : decide (i < 183 ∧ enm i = t) = false := decide_eq_false (fun h => h183 h.1)
        have HDEC := Lib.hid hdec
        have hge : 183 ≤ i := by omega
        clear hdec HE
        have hd1 : decide (i < 183) = false := decide_eq_false h183
        go_wp2
        go_ret2
        exact ⟨by first | exact congrArg (fun z => Ending.returned (.tuple #[.int .i64 ((i : Nat) : Int),.bool z])) HDEC.out.symm | rfl | simp,HB.out⟩
end Go.Proofs.YtekifcbokdidlaaGreatDoor.PA

namespace Go.Proofs.YtekifcbokdidlaaGreatDoor.PA
open Go.RowKit Go.Proofs.YtekifcbokdidlaaGreatDoor.Pl Go.Proofs.YtekifcbokdidlaaGreatDoorW.PrintWords Go.Proofs.YtekifcbokdidlaaGreatDoorW.PrintLast Go.Proofs.YtekifcbokdidlaaGreatDoorW.PrintMore
set_option linter.unusedVariables false

theorem flat2 {α β : Type} (f g : α → β) : ∀ (l : List α) (k : Nat),(l.flatMap fun e => [f e,g e])[k * 2]? = (l[k]?).map f ∧ (l.flatMap fun e => [f e,g e])[k * 2 + 1]? = (l[k]?).map g
  | [],k => by simp
  | x :: l,0 => by simp
  | x :: l,k + 1 => by
    have ih := flat2 f g l k
    rw [show (k + 1) * 2 = k * 2 + 2 by omega,show k * 2 + 2 + 1 = (k * 2 + 1) + 2 by omega]
    simp only [List.flatMap_cons,List.cons_append,List.nil_append,List.getElem?_cons_succ]
    exact ih
theorem ent_at {b : Nat} {w : World} {t : TypeId} {fr : Nat × Nat} (h : w.heap[b]? = some (.cells entCells t fr)) : EntAt b w := by
  intro k hk
  have hl : k < entL.length := by rw [entL_len];exact hk
  have h2 := flat2 (fun e : List UInt8 × Nat => Value.string (B e.1)) (fun e => Value.int .i32 (e.2 : Int)) entL k
  rw [List.getElem?_eq_getElem hl] at h2
  have e1 : enm k = entL[k].1 := by unfold enm;rw [List.getD_eq_getElem?_getD,List.getElem?_eq_getElem hl];rfl
  have e2 : enn k = ((entL[k].2 : Nat) : Int) := by unfold enn;rw [List.getD_eq_getElem?_getD,List.getElem?_eq_getElem hl];rfl
  rw [e1,e2]
  constructor
  · rw [cell_of_row w b _ entCells t fr h]
    unfold entCells
    rw [List.getElem?_toArray]
    exact h2.1
  · rw [cell_of_row w b _ entCells t fr h]
    unfold entCells
    rw [List.getElem?_toArray]
    exact h2.2
theorem ret_sb {a a' : ByteArray} {b b' : Bool} (h1 : a' = a) (h2 : b' = b) : Ending.returned (.tuple #[.string a,.bool b]) = Ending.returned (.tuple #[.string a',.bool b']) := by rw [h1,h2]
/-- The character of a name. -/
def nmd (t : List UInt8) : ByteArray × Bool := if bsr t 183 0 183 < 183 ∧ enm (bsr t 183 0 183) = t then (Go.Utf8.encode (enn (bsr t 183 0 183)),true) else (⟨#[]⟩,false)
set_option maxHeartbeats 4000000 in
set_option maxRecDepth 100000 in
theorem named_walk (t : List UInt8) (w : World) : Calls Tryz.prog 118 #[.string (B t)] w fun e w' => e = .returned (.tuple #[.string (nmd t).1,.bool (nmd t).2]) ∧ Below w.heap.size w w' := by
  have HT := Lib.hid (table_walk w)
  obtain ⟨⟨q1,q2⟩,hq⟩ : ∃ q,nmd t = q := ⟨_,rfl⟩
  rw [hq]
  have HQ := Lib.hid hq
  clear hq
  go_enter Tryz.func118,Tryz.ntmps118
  go_wp2_with fail
  refine HT.out.mono ?_
  rintro e w1 ⟨rfl,hb1⟩
  have hg := setRow_heap (w1.alloc (.cells Tryz.zeroCells134 134)) w1.heap.size Tryz.zeroCells134 entCells 134 (0,0) (World.alloc_heap_new w1 _)
  have hB := hb1.trans (below_setRow ((Below.refl _ w1).alloc (Nat.le_refl _) (.cells Tryz.zeroCells134 134)) (Nat.le_refl _) entCells |>.mono hb1.size)
  have hz : ((w1.alloc (.cells Tryz.zeroCells134 134)).setRow w1.heap.size entCells).heap.size = w1.heap.size + 1 := by rw [setRow_size,World.size_alloc]
  go_wp2_with (refine wpList_store_row rfl _ _ _ rfl w1.heap.size entCells rfl rfl 134 Tryz.zeroCells134 (World.alloc_heap_new w1 _) (tab_info.trans (congrArg some tab_len.symm)) (tab_zero.trans tab_len.symm) tab_one ?_;generalize ((w1.alloc (.cells Tryz.zeroCells134 134)).setRow w1.heap.size entCells) = W2 at hg hB hz ⊢)
  refine (bsearch_any w1.heap.size t W2 (ent_at hg) (by omega)).mono ?_
  rintro e w3 ⟨rfl,hb3⟩
  have hE3 := (ent_at hg).go hb3 (by omega)
  have HB := Lib.hid (hB.trans (hb3.mono hB.size))
  have hnm : (q1,q2) = if bsr t 183 0 183 < 183 ∧ enm (bsr t 183 0 183) = t then (Go.Utf8.encode (enn (bsr t 183 0 183)),true) else (⟨#[]⟩,false) := HQ.out.symm
  clear hg hB hb3 hz hb1
  generalize bsr t 183 0 183 = R at hnm ⊢
  by_cases hc : R < 183 ∧ enm R = t
  · rw [if_pos hc] at hnm
    rw [decide_eq_true hc]
    have HN := Lib.hid (Prod.mk.inj hnm)
    have hEk := hE3 R hc.1
    have h183 := hc.1
    have hd1 : decide (R < 183) = true := decide_eq_true hc.1
    clear hnm hc hE3
    go_wp2
    go_ret2
    exact ⟨ret_sb HN.out.1 HN.out.2,HB.out⟩
  · rw [if_neg hc] at hnm
    rw [decide_eq_false hc]
    have HN := Lib.hid (Prod.mk.inj hnm)
    clear hnm hc hE3
    go_wp2
    go_ret2
    exact ⟨ret_sb HN.out.1 HN.out.2,HB.out⟩
end Go.Proofs.YtekifcbokdidlaaGreatDoor.PA

namespace Go.Proofs.YtekifcbokdidlaaGreatDoor.PA
open Go.RowKit Go.Proofs.YtekifcbokdidlaaGreatDoor.Pl Go.Proofs.YtekifcbokdidlaaGreatDoorW.PrintWords Go.Proofs.YtekifcbokdidlaaGreatDoorW.PrintLast Go.Proofs.YtekifcbokdidlaaGreatDoorW.PrintMore
set_option linter.unusedVariables false

/-- A digit; a digit of sixteen. -/
def dg (x : UInt8) : Bool := decide (48 ≤ x.toNat ∧ x.toNat ≤ 57)
def hxd (x : UInt8) : Bool := decide (dOk 16 x)
theorem digit_any (x : UInt8) (w : World) : Calls Tryz.prog 121 #[.int .u8 (x.toNat : Int)] w fun e w' => e = .returned (.bool (dg x)) ∧ w = w' := by
  by_cases h1 : 48 ≤ x.toNat
  · by_cases h2 : x.toNat ≤ 57
    · have HD := Lib.hid (show dg x = true from decide_eq_true ⟨h1,h2⟩)
      have q1 : decide ((x.toNat : Int) ≤ 57) = true := decide_eq_true (by omega)
      go_enter Tryz.func121,Tryz.ntmps121
      go_wp2
      go_ret
      exact ⟨congrArg (fun z => Ending.returned (.bool z)) HD.out.symm,rfl⟩
    · have HD := Lib.hid (show dg x = false from decide_eq_false (fun h => h2 h.2))
      have h3 : 57 < x.toNat := by omega
      have q1 : decide ((x.toNat : Int) ≤ 57) = false := decide_eq_false (by omega)
      go_enter Tryz.func121,Tryz.ntmps121
      go_wp2
      go_ret
      exact ⟨congrArg (fun z => Ending.returned (.bool z)) HD.out.symm,rfl⟩
  · have HD := Lib.hid (show dg x = false from decide_eq_false (fun h => h1 h.1))
    have h3 : x.toNat < 48 := by omega
    go_enter Tryz.func121,Tryz.ntmps121
    go_wp2
    go_ret
    exact ⟨congrArg (fun z => Ending.returned (.bool z)) HD.out.symm,rfl⟩
theorem hexd_any (x : UInt8) (w : World) : Calls Tryz.prog 120 #[.int .u8 (x.toNat : Int)] w fun e w' => e = .returned (.bool (hxd x)) ∧ w = w' := by
  have hdg := digit_any x
  have h32 := or32 x
  cases hd : dg x with
  | true =>
    have HD := Lib.hid (show hxd x = true from decide_eq_true (.inl (of_decide_eq_true hd)))
    rw [hd] at hdg
    have HG := Lib.hid hdg
    clear hdg hd
    go_enter Tryz.func120,Tryz.ntmps120
    go_wp2_with (first | (go_at_call 121;refine (HG.out _).mono ?_;rintro e w' ⟨rfl,rfl⟩))
    go_ret
    exact ⟨congrArg (fun z => Ending.returned (.bool z)) HD.out.symm,rfl⟩
  | false =>
    have hnd := of_decide_eq_false hd
    rw [hd] at hdg
    have HG := Lib.hid hdg
    have hhx : hxd x = decide (97 ≤ (x.toNat ||| 32) ∧ (x.toNat ||| 32) ≤ 102) := by
      unfold hxd
      rw [decide_eq_decide]
      exact ⟨fun h => h.elim (fun h => absurd h hnd) (fun h => h.2),fun h => .inr ⟨rfl,h⟩⟩
    clear hdg hd hnd
    generalize (x.toNat ||| 32) = m at *
    by_cases h1 : 97 ≤ m
    · by_cases h2 : m ≤ 102
      · rw [decide_eq_true ⟨h1,h2⟩] at hhx
        have HD := Lib.hid hhx
        have q1 : decide ((m : Int) ≤ 102) = true := decide_eq_true (by omega)
        clear hhx
        go_enter Tryz.func120,Tryz.ntmps120
        go_wp2_with (first | (go_at_call 121;refine (HG.out _).mono ?_;rintro e w' ⟨rfl,rfl⟩))
        go_ret
        exact ⟨congrArg (fun z => Ending.returned (.bool z)) HD.out.symm,rfl⟩
      · rw [decide_eq_false (fun h => h2 h.2)] at hhx
        have HD := Lib.hid hhx
        have h3 : 102 < m := by omega
        have q1 : decide ((m : Int) ≤ 102) = false := decide_eq_false (by omega)
        clear hhx h2
        go_enter Tryz.func120,Tryz.ntmps120
        go_wp2_with (first | (go_at_call 121;refine (HG.out _).mono ?_;rintro e w' ⟨rfl,rfl⟩))
        go_ret
        exact ⟨congrArg (fun z => Ending.returned (.bool z)) HD.out.symm,rfl⟩
    · rw [decide_eq_false (fun h => h1 h.1)] at hhx
      have HD := Lib.hid hhx
      have h3 : m < 97 := by omega
      clear hhx h1
      go_enter Tryz.func120,Tryz.ntmps120
      go_wp2_with (first | (go_at_call 121;refine (HG.out _).mono ?_;rintro e w' ⟨rfl,rfl⟩))
      go_ret
      exact ⟨congrArg (fun z => Ending.returned (.bool z)) HD.out.symm,rfl⟩
/-- The character of a number in digits. -/
def fixr (n : Nat) : Int := if n = 0 ∨ Lib.validRune (n : Int) = false then 65533 else (n : Int)
def chr (b most : Nat) (ok : UInt8 → Bool) (s : List UInt8) : ByteArray × Bool := if s = [] ∨ most < s.length ∨ s.all ok = false then (⟨#[]⟩,false) else (Go.Utf8.encode (fixr (num b s)),true)
set_option maxHeartbeats 4000000 in
set_option maxRecDepth 100000 in
theorem all10 (s : List UInt8) (hs : s.length ≤ 1099511627776) (w : World) : Calls Tryz.prog 136 #[.string (B s),.func (.func 121) #[] #[]] w fun e w' => e = .returned (.bool (s.all dg)) ∧ w = w' := by
  have hsz : (B s).size = s.length := B_size s
  go_enter Tryz.func136,Tryz.ntmps136
  go_wp2
  go_loop [8] (fun vi => ∃ k : Nat,vi = .int .i64 k ∧ k ≤ s.length ∧ Hid ((s.take k).all dg = true))
    (fun vi => s.length - (intOf vi).toNat)
  case atStart => exact ⟨0,rfl,by omega,by rw [List.take_zero];rfl⟩
  case round =>
    obtain ⟨k,rfl,hk,HA⟩ := hrel
    by_cases hkn : k < s.length
    · have hks : k < (B s).size := by omega
      have hi : (B s)[k]'hks = s[k] := List.getElem_toArray hkn
      have hall : (s.take (k + 1)).all dg = dg s[k] := by rw [← List.take_append_getElem hkn,List.all_append,HA.out,Bool.true_and,List.all_cons,List.all_nil,Bool.and_true];rfl
      cases hok : dg s[k] with
      | true =>
        have HN := Lib.hid (show (s.take (k + 1)).all dg = true by rw [hall,hok])
        have HP := Lib.hid (show ∀ w,Calls Tryz.prog 121 #[.int .u8 (((B s)[k]'hks).toNat : Int)] w fun e w' => e = .returned (.bool true) ∧ w = w' by rw [hi];intro w;have := digit_any s[k] w;rw [hok] at this;exact this)
        clear hi hall hok HA
        go_wp2_with (first | (go_at_call 121;refine (HP.out _).mono ?_;rintro e w' ⟨rfl,rfl⟩))
        go_round
        case rel => exact ⟨k + 1,by go_num,by omega,HN⟩
        case measure => simp [intOf];omega
      | false =>
        have HN := Lib.hid (show s.all dg = false by
          rw [← Bool.not_eq_true]
          intro h
          have := List.all_eq_true.1 h _ (List.getElem_mem hkn)
          exact absurd (this.symm.trans hok) (by decide))
        have HP := Lib.hid (show ∀ w,Calls Tryz.prog 121 #[.int .u8 (((B s)[k]'hks).toNat : Int)] w fun e w' => e = .returned (.bool false) ∧ w = w' by rw [hi];intro w;have := digit_any s[k] w;rw [hok] at this;exact this)
        clear hi hall hok HA
        go_wp2_with (first | (go_at_call 121;refine (HP.out _).mono ?_;rintro e w' ⟨rfl,rfl⟩))
        go_ret
        exact ⟨congrArg (fun z => Ending.returned (.bool z)) HN.out.symm,rfl⟩
    · have HN := Lib.hid (show s.all dg = true by rw [← HA.out,List.take_of_length_le (by omega)])
      have hkb : decide (k < (B s).size) = false := decide_eq_false (by omega)
      clear HA
      go_wp2
      go_ret
      exact ⟨congrArg (fun z => Ending.returned (.bool z)) HN.out.symm,rfl⟩
set_option maxHeartbeats 4000000 in
set_option maxRecDepth 100000 in
theorem chr10 (s : List UInt8) (hs : s.length ≤ 1099511627776) (w : World) : Calls Tryz.prog 119 #[.string (B s),.int .i64 10,.int .i64 7,.func (.func 121) #[] #[]] w fun e w' => e = .returned (.tuple #[.string (chr 10 7 dg s).1,.bool (chr 10 7 dg s).2]) ∧ Below w.heap.size w w' := by
  have hsz : (B s).size = s.length := B_size s
  obtain ⟨⟨q1,q2⟩,hq⟩ : ∃ q,chr 10 7 dg s = q := ⟨_,rfl⟩
  rw [hq]
  unfold chr at hq
  by_cases h0 : s = []
  · rw [if_pos (.inl h0)] at hq
    have HQ := Lib.hid (Prod.mk.inj hq)
    subst h0
    have hemp : (B []).toList = [] := B_toList []
    have hem2 : (B []).toList.isEmpty = true := by rw [hemp];rfl
    clear hq
    go_enter Tryz.func119,Tryz.ntmps119
    go_wp2
    go_ret2
    exact ⟨ret_sb HQ.out.1.symm HQ.out.2.symm,Below.refl _ _⟩
  · have hemp : (B s).toList.isEmpty = false := by
      rw [B_toList]
      cases s with
      | nil => exact absurd rfl h0
      | cons _ _ => rfl
    by_cases h1 : 7 < s.length
    · rw [if_pos (.inr (.inl h1))] at hq
      have HQ := Lib.hid (Prod.mk.inj hq)
      have h2 : 7 < (B s).size := by omega
      clear hq h0
      go_enter Tryz.func119,Tryz.ntmps119
      go_wp2
      go_ret2
      exact ⟨ret_sb HQ.out.1.symm HQ.out.2.symm,Below.refl _ _⟩
    · have h2 : (B s).size ≤ 7 := by omega
      have hall := all10 s hs
      cases ha : s.all dg with
      | false =>
        rw [if_pos (.inr (.inr ha))] at hq
        have HQ := Lib.hid (Prod.mk.inj hq)
        rw [ha] at hall
        have HA := Lib.hid hall
        clear hq hall ha h0 h1
        go_enter Tryz.func119,Tryz.ntmps119
        go_wp2_with (first | (go_at_call 136;refine (HA.out _).mono ?_;rintro e w' ⟨rfl,rfl⟩))
        go_ret2
        exact ⟨ret_sb HQ.out.1.symm HQ.out.2.symm,Below.refl _ _⟩
      | true =>
        rw [if_neg (by rintro (h | h | h);exact h0 h;exact h1 h;rw [ha] at h;cases h)] at hq
        rw [ha] at hall
        have HA := Lib.hid hall
        have hdk : ∀ x ∈ s,dOk 10 x := fun x hx => (show dg x = true → dOk 10 x from fun h => .inl (of_decide_eq_true h)) (List.all_eq_true.1 ha x hx)
        have HP := Lib.hid (parseInt10 s h0 (by omega) hdk)
        have hlt := num_lt 10 (by decide) s.length s rfl hdk
        have h16 : (16 : Nat) ^ s.length ≤ 16 ^ 7 := Nat.pow_le_pow_right (by decide) (by omega)
        obtain ⟨nn,hnn⟩ : ∃ nn : Nat,num 10 s = nn := ⟨_,rfl⟩
        rw [hnn] at HP hq hlt
        have n1 : nn ≤ 268435455 := by omega
        clear hall ha h0 h1 hdk hlt h16 hnn
        by_cases hz : nn = 0
        · rw [show fixr nn = 65533 from if_pos (.inl hz)] at hq
          have HQ := Lib.hid (Prod.mk.inj hq)
          clear hq
          subst hz
          go_enter Tryz.func119,Tryz.ntmps119
          go_wp2_with (first | (go_at_call 136;refine (HA.out _).mono ?_;rintro e w' ⟨rfl,rfl⟩) | (go_at_call 137;refine (HP.out _).mono ?_;rintro e w' ⟨rfl,hb⟩;have HB := Lib.hid hb;clear hb))
          go_ret2
          exact ⟨ret_sb HQ.out.1.symm HQ.out.2.symm,HB.out⟩
        · have hzb : ((nn : Int) == 0) = false := beq_eq_false_iff_ne.2 (by omega)
          have n0 : 0 < nn := by omega
          cases hv : Lib.validRune (nn : Int) with
          | true =>
            rw [show fixr nn = (nn : Int) from if_neg (by rintro (h | h);exact hz h;rw [hv] at h;cases h)] at hq
            have HQ := Lib.hid (Prod.mk.inj hq)
            have HV := Lib.hid (show ∀ w,Calls Tryz.prog 138 #[.int .i32 (nn : Int)] w fun e w' => e = .returned (.bool true) ∧ w' = w from fun w => by have := Tryz.utf8_ValidRune (nn : Int) w;rw [hv] at this;exact this)
            clear hq hv hz
            go_enter Tryz.func119,Tryz.ntmps119
            go_wp2_with (first | (go_at_call 136;refine (HA.out _).mono ?_;rintro e w' ⟨rfl,rfl⟩) | (go_at_call 137;refine (HP.out _).mono ?_;rintro e w' ⟨rfl,hb⟩;have HB := Lib.hid hb;clear hb) | (go_at_call 138;refine (HV.out _).mono ?_;rintro e w' ⟨rfl,rfl⟩))
            go_ret2
            exact ⟨ret_sb HQ.out.1.symm HQ.out.2.symm,HB.out⟩
          | false =>
            rw [show fixr nn = 65533 from if_pos (.inr hv)] at hq
            have HQ := Lib.hid (Prod.mk.inj hq)
            have HV := Lib.hid (show ∀ w,Calls Tryz.prog 138 #[.int .i32 (nn : Int)] w fun e w' => e = .returned (.bool false) ∧ w' = w from fun w => by have := Tryz.utf8_ValidRune (nn : Int) w;rw [hv] at this;exact this)
            clear hq hv hz
            go_enter Tryz.func119,Tryz.ntmps119
            go_wp2_with (first | (go_at_call 136;refine (HA.out _).mono ?_;rintro e w' ⟨rfl,rfl⟩) | (go_at_call 137;refine (HP.out _).mono ?_;rintro e w' ⟨rfl,hb⟩;have HB := Lib.hid hb;clear hb) | (go_at_call 138;refine (HV.out _).mono ?_;rintro e w' ⟨rfl,rfl⟩))
            go_ret2
            exact ⟨ret_sb HQ.out.1.symm HQ.out.2.symm,HB.out⟩
set_option maxHeartbeats 4000000 in
set_option maxRecDepth 100000 in
theorem all16 (s : List UInt8) (hs : s.length ≤ 1099511627776) (w : World) : Calls Tryz.prog 136 #[.string (B s),.func (.func 120) #[] #[]] w fun e w' => e = .returned (.bool (s.all hxd)) ∧ w = w' := by
  have hsz : (B s).size = s.length := B_size s
  go_enter Tryz.func136,Tryz.ntmps136
  go_wp2
  go_loop [8] (fun vi => ∃ k : Nat,vi = .int .i64 k ∧ k ≤ s.length ∧ Hid ((s.take k).all hxd = true))
    (fun vi => s.length - (intOf vi).toNat)
  case atStart => exact ⟨0,rfl,by omega,by rw [List.take_zero];rfl⟩
  case round =>
    obtain ⟨k,rfl,hk,HA⟩ := hrel
    by_cases hkn : k < s.length
    · have hks : k < (B s).size := by omega
      have hi : (B s)[k]'hks = s[k] := List.getElem_toArray hkn
      have hall : (s.take (k + 1)).all hxd = hxd s[k] := by rw [← List.take_append_getElem hkn,List.all_append,HA.out,Bool.true_and,List.all_cons,List.all_nil,Bool.and_true];rfl
      cases hok : hxd s[k] with
      | true =>
        have HN := Lib.hid (show (s.take (k + 1)).all hxd = true by rw [hall,hok])
        have HP := Lib.hid (show ∀ w,Calls Tryz.prog 120 #[.int .u8 (((B s)[k]'hks).toNat : Int)] w fun e w' => e = .returned (.bool true) ∧ w = w' by rw [hi];intro w;have := hexd_any s[k] w;rw [hok] at this;exact this)
        clear hi hall hok HA
        go_wp2_with (first | (go_at_call 120;refine (HP.out _).mono ?_;rintro e w' ⟨rfl,rfl⟩))
        go_round
        case rel => exact ⟨k + 1,by go_num,by omega,HN⟩
        case measure => simp [intOf];omega
      | false =>
        have HN := Lib.hid (show s.all hxd = false by
          rw [← Bool.not_eq_true]
          intro h
          have := List.all_eq_true.1 h _ (List.getElem_mem hkn)
          exact absurd (this.symm.trans hok) (by decide))
        have HP := Lib.hid (show ∀ w,Calls Tryz.prog 120 #[.int .u8 (((B s)[k]'hks).toNat : Int)] w fun e w' => e = .returned (.bool false) ∧ w = w' by rw [hi];intro w;have := hexd_any s[k] w;rw [hok] at this;exact this)
        clear hi hall hok HA
        go_wp2_with (first | (go_at_call 120;refine (HP.out _).mono ?_;rintro e w' ⟨rfl,rfl⟩))
        go_ret
        exact ⟨congrArg (fun z => Ending.returned (.bool z)) HN.out.symm,rfl⟩
    · have HN := Lib.hid (show s.all hxd = true by rw [← HA.out,List.take_of_length_le (by omega)])
      have hkb : decide (k < (B s).size) = false := decide_eq_false (by omega)
      clear HA
      go_wp2
      go_ret
      exact ⟨congrArg (fun z => Ending.returned (.bool z)) HN.out.symm,rfl⟩
set_option maxHeartbeats 4000000 in
set_option maxRecDepth 100000 in
theorem chr16 (s : List UInt8) (hs : s.length ≤ 1099511627776) (w : World) : Calls Tryz.prog 119 #[.string (B s),.int .i64 16,.int .i64 6,.func (.func 120) #[] #[]] w fun e w' => e = .returned (.tuple #[.string (chr 16 6 hxd s).1,.bool (chr 16 6 hxd s).2]) ∧ Below w.heap.size w w' := by
  have hsz : (B s).size = s.length := B_size s
  obtain ⟨⟨q1,q2⟩,hq⟩ : ∃ q,chr 16 6 hxd s = q := ⟨_,rfl⟩
  rw [hq]
  unfold chr at hq
  by_cases h0 : s = []
  · rw [if_pos (.inl h0)] at hq
    have HQ := Lib.hid (Prod.mk.inj hq)
    subst h0
    have hemp : (B []).toList = [] := B_toList []
    have hem2 : (B []).toList.isEmpty = true := by rw [hemp];rfl
    clear hq
    go_enter Tryz.func119,Tryz.ntmps119
    go_wp2
    go_ret2
    exact ⟨ret_sb HQ.out.1.symm HQ.out.2.symm,Below.refl _ _⟩
  · have hemp : (B s).toList.isEmpty = false := by
      rw [B_toList]
      cases s with
      | nil => exact absurd rfl h0
      | cons _ _ => rfl
    by_cases h1 : 6 < s.length
    · rw [if_pos (.inr (.inl h1))] at hq
      have HQ := Lib.hid (Prod.mk.inj hq)
      have h2 : 6 < (B s).size := by omega
      clear hq h0
      go_enter Tryz.func119,Tryz.ntmps119
      go_wp2
      go_ret2
      exact ⟨ret_sb HQ.out.1.symm HQ.out.2.symm,Below.refl _ _⟩
    · have h2 : (B s).size ≤ 6 := by omega
      have hall := all16 s hs
      cases ha : s.all hxd with
      | false =>
        rw [if_pos (.inr (.inr ha))] at hq
        have HQ := Lib.hid (Prod.mk.inj hq)
        rw [ha] at hall
        have HA := Lib.hid hall
        clear hq hall ha h0 h1
        go_enter Tryz.func119,Tryz.ntmps119
        go_wp2_with (first | (go_at_call 136;refine (HA.out _).mono ?_;rintro e w' ⟨rfl,rfl⟩))
        go_ret2
        exact ⟨ret_sb HQ.out.1.symm HQ.out.2.symm,Below.refl _ _⟩
      | true =>
        rw [if_neg (by rintro (h | h | h);exact h0 h;exact h1 h;rw [ha] at h;cases h)] at hq
        rw [ha] at hall
        have HA := Lib.hid hall
        have hdk : ∀ x ∈ s,dOk 16 x := fun x hx => (show hxd x = true → dOk 16 x from fun h => of_decide_eq_true h) (List.all_eq_true.1 ha x hx)
        have HP := Lib.hid (parseInt16 s h0 (by omega) hdk)
        have hlt := num_lt 16 (by decide) s.length s rfl hdk
        have h16 : (16 : Nat) ^ s.length ≤ 16 ^ 7 := Nat.pow_le_pow_right (by decide) (by omega)
        obtain ⟨nn,hnn⟩ : ∃ nn : Nat,num 16 s = nn := ⟨_,rfl⟩
        rw [hnn] at HP hq hlt
        have n1 : nn ≤ 268435455 := by omega
        clear hall ha h0 h1 hdk hlt h16 hnn
        by_cases hz : nn = 0
        · rw [show fixr nn = 65533 from if_pos (.inl hz)] at hq
          have HQ := Lib.hid (Prod.mk.inj hq)
          clear hq
          subst hz
          go_enter Tryz.func119,Tryz.ntmps119
          go_wp2_with (first | (go_at_call 136;refine (HA.out _).mono ?_;rintro e w' ⟨rfl,rfl⟩) | (go_at_call 137;refine (HP.out _).mono ?_;rintro e w' ⟨rfl,hb⟩;have HB := Lib.hid hb;clear hb))
          go_ret2
          exact ⟨ret_sb HQ.out.1.symm HQ.out.2.symm,HB.out⟩
        · have hzb : ((nn : Int) == 0) = false := beq_eq_false_iff_ne.2 (by omega)
          have n0 : 0 < nn := by omega
          cases hv : Lib.validRune (nn : Int) with
          | true =>
            rw [show fixr nn = (nn : Int) from if_neg (by rintro (h | h);exact hz h;rw [hv] at h;cases h)] at hq
            have HQ := Lib.hid (Prod.mk.inj hq)
            have HV := Lib.hid (show ∀ w,Calls Tryz.prog 138 #[.int .i32 (nn : Int)] w fun e w' => e = .returned (.bool true) ∧ w' = w from fun w => by have := Tryz.utf8_ValidRune (nn : Int) w;rw [hv] at this;exact this)
            clear hq hv hz
            go_enter Tryz.func119,Tryz.ntmps119
            go_wp2_with (first | (go_at_call 136;refine (HA.out _).mono ?_;rintro e w' ⟨rfl,rfl⟩) | (go_at_call 137;refine (HP.out _).mono ?_;rintro e w' ⟨rfl,hb⟩;have HB := Lib.hid hb;clear hb) | (go_at_call 138;refine (HV.out _).mono ?_;rintro e w' ⟨rfl,rfl⟩))
            go_ret2
            exact ⟨ret_sb HQ.out.1.symm HQ.out.2.symm,HB.out⟩
          | false =>
            rw [show fixr nn = 65533 from if_pos (.inr hv)] at hq
            have HQ := Lib.hid (Prod.mk.inj hq)
            have HV := Lib.hid (show ∀ w,Calls Tryz.prog 138 #[.int .i32 (nn : Int)] w fun e w' => e = .returned (.bool false) ∧ w' = w from fun w => by have := Tryz.utf8_ValidRune (nn : Int) w;rw [hv] at this;exact this)
            clear hq hv hz
            go_enter Tryz.func119,Tryz.ntmps119
            go_wp2_with (first | (go_at_call 136;refine (HA.out _).mono ?_;rintro e w' ⟨rfl,rfl⟩) | (go_at_call 137;refine (HP.out _).mono ?_;rintro e w' ⟨rfl,hb⟩;have HB := Lib.hid hb;clear hb) | (go_at_call 138;refine (HV.out _).mono ?_;rintro e w' ⟨rfl,rfl⟩))
            go_ret2
            exact ⟨ret_sb HQ.out.1.symm HQ.out.2.symm,HB.out⟩
end Go.Proofs.YtekifcbokdidlaaGreatDoor.PA

namespace Go.Proofs.YtekifcbokdidlaaGreatDoor.PA
open Go.RowKit Go.Proofs.YtekifcbokdidlaaGreatDoor.Pl Go.Proofs.YtekifcbokdidlaaGreatDoorW.PrintWords Go.Proofs.YtekifcbokdidlaaGreatDoorW.PrintLast Go.Proofs.YtekifcbokdidlaaGreatDoorW.PrintMore
set_option linter.unusedVariables false

/-- The character of what stands between & and ;. -/
def bdy : List UInt8 → ByteArray × Bool
  | [] => nmd []
  | x :: d => if x = 35 then
      match d with
      | [] => chr 10 7 dg []
      | y :: t => if (y.toNat ||| 32) = 120 then chr 16 6 hxd t else chr 10 7 dg (y :: t)
    else nmd (x :: d)
theorem bdy_no (x : UInt8) (d : List UInt8) (h : x ≠ 35) : bdy (x :: d) = nmd (x :: d) := by simp [bdy,h]
theorem bdy_35 : bdy [35] = chr 10 7 dg [] := rfl
theorem bdy_two (y : UInt8) (t : List UInt8) : bdy (35 :: y :: t) = if (y.toNat ||| 32) = 120 then chr 16 6 hxd t else chr 10 7 dg (y :: t) := rfl
set_option maxHeartbeats 4000000 in
set_option maxRecDepth 100000 in
theorem body_walk (s : List UInt8) (hs : s.length ≤ 1099511627776) (w : World) : Calls Tryz.prog 99 #[.string (B s)] w fun e w' => e = .returned (.tuple #[.string (bdy s).1,.bool (bdy s).2]) ∧ Below w.heap.size w w' := by
  have hcp := Tryz.strings_CutPrefix (B s) ⟨#[35]⟩
  rw [B_data,show (⟨#[35]⟩ : ByteArray).data.toList = [35] from rfl] at hcp
  obtain ⟨⟨q1,q2⟩,hq⟩ : ∃ q,bdy s = q := ⟨_,rfl⟩
  rw [hq]
  have hplain : Lib.hasPrefix s [35] = false → bdy s = nmd s := by
    intro h
    cases s with
    | nil => rfl
    | cons x d =>
      have hx : x ≠ 35 := by
        intro e
        subst e
        simp [Lib.hasPrefix,List.isPrefixOf] at h
      exact bdy_no x d hx
  cases hp : Lib.hasPrefix s [35] with
  | false =>
    have hr := hplain hp
    rw [hq] at hr
    have ht : Lib.trimPrefix s [35] = s := by unfold Lib.trimPrefix;rw [hp];rfl
    rw [hp,ht] at hcp
    have HC := Lib.hid hcp
    have HN := Lib.hid (named_walk s)
    rw [← hr] at HN
    clear hcp hq hp hr ht hplain
    go_enter Tryz.func99,Tryz.ntmps99
    go_wp2_with (first | (go_at_call 27;refine (HC.out _).mono ?_;rintro e w' ⟨rfl,rfl⟩) | (go_at_call 118;refine (HN.out _).mono ?_;rintro e w' ⟨rfl,hb⟩;have HB := Lib.hid hb;clear hb))
    go_ret2
    exact ⟨rfl,HB.out⟩
  | true =>
    obtain ⟨d,rfl⟩ : ∃ d,s = 35 :: d := by
      cases s with
      | nil => cases hp
      | cons x d =>
        simp [Lib.hasPrefix,List.isPrefixOf] at hp
        exact ⟨d,by rw [hp]⟩
    have ht : Lib.trimPrefix (35 :: d) [35] = d := by unfold Lib.trimPrefix;rw [hp];rfl
    rw [hp,ht] at hcp
    have HC := Lib.hid (show ∀ w,Calls Tryz.prog 27 #[.string (B (35 :: d)),.string ⟨#[35]⟩] w fun e w' => e = .returned (.tuple #[.string (B d),.bool true]) ∧ w' = w from hcp)
    clear hcp hp ht hplain
    rw [List.length_cons] at hs
    generalize B (35 :: d) = S0 at HC ⊢
    cases d with
    | nil =>
      have hb := hq.symm.trans bdy_35
      clear hq
      have HN := Lib.hid (chr10 [] (by simp))
      rw [← hb] at HN
      have hemp : (B []).toList = [] := B_toList []
      have hem2 : (B []).toList.isEmpty = true := by rw [hemp];rfl
      clear hb
      go_enter Tryz.func99,Tryz.ntmps99
      go_wp2_with (first | (go_at_call 27;refine (HC.out _).mono ?_;rintro e w' ⟨rfl,rfl⟩) | (go_at_call 119;refine (HN.out _).mono ?_;rintro e w' ⟨rfl,hb⟩;have HB := Lib.hid hb;clear hb))
      go_ret2
      exact ⟨rfl,HB.out⟩
    | cons y t =>
      have hb := hq.symm.trans (bdy_two y t)
      clear hq
      have hemp : (B (y :: t)).toList.isEmpty = false := by rw [B_toList];rfl
      have hz : 0 < (B (y :: t)).size := by rw [B_size];simp
      have hz1 : 1 ≤ (B (y :: t)).size := hz
      have hi : (B (y :: t))[0]'hz = y := rfl
      have h32 := or32 y
      by_cases hxy : (y.toNat ||| 32) = 120
      · rw [if_pos hxy] at hb
        have HN := Lib.hid (chr16 t (by simp at hs;omega))
        rw [← hb] at HN
        have hex : (B (y :: t)).extract 1 (B (y :: t)).size = B t := B_from (y :: t) 1 _ (B_size _)
        have h120 : bits .or .u8 (((B (y :: t))[0]'hz).toNat : Int) 32 = 120 := by rw [hi,h32,hxy];rfl
        clear hb hi h32 hxy
        go_enter Tryz.func99,Tryz.ntmps99
        go_wp2_with (first | (go_at_call 27;refine (HC.out _).mono ?_;rintro e w' ⟨rfl,rfl⟩) | (go_at_call 119;refine (HN.out _).mono ?_;rintro e w' ⟨rfl,hb⟩;have HB := Lib.hid hb;clear hb))
        go_ret2
        exact ⟨rfl,HB.out⟩
      · rw [if_neg hxy] at hb
        have HN := Lib.hid (chr10 (y :: t) (by simp at hs ⊢;omega))
        rw [← hb] at HN
        have h120 : (bits .or .u8 (((B (y :: t))[0]'hz).toNat : Int) 32 == 120) = false := by rw [hi,h32];exact beq_eq_false_iff_ne.2 (by omega)
        clear hb hi h32 hxy
        go_enter Tryz.func99,Tryz.ntmps99
        go_wp2_with (first | (go_at_call 27;refine (HC.out _).mono ?_;rintro e w' ⟨rfl,rfl⟩) | (go_at_call 119;refine (HN.out _).mono ?_;rintro e w' ⟨rfl,hb⟩;have HB := Lib.hid hb;clear hb))
        go_ret2
        exact ⟨rfl,HB.out⟩
def entity_body.f (a0 : ByteArray) : Option (ByteArray × Bool) := if a0.size ≤ 1073741824 then some (bdy a0.data.toList) else none
theorem entity_body.calls (a0 : ByteArray) (r1 : ByteArray) (r2 : Bool) (w : World) (h : entity_body.f a0 = some (r1,r2)) :
    Calls Tryz.prog 99 #[.string a0] w fun e w' => e = .returned (.tuple #[.string r1,.bool r2]) ∧ Below w.heap.size w w' := by
  unfold entity_body.f at h
  split at h
  · rename_i hc
    have h2 := body_walk a0.data.toList (by rw [Array.length_toList];show a0.size ≤ _;omega) w
    rw [Option.some.inj h,B_eta] at h2
    exact h2
  · cases h
end Go.Proofs.YtekifcbokdidlaaGreatDoor.PA

namespace Go.Proofs.YtekifcbokdidlaaGreatDoor.PA
open Go.RowKit Go.Proofs.YtekifcbokdidlaaGreatDoorW.PrintWords

def strings_HasPrefix.f (a0 : ByteArray) (a1 : ByteArray) : Option Bool := some (Lib.hasPrefix a0.data.toList a1.data.toList)
theorem strings_HasPrefix.calls (a0 : ByteArray) (a1 : ByteArray) (r : Bool) (w : World) (h : strings_HasPrefix.f a0 a1 = some r) :
    Calls Tryz.prog 44 #[.string a0,.string a1] w fun e w' => e = .returned (.bool r) ∧ Drawn0 w w' := by
  unfold strings_HasPrefix.f at h
  have h2 := Option.some.inj h
  subst h2
  refine (Tryz.strings_HasPrefix a0 a1 w).mono ?_
  rintro e w' ⟨rfl,rfl⟩
  exact ⟨rfl,Drawn0.refl _⟩
def strings_CutPrefix.f (a0 : ByteArray) (a1 : ByteArray) : Option (ByteArray × Bool) := some (⟨(Lib.trimPrefix a0.data.toList a1.data.toList).toArray⟩,Lib.hasPrefix a0.data.toList a1.data.toList)
theorem strings_CutPrefix.calls (a0 : ByteArray) (a1 : ByteArray) (r1 : ByteArray) (r2 : Bool) (w : World) (h : strings_CutPrefix.f a0 a1 = some (r1,r2)) :
    Calls Tryz.prog 27 #[.string a0,.string a1] w fun e w' => e = .returned (.tuple #[.string r1,.bool r2]) ∧ Drawn0 w w' := by
  unfold strings_CutPrefix.f at h
  have h2 := Option.some.inj h
  obtain ⟨rfl,rfl⟩ := Prod.mk.inj h2
  refine (Tryz.strings_CutPrefix a0 a1 w).mono ?_
  rintro e w' ⟨rfl,rfl⟩
  exact ⟨rfl,Drawn0.refl _⟩
def strings_Cut.f (a0 : ByteArray) (a1 : ByteArray) : Option (ByteArray × ByteArray × Bool) := if a0.size ≤ 4294967280 then some (⟨(Lib.cut a0.data.toList a1.data.toList).1.toArray⟩,⟨(Lib.cut a0.data.toList a1.data.toList).2.1.toArray⟩,(Lib.cut a0.data.toList a1.data.toList).2.2) else none
theorem strings_Cut.calls (a0 : ByteArray) (a1 : ByteArray) (r1 : ByteArray) (r2 : ByteArray) (r3 : Bool) (w : World) (hLd : Laid w) (h : strings_Cut.f a0 a1 = some (r1,r2,r3)) :
    Calls Tryz.prog 98 #[.string a0,.string a1] w fun e w' => e = .returned (.tuple #[.string r1,.string r2,.bool r3]) ∧ Below w.heap.size w w' := by
  unfold strings_Cut.f at h
  split at h
  · rename_i hc
    have h2 := Option.some.inj h
    simp only [Prod.mk.injEq] at h2;obtain ⟨rfl,rfl,rfl⟩ := h2
    obtain ⟨m,hm⟩ := hLd.ml
    refine (Tryz.strings_Cut a0 a1 m w (by omega) hm).mono ?_
    rintro e w' ⟨rfl,n,rfl⟩
    exact ⟨rfl,pw_below_drewN (Below.refl _ _) n⟩
  · cases h
theorem one_byte (a : ByteArray) (h : a.size = 1) : ∃ c,a = ⟨#[c]⟩ := by
  obtain ⟨⟨l⟩⟩ := a
  match l,h with
  | [c],_ => exact ⟨c,rfl⟩
def strings_Count.f (a0 : ByteArray) (a1 : ByteArray) : Option Int := if a1.size = 1 then some (Lib.countByte a0.data.toList (a1.data.toList.getD 0 0) : Int) else none
theorem strings_Count.calls (a0 : ByteArray) (a1 : ByteArray) (r : Int) (w : World) (h : strings_Count.f a0 a1 = some r) :
    Calls Tryz.prog 49 #[.string a0,.string a1] w fun e w' => e = .returned (.int .i64 r) ∧ Drawn0 w w' := by
  unfold strings_Count.f at h
  split at h
  · rename_i hc
    have h2 := Option.some.inj h
    subst h2
    obtain ⟨c,hc2⟩ : ∃ c,a1 = ⟨#[c]⟩ := one_byte a1 hc
    subst hc2
    refine (Tryz.strings_Count_one a0 c w).mono ?_
    rintro e w' ⟨rfl,rfl⟩
    exact ⟨rfl,Drawn0.refl _⟩
  · cases h
def strings_Split.f (a0 a1 : ByteArray) : Option (List ByteArray) := if a0.size ≤ 4294967280 ∧ 1 ≤ a1.size then some (Lib.splitB a1 0 (Lib.countB a0 a1) a0) else none
theorem strings_Split.calls (a0 a1 : ByteArray) (r : List ByteArray) (w : World) (hLd : Laid w) (h : strings_Split.f a0 a1 = some r) :
    Calls Tryz.prog 100 #[.string a0,.string a1] w fun e w' => ∃ v0_,e = .returned v0_ ∧ Kd.R Kd.string 9 w' w.heap.size (fun _ => True) v0_ r ∧ Below w.heap.size w w' := by
  unfold strings_Split.f at h
  split at h
  · rename_i hc
    obtain rfl := Option.some.inj h
    obtain ⟨m,hm⟩ := hLd.ml
    have hl := Lib.splitB_all a1 hc.2 0 _ a0 rfl
    have hk : Lib.countB a0 a1 ≤ 9223372036854775806 := by have := Lib.countB_le a1 hc.2 a0.size a0 (Nat.le_refl _);omega
    refine (Tryz.strings_Split a0 a1 m w (by omega) hm hc.2).mono ?_
    rintro e w' ⟨rfl,rfl⟩
    refine ⟨_,rfl,⟨fun _ _ => trivial,?_⟩,(Below.refl _ w).alloc (Nat.le_refl _) _⟩
    rw [← hl]
    exact OwnRow.lit w w.heap.size (Kd.reps_scalar _) (Nat.le_refl _) (by omega)
  · cases h
end Go.Proofs.YtekifcbokdidlaaGreatDoor.PA

namespace Go.Proofs.YtekifcbokdidlaaGreatDoor.Pure
open Go.RowKit Go.Proofs.YtekifcbokdidlaaGreatDoorW.PrintWords Go.Proofs.YtekifcbokdidlaaGreatDoorW.PrintMore Go.Proofs.YtekifcbokdidlaaGreatDoor.Pl Go.Proofs.YtekifcbokdidlaaGreatDoor.PA

/-- What stands ahead of the first ;. -/
def upto : List UInt8 → List UInt8
  | [] => []
  | x :: t => if x = 59 then [] else x :: upto t
theorem upto_len : ∀ t : List UInt8,(upto t).length ≤ t.length
  | [] => Nat.le_refl _
  | x :: t => by
    have := upto_len t
    unfold upto
    split
    · simp
    · simp;exact this
theorem upto_lt : ∀ t : List UInt8,(59 : UInt8) ∈ t → (upto t).length < t.length
  | [],h => by cases h
  | x :: t,h => by
    unfold upto
    split
    · simp
    · rename_i hx
      have := upto_lt t (by rcases List.mem_cons.1 h with e | e;exact absurd e.symm hx;exact e)
      simpa using this
theorem upto_take : ∀ t : List UInt8,t.take (upto t).length = upto t
  | [] => rfl
  | x :: t => by
    unfold upto
    split
    · rfl
    · simp [upto_take t]
theorem upto_no : ∀ t : List UInt8,(59 : UInt8) ∉ upto t
  | [] => by simp [upto]
  | x :: t => by
    unfold upto
    split
    · simp
    · rename_i hx
      rw [List.mem_cons]
      rintro (e | e)
      · exact hx e.symm
      · exact upto_no t e
theorem idx59 : ∀ t : List UInt8,Lib.index t [59] = if (59 : UInt8) ∈ t then ((upto t).length : Int) else -1
  | [] => by rw [if_neg (by simp)];rfl
  | x :: t => by
    rw [Lib.index,upto]
    by_cases hx : x = 59
    · subst hx
      rw [if_pos (by simp [List.isPrefixOf]),if_pos (by simp),if_pos rfl]
      rfl
    · have hm : (59 : UInt8) ∈ x :: t ↔ (59 : UInt8) ∈ t := by rw [List.mem_cons];exact ⟨fun h => h.resolve_left (fun e => hx e.symm),.inr⟩
      rw [if_neg (by simp [List.isPrefixOf] <;> exact fun e => hx e.symm),idx59 t,if_neg hx]
      by_cases h : (59 : UInt8) ∈ t
      · rw [if_pos h,if_pos (hm.2 h),if_neg (by simp <;> omega)]
        simp
      · rw [if_neg h,if_neg (fun e => h (hm.1 e))]
        rfl
theorem cut59 (t : List UInt8) : Lib.cut t [59] = if (59 : UInt8) ∈ t then (upto t,t.drop ((upto t).length + 1),true) else (t,[],false) := by
  unfold Lib.cut
  rw [idx59]
  by_cases h : (59 : UInt8) ∈ t
  · rw [if_pos h,if_pos (by omega),if_pos h,Int.toNat_natCast,upto_take]
    rfl
  · rw [if_neg h,if_neg (by decide),if_neg h]
/-- What is read. -/
def rdE : List UInt8 → ByteArray × Int
  | [] => (⟨#[]⟩,0)
  | x :: t => if x = 38 then if (59 : UInt8) ∈ t then if (bdy (upto t)).2 = true then ((bdy (upto t)).1,((upto t).length : Int) + 2) else (⟨#[]⟩,0) else (⟨#[]⟩,0) else (⟨#[]⟩,0)
/-! #### names -/
theorem bsr_self : ∀ k,k < 183 → bsr (enm k) 183 0 183 = k := by
  have h : (List.range 183).all (fun k => bsr (enm k) 183 0 183 == k) = true := by decide +kernel
  intro k hk
  exact beq_iff_eq.1 (List.all_eq_true.1 h k (List.mem_range.2 hk))
theorem nmd_hit (k : Nat) (hk : k < 183) : nmd (enm k) = (Go.Utf8.encode (enn k),true) := by
  unfold nmd
  rw [bsr_self k hk,if_pos ⟨hk,rfl⟩]
theorem nmd_miss (t : List UInt8) (h : ∀ k,k < 183 → enm k ≠ t) : nmd t = (⟨#[]⟩,false) := by
  unfold nmd
  rw [if_neg (fun e => h _ e.1 e.2)]
theorem nmd_cases (t : List UInt8) : (∃ k,k < 183 ∧ enm k = t) ∨ ∀ k,k < 183 → enm k ≠ t := by
  by_cases h : ∃ k,k < 183 ∧ enm k = t
  · exact .inl h
  · exact .inr (fun k hk e => h ⟨k,hk,e⟩)
/-- What is read, and what is not. -/
theorem rdE_cases (s : List UInt8) : rdE s = (⟨#[]⟩,0) ∨ ∃ d u,s = 38 :: (d ++ 59 :: u) ∧ (59 : UInt8) ∉ d ∧ (bdy d).2 = true ∧ rdE s = ((bdy d).1,(d.length : Int) + 2) := by
  cases s with
  | nil => exact .inl rfl
  | cons x t =>
    by_cases hx : x = 38
    · subst hx
      by_cases h : (59 : UInt8) ∈ t
      · by_cases hb : (bdy (upto t)).2 = true
        · have hl := upto_lt t h
          refine .inr ⟨upto t,t.drop ((upto t).length + 1),?_,upto_no t,hb,by rw [rdE,if_pos rfl,if_pos h,if_pos hb]⟩
          congr 1
          have h59 : ∀ t : List UInt8,(59 : UInt8) ∈ t → t = upto t ++ 59 :: t.drop ((upto t).length + 1) := by
            intro t
            induction t with
            | nil => intro h;cases h
            | cons x t ih =>
              intro h
              by_cases hx : x = 59
              · subst hx
                simp [upto]
              · have h2 : (59 : UInt8) ∈ t := by rcases List.mem_cons.1 h with e | e;exact absurd e.symm hx;exact e
                rw [upto,if_neg hx,List.length_cons,List.drop_succ_cons,List.cons_append,← ih h2]
          exact h59 t h
        · exact .inl (by rw [rdE,if_pos rfl,if_pos h,if_neg hb])
      · exact .inl (by rw [rdE,if_pos rfl,if_neg h])
    · exact .inl (by rw [rdE,if_neg hx])
end Go.Proofs.YtekifcbokdidlaaGreatDoor.Pure

namespace Go.Proofs.YtekifcbokdidlaaGreatDoor.PA
open Go.RowKit Go.Proofs.YtekifcbokdidlaaGreatDoor.Pl Go.Proofs.YtekifcbokdidlaaGreatDoorW.PrintWords Go.Proofs.YtekifcbokdidlaaGreatDoorW.PrintMore Go.Proofs.YtekifcbokdidlaaGreatDoor.Pure
set_option linter.unusedVariables false

theorem pre38 (s : List UInt8) (w : World) : Calls Tryz.prog 44 #[.string (B s),.string ⟨#[38]⟩] w fun e w' => e = .returned (.bool (decide (s.head? = some 38))) ∧ Drawn0 w w' := by
  refine strings_HasPrefix.calls (B s) ⟨#[38]⟩ _ w ?_
  unfold strings_HasPrefix.f
  rw [B_data,show (⟨#[38]⟩ : ByteArray).data.toList = [38] from rfl]
  congr 1
  cases s with
  | nil => rfl
  | cons x t =>
    by_cases hx : x = 38
    · subst hx
      simp [Lib.hasPrefix,List.isPrefixOf]
    · simp [Lib.hasPrefix,List.isPrefixOf,hx]
      exact fun e => hx e.symm
theorem cutB (t : List UInt8) (ht : t.length ≤ 1073741824) (w : World) (hLd : Laid w) : Calls Tryz.prog 98 #[.string (B t),.string ⟨#[59]⟩] w fun e w' =>
    e = .returned (if (59 : UInt8) ∈ t then .tuple #[.string (B (upto t)),.string (B (t.drop ((upto t).length + 1))),.bool true] else .tuple #[.string (B t),.string (B []),.bool false]) ∧ Below w.heap.size w w' := by
  by_cases h : (59 : UInt8) ∈ t
  · rw [if_pos h]
    refine strings_Cut.calls (B t) ⟨#[59]⟩ _ _ _ w hLd ?_
    unfold strings_Cut.f
    rw [if_pos (by rw [B_size];omega),B_data,show (⟨#[59]⟩ : ByteArray).data.toList = [59] from rfl,cut59,if_pos h]
    rfl
  · rw [if_neg h]
    refine strings_Cut.calls (B t) ⟨#[59]⟩ _ _ _ w hLd ?_
    unfold strings_Cut.f
    rw [if_pos (by rw [B_size];omega),B_data,show (⟨#[59]⟩ : ByteArray).data.toList = [59] from rfl,cut59,if_neg h]
    rfl
set_option maxHeartbeats 2000000 in
set_option maxRecDepth 100000 in
theorem read_walk (s : List UInt8) (hs : s.length ≤ 1073741824) (w : World) (hLd : Laid w) :
    Calls Tryz.prog 77 #[.string (B s)] w fun e w' => e = .returned (.tuple #[.string (rdE s).1,.int .i64 (rdE s).2]) ∧ Below w.heap.size w w' := by
  have HP := Lib.hid (pre38 s)
  have HL := Lib.hid hLd
  clear hLd
  by_cases h38 : s.head? = some 38
  · rw [decide_eq_true h38] at HP
    obtain ⟨t,rfl⟩ : ∃ t,s = 38 :: t := by
      cases s with
      | nil => cases h38
      | cons x t => exact ⟨t,by rw [Option.some.inj h38]⟩
    rw [List.length_cons] at hs
    have hsz : (B (38 :: t)).size = t.length + 1 := B_size _
    have hz1 : 1 ≤ (B (38 :: t)).size := by omega
    have hex : (B (38 :: t)).extract 1 (B (38 :: t)).size = B t := B_from (38 :: t) 1 _ (B_size _)
    have hex2 : (B (38 :: t)).extract 1 (t.length + 1) = B t := B_from (38 :: t) 1 _ rfl
    have hC := Lib.hid (cutB t (by omega))
    have hrd : rdE (38 :: t) = if (59 : UInt8) ∈ t then if (bdy (upto t)).2 = true then ((bdy (upto t)).1,((upto t).length : Int) + 2) else (⟨#[]⟩,0) else (⟨#[]⟩,0) := by rw [rdE,if_pos rfl]
    rw [hrd]
    have hul := upto_len t
    clear hrd h38
    generalize B (38 :: t) = S at *
    by_cases h59 : (59 : UInt8) ∈ t
    · rw [if_pos h59] at hC ⊢
      have hB := Lib.hid (entity_body.calls (B (upto t)) (bdy (upto t)).1 (bdy (upto t)).2)
      have hf : entity_body.f (B (upto t)) = some ((bdy (upto t)).1,(bdy (upto t)).2) := by unfold entity_body.f;rw [if_pos (by rw [B_size];omega),B_data]
      have HF := Lib.hid hf
      have hus : (B (upto t)).size = (upto t).length := B_size _
      clear hf h59
      generalize B (upto t) = U at *
      generalize B (t.drop ((upto t).length + 1)) = V at *
      generalize (bdy (upto t)).1 = Q1 at *
      cases hb : (bdy (upto t)).2 with
      | true =>
        rw [hb] at hB HF
        clear hb
        rw [if_pos rfl]
        generalize (upto t).length = n at *
        go_enter Tryz.func77,Tryz.ntmps77
        go_wp2_with fail
        refine (HP.out _).mono ?_
        rintro e w1 ⟨rfl,hd⟩
        have HB1 := Lib.hid hd.below
        clear hd
        go_wp2_with fail
        with_reducible refine (hC.out _ (HL.out.go HB1.out)).mono ?_
        rintro e w2 ⟨rfl,hb2⟩
        have HB2 := Lib.hid (HB1.out.trans (hb2.mono HB1.out.size))
        clear hb2
        go_wp2_with fail
        refine (hB.out _ HF.out).mono ?_
        rintro e w3 ⟨rfl,hb3⟩
        have HB3 := Lib.hid (HB2.out.trans (hb3.mono HB2.out.size))
        clear hb3
        go_wp2
        go_ret2
        exact ⟨rfl,HB3.out⟩
      | false =>
        rw [hb] at hB HF
        clear hb
        rw [if_neg (by decide)]
        go_enter Tryz.func77,Tryz.ntmps77
        go_wp2_with fail
        refine (HP.out _).mono ?_
        rintro e w1 ⟨rfl,hd⟩
        have HB1 := Lib.hid hd.below
        clear hd
        go_wp2_with fail
        with_reducible refine (hC.out _ (HL.out.go HB1.out)).mono ?_
        rintro e w2 ⟨rfl,hb2⟩
        have HB2 := Lib.hid (HB1.out.trans (hb2.mono HB1.out.size))
        clear hb2
        go_wp2_with fail
        refine (hB.out _ HF.out).mono ?_
        rintro e w3 ⟨rfl,hb3⟩
        have HB3 := Lib.hid (HB2.out.trans (hb3.mono HB2.out.size))
        clear hb3
        go_wp2
        go_ret2
        exact ⟨rfl,HB3.out⟩
    · rw [if_neg h59] at hC ⊢
      generalize B t = V at *
      generalize B [] = V0 at *
      clear h59
      go_enter Tryz.func77,Tryz.ntmps77
      go_wp2_with fail
      refine (HP.out _).mono ?_
      rintro e w1 ⟨rfl,hd⟩
      have HB1 := Lib.hid hd.below
      clear hd
      go_wp2_with fail
      refine (hC.out _ (HL.out.go HB1.out)).mono ?_
      rintro e w2 ⟨rfl,hb2⟩
      have HB2 := Lib.hid (HB1.out.trans (hb2.mono HB1.out.size))
      clear hb2
      go_wp2
      go_ret2
      exact ⟨rfl,HB2.out⟩
  · rw [decide_eq_false h38] at HP
    have hrd : rdE s = (⟨#[]⟩,0) := by
      cases s with
      | nil => rfl
      | cons x t => rw [rdE,if_neg (fun e => h38 (by rw [e];rfl))]
    rw [hrd]
    clear hrd h38
    go_enter Tryz.func77,Tryz.ntmps77
    go_wp2_with fail
    refine (HP.out _).mono ?_
    rintro e w1 ⟨rfl,hd⟩
    have HB1 := Lib.hid hd.below
    clear hd
    go_wp2
    go_ret2
    exact ⟨rfl,HB1.out⟩
end Go.Proofs.YtekifcbokdidlaaGreatDoor.PA

namespace Go.Proofs.YtekifcbokdidlaaGreatDoor.Pl
open Go.RowKit Go.Proofs.YtekifcbokdidlaaGreatDoorW.PrintWords

/-! #### HTML -/
/-- A byte as it stands in HTML. -/
def esc (x : UInt8) : List UInt8 := if x = 38 then [38,97,109,112,59] else if x = 60 then [38,108,116,59] else if x = 62 then [38,103,116,59] else if x = 34 then [38,113,117,111,116,59] else [x]
/-- A text as it stands in HTML. -/
def htm (l : List UInt8) : List UInt8 := l.flatMap esc
/-! #### an address -/
end Go.Proofs.YtekifcbokdidlaaGreatDoor.Pl

namespace Go.Proofs.YtekifcbokdidlaaGreatDoor.PA
open Go.RowKit Go.Proofs.YtekifcbokdidlaaGreatDoor.Pl Go.Proofs.YtekifcbokdidlaaGreatDoorW.PrintWords Go.Proofs.YtekifcbokdidlaaGreatDoorW.PrintLast Go.Proofs.YtekifcbokdidlaaGreatDoorW.PrintMore
set_option linter.unusedVariables false

/-- The spans of signs. -/
def spn : List (Nat × Nat) := [(33,47),(58,64),(91,96),(123,126),(161,169),(171,172),(174,177),(180,180),(182,184),(187,187),(191,191),(215,215),(247,247),(8208,8231),(8240,8286),(8352,8384),(12289,12291),(12296,12319),(65281,65295)]
def inS (r : Int) (e : Nat × Nat) : Bool := decide ((e.1 : Int) ≤ r) && decide (r ≤ (e.2 : Int))
def punct (r : Int) : Bool := spn.any (inS r)
set_option maxHeartbeats 1000000 in
theorem has_any (lo hi r : Int) (w : World) : Calls Tryz.prog 112 #[.agg #[.int .i32 lo,.int .i32 hi],.int .i32 r] w fun e w' => e = .returned (.bool (decide (lo ≤ r) && decide (r ≤ hi))) ∧ Below w.heap.size w w' := by
  by_cases h1 : lo ≤ r
  · by_cases h2 : r ≤ hi
    · rw [decide_eq_true h1,decide_eq_true h2]
      go_enter Tryz.func112,Tryz.ntmps112
      go_wp2
      go_ret
      exact ⟨rfl,(Below.refl _ _).alloc (Nat.le_refl _) _⟩
    · rw [decide_eq_true h1,decide_eq_false h2]
      have q := decide_eq_false h2
      go_enter Tryz.func112,Tryz.ntmps112
      go_wp2
      go_ret
      exact ⟨rfl,(Below.refl _ _).alloc (Nat.le_refl _) _⟩
  · rw [decide_eq_false h1]
    have q := decide_eq_false h1
    go_enter Tryz.func112,Tryz.ntmps112
    go_wp2
    go_ret
    exact ⟨rfl,(Below.refl _ _).alloc (Nat.le_refl _) _⟩
def spCells : Array Value := #[Value.int .i32 33,Value.int .i32 47,Value.int .i32 58,Value.int .i32 64,Value.int .i32 91,Value.int .i32 96,Value.int .i32 123,Value.int .i32 126,Value.int .i32 161,Value.int .i32 169,Value.int .i32 171,Value.int .i32 172,Value.int .i32 174,Value.int .i32 177,Value.int .i32 180,Value.int .i32 180,Value.int .i32 182,Value.int .i32 184,Value.int .i32 187,Value.int .i32 187,Value.int .i32 191,Value.int .i32 191,Value.int .i32 215,Value.int .i32 215,Value.int .i32 247,Value.int .i32 247,Value.int .i32 8208,Value.int .i32 8231,Value.int .i32 8240,Value.int .i32 8286,Value.int .i32 8352,Value.int .i32 8384,Value.int .i32 12289,Value.int .i32 12291,Value.int .i32 12296,Value.int .i32 12319,Value.int .i32 65281,Value.int .i32 65295]
theorem spDesc : Tryz.prog.underlying 120 = some (.array 19 119) := by kernel_rfl
theorem spSize : Tryz.prog.cellsOf 119 = 2 := by kernel_rfl
theorem spInfo : ∃ i,Tryz.prog.info? 119 = some i := by
  cases h : Tryz.prog.info? 119 with
  | none => exact absurd (show (Tryz.prog.info? 119).isSome = true by kernel_rfl) (by rw [h];decide)
  | some i => exact ⟨i,rfl⟩
theorem sp_cut : ∀ k : Nat,k < 19 → spCells.extract (k * 2) (k * 2 + 2) = #[.int .i32 ((spn.getD k (0,0)).1 : Int),.int .i32 ((spn.getD k (0,0)).2 : Int)] := by
  intro k hk
  have : k = 0 ∨ k = 1 ∨ k = 2 ∨ k = 3 ∨ k = 4 ∨ k = 5 ∨ k = 6 ∨ k = 7 ∨ k = 8 ∨ k = 9 ∨ k = 10 ∨ k = 11 ∨ k = 12 ∨ k = 13 ∨ k = 14 ∨ k = 15 ∨ k = 16 ∨ k = 17 ∨ k = 18 := by omega
  rcases this with rfl | rfl | rfl | rfl | rfl | rfl | rfl | rfl | rfl | rfl | rfl | rfl | rfl | rfl | rfl | rfl | rfl | rfl | rfl <;> rfl
theorem sp_index (k : Nat) (hk : k < 19) (w : World) : (Instr.index 120 (.agg spCells) (.int .i64 k)).run Tryz.prog w = .ok (.agg #[.int .i32 ((spn.getD k (0,0)).1 : Int),.int .i32 ((spn.getD k (0,0)).2 : Int)]) w := by
  obtain ⟨i,hi⟩ := spInfo
  have h3 := sp_cut k hk
  generalize hE : spCells = E at h3 ⊢
  clear hE
  simp [Instr.index,asIntOf,run_underlying spDesc,hk,part,run_sizeOf w hi,spSize,h3,go_sem]
theorem any_snoc (r : Int) (k : Nat) (hk : k < spn.length) : (spn.take (k + 1)).any (inS r) = ((spn.take k).any (inS r) || inS r (spn.getD k (0,0))) := by
  rw [List.take_succ_eq_append_getElem hk,List.any_append,List.getD_eq_getElem?_getD,List.getElem?_eq_getElem hk]
  simp
set_option maxHeartbeats 4000000 in
set_option maxRecDepth 100000 in
theorem punct_walk (r : Int) (w : World) : Calls Tryz.prog 96 #[.int .i32 r] w fun e w' => e = .returned (.bool (punct r)) ∧ Below w.heap.size w w' := by
  obtain ⟨R,hR⟩ : ∃ R,punct r = R := ⟨_,rfl⟩
  rw [hR]
  have HR := Lib.hid hR
  clear hR
  go_enter Tryz.func96,Tryz.ntmps96
  go_wp2
  go_loopw [25] (fun vi wr => ∃ k : Nat,vi = .int .i64 k ∧ k ≤ 19 ∧ Hid ((spn.take k).any (inS r) = false) ∧ Hid (Below w.heap.size w wr))
    (fun vi _ => 19 - (intOf vi).toNat)
  case atStart => exact ⟨0,rfl,by omega,rfl,Below.refl _ _⟩
  case round =>
    obtain ⟨k,rfl,hk,HP,HB⟩ := hrel
    by_cases hlt : k < 19
    · have hix := fun w => sp_index k hlt w
      simp only [spCells] at hix
      have hsn := any_snoc r k hlt
      rw [HP.out,Bool.false_or] at hsn
      have hmem : inS r (spn.getD k (0,0)) = true → punct r = true := by
        intro h
        unfold punct
        rw [List.any_eq_true]
        refine ⟨spn.getD k (0,0),?_,h⟩
        rw [List.getD_eq_getElem?_getD,List.getElem?_eq_getElem (show k < spn.length from hlt)]
        exact List.getElem_mem _
      have hin : inS r (spn.getD k (0,0)) = (decide (((spn.getD k (0,0)).1 : Int) ≤ r) && decide (r ≤ ((spn.getD k (0,0)).2 : Int))) := rfl
      generalize spn.getD k (0,0) = e at hix hsn hmem hin
      have hsz := HB.out.size
      have HM := Lib.hid hmem
      have HS := Lib.hid hsn
      have HI := Lib.hid hin
      clear hmem hsn hin HP
      go_wp2_with fail
      refine (has_any _ _ _ _).mono ?_
      rintro e2 w2 ⟨rfl,hb2⟩
      have HB2 := Lib.hid ((HB.out.alloc hsz _).trans (hb2.mono (by have := hsz;simp;omega)))
      clear hb2 HB
      rw [← HI.out]
      cases hb : inS r e with
      | true =>
        have HT := Lib.hid (HM.out hb)
        clear HM HS HI hb hix
        go_wp2
        go_ret
        exact ⟨congrArg (fun z => Ending.returned (.bool z)) (HT.out.symm.trans HR.out),HB2.out⟩
      | false =>
        have HF := Lib.hid (HS.out.trans hb)
        clear HM HS HI hb hix
        go_wp2
        go_roundw
        case rel => exact ⟨k + 1,by first | rfl | simp,by omega,HF,HB2⟩
        case measure => simp [intOf];omega
    · obtain rfl : k = 19 := by omega
      have HT := Lib.hid (show punct r = false from HP.out)
      go_wp2
      go_ret
      exact ⟨congrArg (fun z => Ending.returned (.bool z)) (HT.out.symm.trans HR.out),HB.out⟩
end Go.Proofs.YtekifcbokdidlaaGreatDoor.PA

namespace Go.Proofs.YtekifcbokdidlaaGreatDoor.Pl
open Go.RowKit Go.Proofs.YtekifcbokdidlaaGreatDoorW.PrintWords Go.Proofs.YtekifcbokdidlaaGreatDoor.PA Go.Proofs.YtekifcbokdidlaaGreatDoor.Pure

/-! #### without backslashes and references -/
/-- Is a byte a sign? -/
def sgn (x : UInt8) : Bool := decide (x.toNat < 128) && punct (x.toNat : Int)
/-- What a text begins with, without backslash and reference, and how long it is in the text. -/
def stp : List UInt8 → List UInt8 × Nat
  | [] => ([],1)
  | x :: t => if x = 92 ∧ ∃ y ∈ t.head?,sgn y = true then (t.take 1,2) else if 0 < (rdE (x :: t)).2 then ((rdE (x :: t)).1.data.toList,(rdE (x :: t)).2.toNat) else ([x],1)
theorem stp_cons (x : UInt8) (t : List UInt8) : stp (x :: t) = if x = 92 ∧ ∃ y ∈ t.head?,sgn y = true then (t.take 1,2) else if 0 < (rdE (x :: t)).2 then ((rdE (x :: t)).1.data.toList,(rdE (x :: t)).2.toNat) else ([x],1) := rfl
def uneF : Nat → List UInt8 → List UInt8
  | 0,_ => []
  | _ + 1,[] => []
  | n + 1,x :: t => (stp (x :: t)).1 ++ uneF n ((x :: t).drop (stp (x :: t)).2)
/-- A text without backslashes and references. -/
def une (l : List UInt8) : List UInt8 := uneF l.length l
theorem stp_pos (l : List UInt8) : 1 ≤ (stp l).2 := by
  cases l with
  | nil => exact Nat.le_refl _
  | cons x t =>
    rw [stp_cons]
    split
    · exact Nat.le_succ 1
    · split
      · show 1 ≤ (rdE (x :: t)).2.toNat
        omega
      · exact Nat.le_refl _
theorem stp_le (x : UInt8) (t : List UInt8) : (stp (x :: t)).2 ≤ (x :: t).length := by
  rw [stp_cons]
  split
  · rename_i h
    obtain ⟨_,y,hy,_⟩ := h
    cases t with
    | nil => cases hy
    | cons z u => simp
  · split
    · rcases rdE_cases (x :: t) with h | ⟨d,u,he,_,_,hr⟩
      · rename_i h0
        rw [h] at h0
        exact absurd h0 (by decide)
      · rw [hr,he]
        simp only [List.length_cons,List.length_append]
        omega
    · simp
theorem uneF_le : ∀ (n m : Nat) (l : List UInt8),l.length ≤ n → l.length ≤ m → uneF n l = uneF m l
  | n,m,[],_,_ => by cases n <;> cases m <;> rfl
  | 0,m,x :: t,h,_ => by simp at h
  | n + 1,0,x :: t,_,h => by simp at h
  | n + 1,m + 1,x :: t,h1,h2 => by
    rw [uneF,uneF]
    congr 1
    have := stp_pos (x :: t)
    rw [List.length_cons] at h1 h2
    exact uneF_le n m _ (by rw [List.length_drop,List.length_cons];omega) (by rw [List.length_drop,List.length_cons];omega)
theorem une_nil : une [] = [] := rfl
theorem une_cons (x : UInt8) (t : List UInt8) : une (x :: t) = (stp (x :: t)).1 ++ une ((x :: t).drop (stp (x :: t)).2) := by
  have := stp_pos (x :: t)
  unfold une
  rw [List.length_cons,uneF]
  congr 1
  exact uneF_le _ _ _ (by rw [List.length_drop,List.length_cons];omega) (Nat.le_refl _)
theorem stp_sgn (y : UInt8) (u : List UInt8) (h : sgn y = true) : stp (92 :: y :: u) = ([y],2) := by
  rw [stp_cons]
  rw [if_pos ⟨rfl,y,rfl,h⟩]
  rfl
theorem rdE_ne (x : UInt8) (t : List UInt8) (h : x ≠ 38) : rdE (x :: t) = (⟨#[]⟩,0) := by rw [rdE,if_neg h]
theorem stp_one (x : UInt8) (t : List UInt8) (h1 : x = 92 → ∀ y u,t = y :: u → sgn y = false) (h2 : ¬ 0 < (rdE (x :: t)).2) : stp (x :: t) = ([x],1) := by
  rw [stp_cons]
  rw [if_neg,if_neg h2]
  rintro ⟨e,y,hy,hs⟩
  cases t with
  | nil => cases hy
  | cons z u =>
    obtain rfl := Option.some.inj hy
    rw [h1 e z u rfl] at hs
    cases hs
theorem stp_plain (x : UInt8) (t : List UInt8) (h1 : x ≠ 92) (h2 : x ≠ 38) : stp (x :: t) = ([x],1) :=
  stp_one x t (fun e => absurd e h1) (by rw [rdE_ne x t h2];decide)
theorem une_plain (x : UInt8) (t : List UInt8) (h1 : x ≠ 92) (h2 : x ≠ 38) : une (x :: t) = x :: une t := by
  rw [une_cons,stp_plain x t h1 h2]
  rfl
/-! #### there and back -/
theorem une_cut : ∀ a b : List UInt8,(∀ x ∈ a,x ≠ 92 ∧ x ≠ 38) → une (a ++ b) = a ++ une b
  | [],b,_ => rfl
  | x :: a,b,h => by
    have hx := h x (by simp)
    rw [List.cons_append,une_plain x _ hx.1 hx.2,une_cut a b (fun y hy => h y (by simp [hy])),List.cons_append]
end Go.Proofs.YtekifcbokdidlaaGreatDoor.Pl

namespace Go.Proofs.YtekifcbokdidlaaGreatDoor.PA
open Go.RowKit Go.Proofs.YtekifcbokdidlaaGreatDoor.Pl Go.Proofs.YtekifcbokdidlaaGreatDoorW.PrintWords Go.Proofs.YtekifcbokdidlaaGreatDoorW.PrintLast Go.Proofs.YtekifcbokdidlaaGreatDoorW.PrintMore Go.Proofs.YtekifcbokdidlaaGreatDoor.Pure
set_option linter.unusedVariables false

theorem enc_le (n : Int) : (Go.Utf8.encode n).size ≤ 4 := encode_size_le n
theorem emp_le : (⟨#[]⟩ : ByteArray).size ≤ 4 := by decide
theorem wr_str (acc : List UInt8) (S : ByteArray) : Lib.byteCells acc ++ Lib.strCells S = Lib.byteCells (acc ++ S.data.toList) := by rw [Lib.byteCells_append];rfl
theorem nmd_le (t : List UInt8) : (nmd t).1.size ≤ 4 := by
  rcases nmd_cases t with ⟨k,hk,rfl⟩ | hn
  · rw [nmd_hit k hk]
    generalize enn k = n
    exact enc_le n
  · rw [nmd_miss t hn]
    exact emp_le
theorem chr_le (b most : Nat) (ok : UInt8 → Bool) (t : List UInt8) : (chr b most ok t).1.size ≤ 4 := by
  unfold chr
  split
  · exact emp_le
  · generalize fixr (num b t) = n
    exact enc_le n
theorem bdy_le (t : List UInt8) : (bdy t).1.size ≤ 4 := by
  cases t with
  | nil => exact nmd_le []
  | cons x d =>
    by_cases hx : x = 35
    · subst hx
      cases d with
      | nil => rw [bdy_35];exact chr_le _ _ _ _
      | cons y d =>
        rw [bdy_two]
        split
        · exact chr_le _ _ _ _
        · exact chr_le _ _ _ _
    · rw [bdy_no x d hx]
      exact nmd_le _
theorem stp_len (l : List UInt8) : (stp l).1.length ≤ 4 * (stp l).2 := by
  cases l with
  | nil => exact Nat.zero_le _
  | cons x t =>
    rw [stp_cons]
    split
    · show (t.take 1).length ≤ _
      rw [List.length_take]
      omega
    · split
      · rename_i h0
        rcases rdE_cases (x :: t) with h | ⟨d,u,he,_,_,hr⟩
        · rw [h] at h0
          exact absurd h0 (by decide)
        · have h4 := bdy_le d
          rw [hr]
          show (bdy d).1.data.toList.length ≤ 4 * ((d.length : Int) + 2).toNat
          rw [Array.length_toList]
          have : (bdy d).1.data.size ≤ 4 := h4
          omega
      · show 1 ≤ 4 * 1
        decide
theorem step_to (s acc p : List UInt8) (x : UInt8) (t : List UInt8) (n : Nat) (h : stp (x :: t) = (p,n)) (hl : (x :: t).length ≤ s.length) (hs : acc.length + 4 * (x :: t).length ≤ 4 * s.length) (he : acc ++ une (x :: t) = une s) :
    ((x :: t).drop n).length ≤ s.length ∧ (acc ++ p).length + 4 * ((x :: t).drop n).length ≤ 4 * s.length ∧ (acc ++ p) ++ une ((x :: t).drop n) = une s ∧ ((x :: t).drop n).length < (x :: t).length := by
  have h1 := stp_len (x :: t)
  have h2 := stp_pos (x :: t)
  have h3 := stp_le x t
  have h4 := une_cons x t
  rw [h] at h1 h2 h3 h4
  simp only at h1 h2 h3 h4
  rw [List.length_append,List.length_drop]
  refine ⟨by omega,by omega,?_,by omega⟩
  rw [List.append_assoc,← h4]
  exact he
set_option maxHeartbeats 1000000 in
theorem sign_any (x : UInt8) (w : World) : Calls Tryz.prog 72 #[.int .u8 (x.toNat : Int)] w fun e w' => e = .returned (.bool (sgn x)) ∧ Below w.heap.size w w' := by
  have hp := punct_walk (x.toNat : Int)
  by_cases h : x.toNat < 128
  · have hs : sgn x = punct (x.toNat : Int) := by unfold sgn;rw [decide_eq_true h,Bool.true_and]
    rw [← hs] at hp
    have q : decide ((x.toNat : Int) < 128) = true := decide_eq_true (by omega)
    have HP := Lib.hid hp
    clear hp hs
    go_enter Tryz.func72,Tryz.ntmps72
    go_wp2_with (first | (go_at_call 96;refine (HP.out _).mono ?_;rintro e w' ⟨rfl,hb⟩;have HB := Lib.hid hb;clear hb))
    go_ret
    exact ⟨rfl,HB.out⟩
  · have hs : sgn x = false := by unfold sgn;rw [decide_eq_false h,Bool.false_and]
    rw [hs]
    have q : decide ((x.toNat : Int) < 128) = false := decide_eq_false (by omega)
    clear hp hs
    go_enter Tryz.func72,Tryz.ntmps72
    go_wp2
    go_ret
    exact ⟨rfl,Below.refl _ _⟩
theorem isB_belowU {T e B b : Nat} {bs : List Value} {w w' : World} (h : Lib.IsBuilder T e B b bs w) (hb : Below w.heap.size w w') : Lib.IsBuilder T e B b bs w' := by
  have go : ∀ p,Lib.BuilderAt T e B b p bs w → Lib.BuilderAt T e B b p bs w' := by
    intro p h
    have hlt := h.lt
    obtain ⟨h1,v,h2,h3,h4⟩ := h
    exact ⟨h1,v,(hb.block _ hlt).trans h2,pw_own_below h3 hb,h4⟩
  rcases h with h | h
  · exact .inl (go _ h)
  · exact .inr (go _ h)
set_option maxHeartbeats 8000000 in
set_option maxRecDepth 100000 in
theorem unesc_walk (s : List UInt8) (hs : s.length ≤ 1048576) (w : World) (hLd : Laid w) :
    Calls Tryz.prog 52 #[.string (B s)] w fun e w' => e = .returned (.string (B (une s))) ∧ Below w.heap.size w w' := by
  have HL := Lib.hid hLd
  clear hLd
  go_enter Tryz.func52,Tryz.ntmps52
  go_wp2
  go_loopw [0] (fun v0 wr => ∃ l acc : List UInt8,v0 = .string (B l) ∧ l.length ≤ s.length ∧ Hid (acc.length + 4 * l.length ≤ 4 * s.length) ∧ Hid (acc ++ une l = une s) ∧ Hid (Lib.IsBuilder 72 5 w.heap.size w.heap.size (Lib.byteCells acc) wr) ∧ Hid (Below w.heap.size w wr)) (fun v0 _ => match v0 with | .string x => x.size | _ => 0)
  case atStart => exact ⟨s,[],rfl,Nat.le_refl _,Lib.hid (by simp),Lib.hid rfl,Lib.hid (Lib.fresh_isBuilder _ _ w),Lib.hid ((Below.refl _ w).alloc (Nat.le_refl _) _)⟩
  case round =>
    obtain ⟨l,acc,rfl,hl,HS,HE,HI,HB⟩ := hrel
    cases l with
    | nil =>
      have hE : acc = une s := (List.append_nil acc).symm.trans HE.out
      have hne : (B []).toList = [] := B_toList []
      have hI := HI.out
      rw [hE] at hI
      have HI2 := Lib.hid hI
      have hbs := HB.out.size
      clear hI hE
      go_wp2_with (go_at_call 64;refine (Tryz.Builder_String_any w.heap.size w.heap.size (une s) _ HI2.out hbs).mono ?_;rintro e w1 ⟨rfl,hb1⟩)
      repeat (first | refine ex_noGoto_ret ?_ | refine ex_block_ret ?_ | refine ex_then_ret ?_)
      go_ret
      exact ⟨rfl,HB.out.trans hb1⟩
    | cons x t =>
      have hne : (B (x :: t)).toList.isEmpty = false := by rw [B_toList];rfl
      have hne2 : (B (x :: t)).toList = x :: t := B_toList _
      have hsz : (B (x :: t)).size = t.length + 1 := B_size _
      have hz : 0 < (B (x :: t)).size := by omega
      have hi0 : (B (x :: t))[0]'hz = x := rfl
      have h01 : (B (x :: t)).extract 0 1 = B [x] := by rw [B_to];rfl
      have h1n : (B (x :: t)).extract 1 (t.length + 1) = B t := B_from (x :: t) 1 _ rfl
      have hbs := HB.out.size
      by_cases h92 : x = 92
      · have q92 : ((x.toNat : Int) == 92) = true := by rw [h92];rfl
        have q38 : ((x.toNat : Int) == 38) = false := by rw [h92];rfl
        have hrd : ¬ 0 < (rdE (x :: t)).2 := by rw [rdE_ne x t (by rw [h92];decide)];decide
        cases t with
        | nil =>
          have hst : stp (x :: []) = ([x],1) := stp_one x [] (fun _ y u e => by cases e) hrd
          clear hrd h92
          have hp4 : (B [x]).size ≤ 4 := by rw [B_size];simp
          have hpd : (B [x]).data.toList = [x] := B_data _
          have HB1 := HB
          have HI1 := HI
          have hbs1 := hbs
          have HF := Lib.hid (step_to s acc [x] x ([]) 1 hst hl HS.out HE.out)
          have hS4 := Lib.hid (show acc.length + (B [x]).size ≤ 140737488355328 by have := HS.out;have := hp4;omega)
          have HSd := Lib.hid (show (B [x]).data.toList = [x] from hpd)
          clear hst hl HS HE hp4 hpd
          go_wp2_with fail
          with_reducible refine (Tryz.Builder_WriteString w.heap.size w.heap.size _ (B [x]) _ HI1.out (by rw [Lib.byteCells_length];exact hS4.out) hbs1).mono ?_
          rintro e w2 ⟨rfl,h2,b2⟩
          rw [wr_str,HSd.out] at h2
          have HI2 := Lib.hid h2
          have HB2 := Lib.hid (HB1.out.trans b2)
          clear h2 b2
          go_wp2
          go_roundw
          case rel => exact ⟨_,_,rfl,HF.out.1,Lib.hid HF.out.2.1,Lib.hid HF.out.2.2.1,Lib.hid (.inr HI2.out),HB2⟩
          case measure =>
            change (B ((x :: []).drop 1)).size < (B (x :: [])).size
            rw [B_size,B_size]
            exact HF.out.2.2.2
        | cons y u =>
          have hz2 : 1 < (B (x :: y :: u)).size := by rw [B_size];simp
          have hi1 : (B (x :: y :: u))[1]'hz2 = y := rfl
          have h12 : (B (x :: y :: u)).extract 1 2 = B [y] := by rw [B_extract];rfl
          have hz3 : 2 ≤ (B (x :: y :: u)).size := hz2
          have hz4 : 2 ≤ u.length + 1 + 1 := by omega
          have hz5 : (2 : Int) ≤ ((B (x :: y :: u)).size : Int) := by omega
          have hz6 : (2 : Int) ≤ (u.length : Int) + 1 + 1 := by omega
          have h2n : (B (x :: y :: u)).extract 2 (u.length + 1 + 1) = B u := B_from (x :: y :: u) 2 _ rfl
          have hgt : decide ((1 : Int) < (((y :: u).length : Nat) : Int) + 1) = true := decide_eq_true (by rw [List.length_cons];omega)
          have HG := Lib.hid (sign_any y)
          simp only [List.length_cons] at hgt hsz h1n
          cases hsg : sgn y with
          | true =>
            rw [hsg] at HG
            have hst : stp (x :: y :: u) = ([y],2) := by rw [h92];exact stp_sgn y u hsg
            clear hrd h92 hsg
            have hp4 : (B [y]).size ≤ 4 := by rw [B_size];simp
            have hpd : (B [y]).data.toList = [y] := B_data _
            go_wp2_with fail
            refine (HG.out _).mono ?_
            rintro e w1 ⟨rfl,hb1⟩
            have HB1 := Lib.hid (HB.out.trans (hb1.mono hbs))
            have HI1 := Lib.hid (isB_belowU HI.out hb1)
            have hbs1 := HB1.out.size
            clear hb1
            have HF := Lib.hid (step_to s acc [y] x (y :: u) 2 hst hl HS.out HE.out)
            have hS4 := Lib.hid (show acc.length + (B [y]).size ≤ 140737488355328 by have := HS.out;have := hp4;omega)
            have HSd := Lib.hid (show (B [y]).data.toList = [y] from hpd)
            clear hst hl HS HE hp4 hpd
            go_wp2_with fail
            with_reducible refine (Tryz.Builder_WriteString w.heap.size w.heap.size _ (B [y]) _ HI1.out (by rw [Lib.byteCells_length];exact hS4.out) hbs1).mono ?_
            rintro e w2 ⟨rfl,h2,b2⟩
            rw [wr_str,HSd.out] at h2
            have HI2 := Lib.hid h2
            have HB2 := Lib.hid (HB1.out.trans b2)
            clear h2 b2
            go_wp2
            go_roundw
            case rel => exact ⟨_,_,rfl,HF.out.1,Lib.hid HF.out.2.1,Lib.hid HF.out.2.2.1,Lib.hid (.inr HI2.out),HB2⟩
            case measure =>
              change (B ((x :: y :: u).drop 2)).size < (B (x :: y :: u)).size
              rw [B_size,B_size]
              exact HF.out.2.2.2
          | false =>
            rw [hsg] at HG
            have hst : stp (x :: y :: u) = ([x],1) := stp_one x (y :: u) (fun _ y' u' e => by cases e;exact hsg) hrd
            clear hrd h92 hsg
            have hp4 : (B [x]).size ≤ 4 := by rw [B_size];simp
            have hpd : (B [x]).data.toList = [x] := B_data _
            go_wp2_with fail
            refine (HG.out _).mono ?_
            rintro e w1 ⟨rfl,hb1⟩
            have HB1 := Lib.hid (HB.out.trans (hb1.mono hbs))
            have HI1 := Lib.hid (isB_belowU HI.out hb1)
            have hbs1 := HB1.out.size
            clear hb1
            have HF := Lib.hid (step_to s acc [x] x (y :: u) 1 hst hl HS.out HE.out)
            have hS4 := Lib.hid (show acc.length + (B [x]).size ≤ 140737488355328 by have := HS.out;have := hp4;omega)
            have HSd := Lib.hid (show (B [x]).data.toList = [x] from hpd)
            clear hst hl HS HE hp4 hpd
            go_wp2_with fail
            with_reducible refine (Tryz.Builder_WriteString w.heap.size w.heap.size _ (B [x]) _ HI1.out (by rw [Lib.byteCells_length];exact hS4.out) hbs1).mono ?_
            rintro e w2 ⟨rfl,h2,b2⟩
            rw [wr_str,HSd.out] at h2
            have HI2 := Lib.hid h2
            have HB2 := Lib.hid (HB1.out.trans b2)
            clear h2 b2
            go_wp2
            go_roundw
            case rel => exact ⟨_,_,rfl,HF.out.1,Lib.hid HF.out.2.1,Lib.hid HF.out.2.2.1,Lib.hid (.inr HI2.out),HB2⟩
            case measure =>
              change (B ((x :: y :: u).drop 1)).size < (B (x :: y :: u)).size
              rw [B_size,B_size]
              exact HF.out.2.2.2
      · have q92 : ((x.toNat : Int) == 92) = false := beq_eq_false_iff_ne.2 (fun e => h92 ((u8_eq x 92 (by decide)).1 e))
        by_cases h38 : x = 38
        · have q38 : ((x.toNat : Int) == 38) = true := by rw [h38];rfl
          have HRd := Lib.hid (fun W hW => read_walk (x :: t) (by rw [List.length_cons] at hl ⊢;omega) W hW)
          by_cases hk : 0 < (rdE (x :: t)).2
          · have hst0 : stp (x :: t) = ((rdE (x :: t)).1.data.toList,(rdE (x :: t)).2.toNat) := by rw [stp_cons,if_neg (fun e => h92 e.1),if_pos hk]
            obtain ⟨kn,hkn⟩ := Int.eq_ofNat_of_zero_le (show 0 ≤ (rdE (x :: t)).2 by omega)
            have hle := stp_le x t
            have hl4 := stp_len (x :: t)
            obtain ⟨Q,hQ⟩ : ∃ Q,(rdE (x :: t)).1 = Q := ⟨_,rfl⟩
            rw [hst0] at hle hl4
            simp only [hkn,hQ,Int.toNat_natCast] at hle hl4
            rw [hkn,hQ] at HRd
            have hst : stp (x :: t) = (Q.data.toList,kn) := by rw [hst0,hkn,hQ,Int.toNat_natCast]
            have qk : decide (0 < (kn : Int)) = true := decide_eq_true (by omega)
            have qk2 : 0 < kn := by omega
            have qk3 : (0 : Int) < (kn : Int) := by omega
            have hp4 : Q.size ≤ 4 * s.length := by
              have e : Q.data.toList.length = Q.size := Array.length_toList
              omega
            have hpd : Q.data.toList = Q.data.toList := rfl
            have hkn2 : kn ≤ t.length + 1 := by rw [List.length_cons] at hle;exact hle
            have hkn3 : kn ≤ (B (x :: t)).size := by rw [hsz];exact hkn2
            have hkx : (B (x :: t)).extract kn (t.length + 1) = B ((x :: t).drop kn) := B_from (x :: t) kn _ rfl
            clear hst0 hkn hQ hle hl4 hk h92 h38
            go_wp2_with fail
            refine (HRd.out _ (HL.out.go HB.out)).mono ?_
            rintro e w1 ⟨rfl,hb1⟩
            have HB1 := Lib.hid (HB.out.trans (hb1.mono hbs))
            have HI1 := Lib.hid (isB_belowU HI.out hb1)
            have hbs1 := HB1.out.size
            clear hb1
            have HF := Lib.hid (step_to s acc Q.data.toList x (t) kn hst hl HS.out HE.out)
            have hS4 := Lib.hid (show acc.length + Q.size ≤ 140737488355328 by have := HS.out;have := hp4;omega)
            have HSd := Lib.hid (show (Q).data.toList = Q.data.toList from rfl)
            clear hst hl HS HE hp4
            go_wp2_with fail
            with_reducible refine (Tryz.Builder_WriteString w.heap.size w.heap.size _ (Q) _ HI1.out (by rw [Lib.byteCells_length];exact hS4.out) hbs1).mono ?_
            rintro e w2 ⟨rfl,h2,b2⟩
            rw [wr_str] at h2
            have HI2 := Lib.hid h2
            have HB2 := Lib.hid (HB1.out.trans b2)
            clear h2 b2
            go_wp2
            go_roundw
            case rel => exact ⟨_,_,rfl,HF.out.1,Lib.hid HF.out.2.1,Lib.hid HF.out.2.2.1,Lib.hid (.inr HI2.out),HB2⟩
            case measure =>
              change (B ((x :: t).drop kn)).size < (B (x :: t)).size
              rw [B_size,B_size]
              exact HF.out.2.2.2
          · have hst : stp (x :: t) = ([x],1) := stp_one x t (fun e => absurd e h92) hk
            have hr0 : rdE (x :: t) = (⟨#[]⟩,0) := by
              rcases rdE_cases (x :: t) with h | ⟨d,u,he,_,_,hr⟩
              · exact h
              · rw [hr] at hk
                exact absurd (show (0 : Int) < (d.length : Int) + 2 by omega) hk
            rw [hr0] at HRd
            clear hr0 hk h92 h38
            have hp4 : (B [x]).size ≤ 4 := by rw [B_size];simp
            have hpd : (B [x]).data.toList = [x] := B_data _
            go_wp2_with fail
            refine (HRd.out _ (HL.out.go HB.out)).mono ?_
            rintro e w1 ⟨rfl,hb1⟩
            have HB1 := Lib.hid (HB.out.trans (hb1.mono hbs))
            have HI1 := Lib.hid (isB_belowU HI.out hb1)
            have hbs1 := HB1.out.size
            clear hb1
            have HF := Lib.hid (step_to s acc [x] x (t) 1 hst hl HS.out HE.out)
            have hS4 := Lib.hid (show acc.length + (B [x]).size ≤ 140737488355328 by have := HS.out;have := hp4;omega)
            have HSd := Lib.hid (show (B [x]).data.toList = [x] from hpd)
            clear hst hl HS HE hp4 hpd
            go_wp2_with fail
            with_reducible refine (Tryz.Builder_WriteString w.heap.size w.heap.size _ (B [x]) _ HI1.out (by rw [Lib.byteCells_length];exact hS4.out) hbs1).mono ?_
            rintro e w2 ⟨rfl,h2,b2⟩
            rw [wr_str,HSd.out] at h2
            have HI2 := Lib.hid h2
            have HB2 := Lib.hid (HB1.out.trans b2)
            clear h2 b2
            go_wp2
            go_roundw
            case rel => exact ⟨_,_,rfl,HF.out.1,Lib.hid HF.out.2.1,Lib.hid HF.out.2.2.1,Lib.hid (.inr HI2.out),HB2⟩
            case measure =>
              change (B ((x :: t).drop 1)).size < (B (x :: t)).size
              rw [B_size,B_size]
              exact HF.out.2.2.2
        · have q38 : ((x.toNat : Int) == 38) = false := beq_eq_false_iff_ne.2 (fun e => h38 ((u8_eq x 38 (by decide)).1 e))
          have hst : stp (x :: t) = ([x],1) := stp_plain x t h92 h38
          clear h92 h38
          have hp4 : (B [x]).size ≤ 4 := by rw [B_size];simp
          have hpd : (B [x]).data.toList = [x] := B_data _
          have HB1 := HB
          have HI1 := HI
          have hbs1 := hbs
          have HF := Lib.hid (step_to s acc [x] x (t) 1 hst hl HS.out HE.out)
          have hS4 := Lib.hid (show acc.length + (B [x]).size ≤ 140737488355328 by have := HS.out;have := hp4;omega)
          have HSd := Lib.hid (show (B [x]).data.toList = [x] from hpd)
          clear hst hl HS HE hp4 hpd
          go_wp2_with fail
          with_reducible refine (Tryz.Builder_WriteString w.heap.size w.heap.size _ (B [x]) _ HI1.out (by rw [Lib.byteCells_length];exact hS4.out) hbs1).mono ?_
          rintro e w2 ⟨rfl,h2,b2⟩
          rw [wr_str,HSd.out] at h2
          have HI2 := Lib.hid h2
          have HB2 := Lib.hid (HB1.out.trans b2)
          clear h2 b2
          go_wp2
          go_roundw
          case rel => exact ⟨_,_,rfl,HF.out.1,Lib.hid HF.out.2.1,Lib.hid HF.out.2.2.1,Lib.hid (.inr HI2.out),HB2⟩
          case measure =>
            change (B ((x :: t).drop 1)).size < (B (x :: t)).size
            rw [B_size,B_size]
            exact HF.out.2.2.2
end Go.Proofs.YtekifcbokdidlaaGreatDoor.PA

namespace Go.Proofs.YtekifcbokdidlaaGreatDoor.PA
open Go.RowKit Go.Proofs.YtekifcbokdidlaaGreatDoor.Pl Go.Proofs.YtekifcbokdidlaaGreatDoor.Pure Go.Proofs.YtekifcbokdidlaaGreatDoorW.PrintWords Go.Proofs.YtekifcbokdidlaaGreatDoorW.PrintLast Go.Proofs.YtekifcbokdidlaaGreatDoorW.PrintMore
set_option linter.unusedVariables false

/-- How far the bytes go that are not told. -/
def eachL (p : UInt8 → Bool) : List UInt8 → Nat
  | [] => 0
  | [x] => if p x = true then 0 else 1
  | x :: y :: t => if x = 92 ∧ sgn y = true then eachL p t + 2 else if p x = true then 0 else eachL p (y :: t) + 1
theorem each_esc (p : UInt8 → Bool) (x y : UInt8) (t : List UInt8) (h : x = 92) (h2 : sgn y = true) : eachL p (x :: y :: t) = eachL p t + 2 := by rw [eachL,if_pos ⟨h,h2⟩]
theorem each_one (p : UInt8 → Bool) (x : UInt8) (t : List UInt8) (h : x = 92 → ∀ y u,t = y :: u → sgn y = false) : eachL p (x :: t) = if p x = true then 0 else eachL p t + 1 := by
  cases t with
  | nil => rfl
  | cons y u =>
    rw [eachL,if_neg]
    rintro ⟨h1,h2⟩
    rw [h h1 y u rfl] at h2
    cases h2
/-- The label's end. -/
def pLab (x : UInt8) : Bool := decide (x = 91) || decide (x = 93)
theorem lab1 (x : UInt8) (w : World) : Calls Tryz.prog 46 #[.int .u8 (x.toNat : Int)] w fun e w' => e = .returned (.bool (pLab x)) ∧ w = w' := by
  have e1 : ((x.toNat : Int) = 91) ↔ x = 91 := u8_eq _ 91 (by omega)
  have e2 : ((x.toNat : Int) = 93) ↔ x = 93 := u8_eq _ 93 (by omega)
  by_cases h1 : x = 91
  · have HD := Lib.hid (show pLab x = true by unfold pLab;rw [decide_eq_true h1];rfl)
    have q : ((x.toNat : Int) == 91) = true := beq_iff_eq.2 (e1.2 h1)
    clear e1 e2 h1
    go_enter Tryz.func46,Tryz.ntmps46
    go_wp2
    go_ret
    exact ⟨congrArg (fun z => Ending.returned (.bool z)) HD.out.symm,rfl⟩
  · have q : ((x.toNat : Int) == 91) = false := beq_eq_false_iff_ne.2 (fun e => h1 (e1.1 e))
    by_cases h2 : x = 93
    · have HD := Lib.hid (show pLab x = true by unfold pLab;rw [decide_eq_true h2,Bool.or_true])
      have q2 : ((x.toNat : Int) == 93) = true := beq_iff_eq.2 (e2.2 h2)
      clear e1 e2 h1 h2
      go_enter Tryz.func46,Tryz.ntmps46
      go_wp2
      go_ret
      exact ⟨congrArg (fun z => Ending.returned (.bool z)) HD.out.symm,rfl⟩
    · have HD := Lib.hid (show pLab x = false by unfold pLab;rw [decide_eq_false h1,decide_eq_false h2];rfl)
      have q2 : ((x.toNat : Int) == 93) = false := beq_eq_false_iff_ne.2 (fun e => h2 (e2.1 e))
      clear e1 e2 h1 h2
      go_enter Tryz.func46,Tryz.ntmps46
      go_wp2
      go_ret
      exact ⟨congrArg (fun z => Ending.returned (.bool z)) HD.out.symm,rfl⟩
theorem eachL_le (p : UInt8 → Bool) : ∀ l : List UInt8,eachL p l ≤ l.length
  | [] => Nat.le_refl _
  | [x] => by unfold eachL;split <;> simp
  | x :: y :: t => by
    have h1 := eachL_le p t
    have h2 := eachL_le p (y :: t)
    unfold eachL
    split
    · simp only [List.length_cons];omega
    · split
      · exact Nat.zero_le _
      · simp only [List.length_cons] at h2 ⊢;omega
set_option maxHeartbeats 4000000 in
set_option maxRecDepth 100000 in
theorem each_lab (s : List UInt8) (hs : s.length ≤ 1099511627776) (f : Nat) (hf : f ≤ s.length) (w : World) : Calls Tryz.prog 45 #[.string (B s),.int .i64 f,.func (.func 46) #[] #[]] w fun e w' => e = .returned (.int .i64 ((f + eachL pLab (s.drop f) : Nat) : Int)) ∧ Below w.heap.size w w' := by
  have hsz : (B s).size = s.length := B_size s
  obtain ⟨R,hR⟩ : ∃ R,f + eachL pLab (s.drop f) = R := ⟨_,rfl⟩
  rw [hR]
  go_enter Tryz.func45,Tryz.ntmps45
  go_wp2
  go_loopw [7] (fun vi wr => ∃ k : Nat,vi = .int .i64 k ∧ k ≤ s.length ∧ Hid (k + eachL pLab (s.drop k) = R) ∧ Hid (Below w.heap.size w wr))
    (fun vi _ => s.length - (intOf vi).toNat)
  case atStart => exact ⟨f,rfl,hf,hR,Below.refl _ _⟩
  case round =>
    obtain ⟨k,rfl,hk,HA,HB⟩ := hrel
    by_cases hkn : k < s.length
    · have hks : k < (B s).size := by omega
      have hi : (B s)[k]'hks = s[k] := List.getElem_toArray hkn
      obtain ⟨x,hx⟩ : ∃ x,s[k] = x := ⟨_,rfl⟩
      have hdr : s.drop k = x :: s.drop (k + 1) := by rw [← hx];exact List.drop_eq_getElem_cons hkn
      rw [hx] at hi
      have hA := HA.out
      rw [hdr] at hA
      have hsz2 := HB.out.size
      by_cases h92 : x = 92
      · have q : (((x.toNat : Nat) : Int) == 92) = true := by rw [h92];rfl
        by_cases hk1 : k + 1 < s.length
        · have hks1 : k + 1 < (B s).size := by omega
          have hi1 : (B s)[k + 1]'hks1 = s[k + 1] := List.getElem_toArray hk1
          have q1 : decide ((k : Int) + 1 < (s.length : Int)) = true := decide_eq_true (by omega)
          obtain ⟨y,hy⟩ : ∃ y,s[k + 1] = y := ⟨_,rfl⟩
          have hdr2 : s.drop (k + 1) = y :: s.drop (k + 2) := by rw [← hy];exact List.drop_eq_getElem_cons hk1
          rw [hy] at hi1
          rw [hdr2] at hA
          have HS := Lib.hid (sign_any y wr)
          cases hsg : sgn y with
          | true =>
            rw [each_esc pLab x y _ h92 hsg] at hA
            have HR := Lib.hid (show (k + 2) + eachL pLab (s.drop (k + 2)) = R by omega)
            clear hA hdr hdr2 h92 hx hy
            go_wp2_with fail
            refine HS.out.mono ?_
            rintro e w2 ⟨rfl,hb2⟩
            rw [hsg]
            have HB2 := Lib.hid (HB.out.trans (hb2.mono hsz2))
            clear hb2 HS hsg HB
            go_wp2
            go_roundw
            case rel => exact ⟨k + 2,by go_num,by omega,HR,HB2⟩
            case measure => simp [intOf];omega
          | false =>
            rw [each_one pLab x _ (fun _ y' u e => by cases e;exact hsg),← hdr2] at hA
            clear hdr hdr2 h92 hx hy
            go_wp2_with fail
            refine HS.out.mono ?_
            rintro e w2 ⟨rfl,hb2⟩
            rw [hsg]
            have HB2 := Lib.hid (HB.out.trans (hb2.mono hsz2))
            clear hb2 HS hsg HB
            go_wp2_with fail
            refine (lab1 x _).mono ?_
            rintro e w3 ⟨rfl,rfl⟩
            cases hp : pLab x with
            | true =>
              rw [hp,if_pos rfl] at hA
              have HR := Lib.hid hA
              clear hA hp
              go_wp2
              go_ret
              exact ⟨congrArg (fun z => Ending.returned (.int .i64 z)) (by have := HR.out;omega),HB2.out⟩
            | false =>
              rw [hp,if_neg (by decide)] at hA
              have HR := Lib.hid (show (k + 1) + eachL pLab (s.drop (k + 1)) = R by omega)
              clear hA hp
              go_wp2
              go_roundw
              case rel => exact ⟨k + 1,by go_num,by omega,HR,HB2⟩
              case measure => simp [intOf];omega
        · have q1 : decide ((k : Int) + 1 < (s.length : Int)) = false := decide_eq_false (by omega)
          have hnil : s.drop (k + 1) = [] := List.drop_of_length_le (by omega)
          rw [each_one pLab x _ (fun _ y' u e => by rw [hnil] at e;cases e)] at hA
          clear hdr h92 hx hnil
          go_wp2_with fail
          refine (lab1 x _).mono ?_
          rintro e w3 ⟨rfl,rfl⟩
          cases hp : pLab x with
          | true =>
            rw [hp,if_pos rfl] at hA
            have HR := Lib.hid hA
            clear hA hp
            go_wp2
            go_ret
            exact ⟨congrArg (fun z => Ending.returned (.int .i64 z)) (by have := HR.out;omega),HB.out⟩
          | false =>
            rw [hp,if_neg (by decide)] at hA
            have HR := Lib.hid (show (k + 1) + eachL pLab (s.drop (k + 1)) = R by omega)
            clear hA hp
            go_wp2
            go_roundw
            case rel => exact ⟨k + 1,by go_num,by omega,HR,HB⟩
            case measure => simp [intOf];omega
      · have q : (((x.toNat : Nat) : Int) == 92) = false := beq_eq_false_iff_ne.2 (fun e => h92 ((u8_eq x 92 (by omega)).1 e))
        rw [each_one pLab x _ (fun e => absurd e h92)] at hA
        clear hdr h92 hx
        go_wp2_with fail
        refine (lab1 x _).mono ?_
        rintro e w3 ⟨rfl,rfl⟩
        cases hp : pLab x with
        | true =>
          rw [hp,if_pos rfl] at hA
          have HR := Lib.hid hA
          clear hA hp
          go_wp2
          go_ret
          exact ⟨congrArg (fun z => Ending.returned (.int .i64 z)) (by have := HR.out;omega),HB.out⟩
        | false =>
          rw [hp,if_neg (by decide)] at hA
          have HR := Lib.hid (show (k + 1) + eachL pLab (s.drop (k + 1)) = R by omega)
          clear hA hp
          go_wp2
          go_roundw
          case rel => exact ⟨k + 1,by go_num,by omega,HR,HB⟩
          case measure => simp [intOf];omega
    · have hnil : s.drop k = [] := List.drop_of_length_le (by omega)
      have HR := Lib.hid (show s.length = R by have := HA.out;rw [hnil] at this;simp [eachL] at this;omega)
      clear HA hnil
      go_wp2
      go_ret
      exact ⟨congrArg (fun z => Ending.returned (.int .i64 z)) (by have := HR.out;omega),HB.out⟩
end Go.Proofs.YtekifcbokdidlaaGreatDoor.PA

namespace Go.Proofs.YtekifcbokdidlaaGreatDoor.PA
open Go.RowKit Go.Proofs.YtekifcbokdidlaaGreatDoor.Pl Go.Proofs.YtekifcbokdidlaaGreatDoor.Pure Go.Proofs.YtekifcbokdidlaaGreatDoorW.PrintWords Go.Proofs.YtekifcbokdidlaaGreatDoorW.PrintLast Go.Proofs.YtekifcbokdidlaaGreatDoorW.PrintMore
set_option linter.unusedVariables false

/-- The address' end. -/
def pAng (x : UInt8) : Bool := decide (x = 60) || decide (x = 62) || decide (x = 10)
theorem ang1 (x : UInt8) (w : World) : Calls Tryz.prog 76 #[.int .u8 (x.toNat : Int)] w fun e w' => e = .returned (.bool (pAng x)) ∧ w = w' := by
  have e0 : ((x.toNat : Int) = 60) ↔ x = 60 := u8_eq _ 60 (by omega)
  have e1 : ((x.toNat : Int) = 62) ↔ x = 62 := u8_eq _ 62 (by omega)
  have e2 : ((x.toNat : Int) = 10) ↔ x = 10 := u8_eq _ 10 (by omega)
  by_cases h0 : x = 60
  · have HD := Lib.hid (show pAng x = true by rw [h0];decide)
    have q0 : ((x.toNat : Int) == 60) = true := beq_iff_eq.2 (e0.2 h0)
    clear h0
    clear e0 e1 e2
    go_enter Tryz.func76,Tryz.ntmps76
    go_wp2
    go_ret
    exact ⟨congrArg (fun z => Ending.returned (.bool z)) HD.out.symm,rfl⟩
  · have q0 : ((x.toNat : Int) == 60) = false := beq_eq_false_iff_ne.2 (fun e => h0 (e0.1 e))
    by_cases h1 : x = 62
    · have HD := Lib.hid (show pAng x = true by rw [h1];decide)
      have q1 : ((x.toNat : Int) == 62) = true := beq_iff_eq.2 (e1.2 h1)
      clear h0 h1
      clear e0 e1 e2
      go_enter Tryz.func76,Tryz.ntmps76
      go_wp2
      go_ret
      exact ⟨congrArg (fun z => Ending.returned (.bool z)) HD.out.symm,rfl⟩
    · have q1 : ((x.toNat : Int) == 62) = false := beq_eq_false_iff_ne.2 (fun e => h1 (e1.1 e))
      by_cases h2 : x = 10
      · have HD := Lib.hid (show pAng x = true by rw [h2];decide)
        have q2 : ((x.toNat : Int) == 10) = true := beq_iff_eq.2 (e2.2 h2)
        clear h0 h1 h2
        clear e0 e1 e2
        go_enter Tryz.func76,Tryz.ntmps76
        go_wp2
        go_ret
        exact ⟨congrArg (fun z => Ending.returned (.bool z)) HD.out.symm,rfl⟩
      · have q2 : ((x.toNat : Int) == 10) = false := beq_eq_false_iff_ne.2 (fun e => h2 (e2.1 e))
        have HD := Lib.hid (show pAng x = false by unfold pAng;rw [decide_eq_false h0,decide_eq_false h1,decide_eq_false h2];rfl)
        clear h0 h1 h2
        clear e0 e1 e2
        go_enter Tryz.func76,Tryz.ntmps76
        go_wp2
        go_ret
        exact ⟨congrArg (fun z => Ending.returned (.bool z)) HD.out.symm,rfl⟩
set_option maxHeartbeats 4000000 in
set_option maxRecDepth 100000 in
theorem each_ang (s : List UInt8) (hs : s.length ≤ 1099511627776) (f : Nat) (hf : f ≤ s.length) (w : World) : Calls Tryz.prog 45 #[.string (B s),.int .i64 f,.func (.func 76) #[] #[]] w fun e w' => e = .returned (.int .i64 ((f + eachL pAng (s.drop f) : Nat) : Int)) ∧ Below w.heap.size w w' := by
  have hsz : (B s).size = s.length := B_size s
  obtain ⟨R,hR⟩ : ∃ R,f + eachL pAng (s.drop f) = R := ⟨_,rfl⟩
  rw [hR]
  go_enter Tryz.func45,Tryz.ntmps45
  go_wp2
  go_loopw [7] (fun vi wr => ∃ k : Nat,vi = .int .i64 k ∧ k ≤ s.length ∧ Hid (k + eachL pAng (s.drop k) = R) ∧ Hid (Below w.heap.size w wr))
    (fun vi _ => s.length - (intOf vi).toNat)
  case atStart => exact ⟨f,rfl,hf,hR,Below.refl _ _⟩
  case round =>
    obtain ⟨k,rfl,hk,HA,HB⟩ := hrel
    by_cases hkn : k < s.length
    · have hks : k < (B s).size := by omega
      have hi : (B s)[k]'hks = s[k] := List.getElem_toArray hkn
      obtain ⟨x,hx⟩ : ∃ x,s[k] = x := ⟨_,rfl⟩
      have hdr : s.drop k = x :: s.drop (k + 1) := by rw [← hx];exact List.drop_eq_getElem_cons hkn
      rw [hx] at hi
      have hA := HA.out
      rw [hdr] at hA
      have hsz2 := HB.out.size
      by_cases h92 : x = 92
      · have q : (((x.toNat : Nat) : Int) == 92) = true := by rw [h92];rfl
        by_cases hk1 : k + 1 < s.length
        · have hks1 : k + 1 < (B s).size := by omega
          have hi1 : (B s)[k + 1]'hks1 = s[k + 1] := List.getElem_toArray hk1
          have q1 : decide ((k : Int) + 1 < (s.length : Int)) = true := decide_eq_true (by omega)
          obtain ⟨y,hy⟩ : ∃ y,s[k + 1] = y := ⟨_,rfl⟩
          have hdr2 : s.drop (k + 1) = y :: s.drop (k + 2) := by rw [← hy];exact List.drop_eq_getElem_cons hk1
          rw [hy] at hi1
          rw [hdr2] at hA
          have HS := Lib.hid (sign_any y wr)
          cases hsg : sgn y with
          | true =>
            rw [each_esc pAng x y _ h92 hsg] at hA
            have HR := Lib.hid (show (k + 2) + eachL pAng (s.drop (k + 2)) = R by omega)
            clear hA hdr hdr2 h92 hx hy
            go_wp2_with fail
            refine HS.out.mono ?_
            rintro e w2 ⟨rfl,hb2⟩
            rw [hsg]
            have HB2 := Lib.hid (HB.out.trans (hb2.mono hsz2))
            clear hb2 HS hsg HB
            go_wp2
            go_roundw
            case rel => exact ⟨k + 2,by go_num,by omega,HR,HB2⟩
            case measure => simp [intOf];omega
          | false =>
            rw [each_one pAng x _ (fun _ y' u e => by cases e;exact hsg),← hdr2] at hA
            clear hdr hdr2 h92 hx hy
            go_wp2_with fail
            refine HS.out.mono ?_
            rintro e w2 ⟨rfl,hb2⟩
            rw [hsg]
            have HB2 := Lib.hid (HB.out.trans (hb2.mono hsz2))
            clear hb2 HS hsg HB
            go_wp2_with fail
            refine (ang1 x _).mono ?_
            rintro e w3 ⟨rfl,rfl⟩
            cases hp : pAng x with
            | true =>
              rw [hp,if_pos rfl] at hA
              have HR := Lib.hid hA
              clear hA hp
              go_wp2
              go_ret
              exact ⟨congrArg (fun z => Ending.returned (.int .i64 z)) (by have := HR.out;omega),HB2.out⟩
            | false =>
              rw [hp,if_neg (by decide)] at hA
              have HR := Lib.hid (show (k + 1) + eachL pAng (s.drop (k + 1)) = R by omega)
              clear hA hp
              go_wp2
              go_roundw
              case rel => exact ⟨k + 1,by go_num,by omega,HR,HB2⟩
              case measure => simp [intOf];omega
        · have q1 : decide ((k : Int) + 1 < (s.length : Int)) = false := decide_eq_false (by omega)
          have hnil : s.drop (k + 1) = [] := List.drop_of_length_le (by omega)
          rw [each_one pAng x _ (fun _ y' u e => by rw [hnil] at e;cases e)] at hA
          clear hdr h92 hx hnil
          go_wp2_with fail
          refine (ang1 x _).mono ?_
          rintro e w3 ⟨rfl,rfl⟩
          cases hp : pAng x with
          | true =>
            rw [hp,if_pos rfl] at hA
            have HR := Lib.hid hA
            clear hA hp
            go_wp2
            go_ret
            exact ⟨congrArg (fun z => Ending.returned (.int .i64 z)) (by have := HR.out;omega),HB.out⟩
          | false =>
            rw [hp,if_neg (by decide)] at hA
            have HR := Lib.hid (show (k + 1) + eachL pAng (s.drop (k + 1)) = R by omega)
            clear hA hp
            go_wp2
            go_roundw
            case rel => exact ⟨k + 1,by go_num,by omega,HR,HB⟩
            case measure => simp [intOf];omega
      · have q : (((x.toNat : Nat) : Int) == 92) = false := beq_eq_false_iff_ne.2 (fun e => h92 ((u8_eq x 92 (by omega)).1 e))
        rw [each_one pAng x _ (fun e => absurd e h92)] at hA
        clear hdr h92 hx
        go_wp2_with fail
        refine (ang1 x _).mono ?_
        rintro e w3 ⟨rfl,rfl⟩
        cases hp : pAng x with
        | true =>
          rw [hp,if_pos rfl] at hA
          have HR := Lib.hid hA
          clear hA hp
          go_wp2
          go_ret
          exact ⟨congrArg (fun z => Ending.returned (.int .i64 z)) (by have := HR.out;omega),HB.out⟩
        | false =>
          rw [hp,if_neg (by decide)] at hA
          have HR := Lib.hid (show (k + 1) + eachL pAng (s.drop (k + 1)) = R by omega)
          clear hA hp
          go_wp2
          go_roundw
          case rel => exact ⟨k + 1,by go_num,by omega,HR,HB⟩
          case measure => simp [intOf];omega
    · have hnil : s.drop k = [] := List.drop_of_length_le (by omega)
      have HR := Lib.hid (show s.length = R by have := HA.out;rw [hnil] at this;simp [eachL] at this;omega)
      clear HA hnil
      go_wp2
      go_ret
      exact ⟨congrArg (fun z => Ending.returned (.int .i64 z)) (by have := HR.out;omega),HB.out⟩
end Go.Proofs.YtekifcbokdidlaaGreatDoor.PA
