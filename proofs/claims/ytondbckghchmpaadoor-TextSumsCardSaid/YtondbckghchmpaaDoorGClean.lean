/-
  The contract of text.Clean: every list of bytes; the tables of unicode/utf8 as their initialisers lay them ('Laid').
-/
import Derived.Test.YtondbckghchmpaaDoorPAx0
import Derived.Test.YtondbckghchmpaaDoorShelf
import Derived.Test.YtondbckghchmpaaDoorTxt
import Derived.Test.YtondbckghchmpaaDoorGLaid
import Derived.WalkKit
import Derived.BigCall
import Derived.Lib.BufferWrite
namespace Go.Proofs.YtondbckghchmpaaDoor.PA
open Go.RowKit Go.Proofs.YtondbckghchmpaaDoorW.PrintWords Go.Proofs.YtondbckghchmpaaDoorW.PrintLast Go.Proofs.YtondbckghchmpaaDoorW.PrintMore Go.Proofs.YtondbckghchmpaaDoor.Pl
set_option linter.unusedVariables false

theorem ext240 : Builder.Extra Tryd.prog Tryd.lays240_ren := {
  sizeBuilder := by kernel_rfl,
  liesBuilder := by kernel_rfl,
  t5 := Tryd.underlying5,
  a5 := Tryd.isAgg5,
  z5 := Tryd.sizeOf5,
  v5 := Tryd.zeroValue5,
  infoByte := by kernel_rfl,
  cellsByte := by kernel_rfl,
  sizeByte := by kernel_rfl,
  neB5 := by decide }
theorem bWrite (B b : Nat) (bs : List Value) (ad : Addr) (m c : Nat) (news : List Value) (w : World) (h : Lib.IsBuilder 40 5 B b bs w)
    (hl : news.length = m) (hnews : ∀ j u, news[j]? = some u → w.cell? (ad.add j) = some u) (hadB : ad.block < B) (h1 : ∀ u ∈ news, u.oneCell' = true)
    (hlen : bs.length + m ≤ 140737488355328) (hBw : B ≤ w.heap.size) :
    Calls Tryd.prog 29 #[.pointer (some ⟨b, 0, none⟩), .slice (some ad) m c] w fun e w' => e = .returned (.tuple #[.int .i64 m, .nilIface]) ∧ (Lib.BuilderAt 40 5 B b (.pointer (some ⟨b, 0, none⟩)) (bs ++ news) w' ∧ Below B w w') :=
  Any7.Builder_Write Tryd.lays7_35 Tryd.lays240 ext240 rfl rfl rfl B b bs ad m c news w h hl hnews hadB h1 hlen hBw
theorem isB_below {T e B b : Nat} {bs : List Value} {w w' : World} (h : Lib.IsBuilder T e B b bs w) (hb : Below w.heap.size w w') : Lib.IsBuilder T e B b bs w' := by
  have go : ∀ p, Lib.BuilderAt T e B b p bs w → Lib.BuilderAt T e B b p bs w' := by
    intro p h
    have hlt := h.lt
    obtain ⟨h1, v, h2, h3, h4⟩ := h
    exact ⟨h1, v, (hb.block _ hlt).trans h2, pw_own_below h3 hb, h4⟩
  rcases h with h | h
  · exact .inl (go _ h)
  · exact .inr (go _ h)
/-- A row of bytes that is read: where it lies. -/
theorem bytes_lie {w : World} {A : Option Addr} {l : List Int} (h : Kd.C (Kd.int .u8) w A l.length l) (h0 : 0 < l.length) :
    ∃ b off, A = some ⟨b, off, none⟩ ∧ b < w.heap.size ∧ ∀ j, j < l.length → w.cell? ⟨b, off + j, none⟩ = some (.int .u8 (l.getD j 0)) := by
  obtain ⟨ad, rfl, hc⟩ := h.2.2 h0
  have hcell : ∀ j, j < l.length → w.cell? (ad.add j) = some (.int .u8 (l.getD j 0)) := by
    intro j hj
    obtain ⟨c, hl, hr, hx⟩ := hc j _ (List.getElem?_eq_getElem hj)
    have hr' : c = [.int .u8 l[j]] := hr
    subst hr'
    have := hx 0 (.int .u8 l[j]) rfl
    simp only [show (Kd.int .u8).sz = 1 from rfl, Nat.mul_one, Nat.add_zero] at this
    rw [this, List.getD_eq_getElem?_getD, List.getElem?_eq_getElem hj]
    rfl
  have h00 := hcell 0 h0
  obtain ⟨b, off, sp⟩ := ad
  have hsp : sp = none := by
    cases sp with
    | none => rfl
    | some q =>
      simp only [Addr.add, if_true, World.cell?] at h00
      split at h00 <;> simp at h00
  subst hsp
  refine ⟨b, off, rfl, World.block_lt_of_cell? w _ h00, fun j hj => ?_⟩
  rw [← hcell j hj]
  congr 1
  unfold Addr.add
  split
  · rename_i e; subst e; rfl
  · rfl
theorem u8s_get (l : List Int) (hok : okB l = true) (j : Nat) (hj : j < l.length) : ((u8s l).getD j 0).toNat = (l.getD j 0).toNat ∧ 0 ≤ l.getD j 0 ∧ l.getD j 0 < 256 := by
  have hx := List.all_eq_true.1 hok l[j] (List.getElem_mem hj)
  simp only [decide_eq_true_eq] at hx
  have e1 : l.getD j 0 = l[j] := by rw [List.getD_eq_getElem?_getD, List.getElem?_eq_getElem hj]; rfl
  have e2 : (u8s l).getD j 0 = l[j].toNat.toUInt8 := by
    rw [List.getD_eq_getElem?_getD]
    simp [u8s, hj]
  rw [e1, e2]
  refine ⟨?_, hx.1, hx.2⟩
  rw [Nat.toUInt8, UInt8.toNat_ofNat']
  omega
theorem u8s_length (l : List Int) : (u8s l).length = l.length := by simp [u8s]
theorem okB_drop (l : List Int) (n : Nat) (h : okB l = true) : okB (l.drop n) = true := by
  unfold okB at *
  rw [List.all_eq_true] at *
  exact fun x hx => h x (List.mem_of_mem_drop hx)
/-- The decoder at a row of bytes. -/
theorem decode_row (l : List Int) (b off c : Nat) (w : World) (hL : Laid w) (hok : okB l = true) (hc : ∀ j, j < l.length → w.cell? ⟨b, off + j, none⟩ = some (.int .u8 (l.getD j 0))) :
    Calls Tryd.prog 28 #[.slice (some ⟨b, off, none⟩) l.length c] w fun e w' => e = .returned (.tuple #[.int .i32 (dec (u8s l)).1, .int .i64 (dec (u8s l)).2]) ∧ Below w.heap.size w w' := by
  have hs : (ByteArray.mk (u8s l).toArray).size = l.length := by
    show (u8s l).toArray.size = _
    simp [u8s]
  have := Any7.utf8_DecodeRune Tryd.lays7_32 ⟨(u8s l).toArray⟩ b off c w hL.tabs (by
    intro j hj
    rw [hs] at hj
    rw [hc j hj, get_list]
    obtain ⟨e1, e2, e3⟩ := u8s_get l hok j hj
    rw [e1, Int.toNat_of_nonneg e2])
  rw [hs] at this
  exact this
/-- A row that is cut in front, by a number. -/
theorem cutD {w : World} {A : Option Addr} {c : Nat} {l : List Int} (hr : Kd.C (Kd.int .u8) w A l.length l) (hc : l.length ≤ c) (j : Int) (h0 : 0 ≤ j) (hj : j ≤ l.length) :
    ∃ A1 c1, (∀ W, (Instr.slice 29 (.slice A l.length c) (some (.int .i64 j)) none none).run Tryd.prog W = .ok (.slice A1 (l.drop j.toNat).length c1) W) ∧ (l.drop j.toNat).length ≤ c1 ∧ Kd.C (Kd.int .u8) w A1 (l.drop j.toNat).length (l.drop j.toNat) := by
  obtain ⟨i0, hi0, _, hsz0, _⟩ := info_parts info5
  have hcut := cut_from (P := Tryd.prog) 29 5 .i64 Tryd.underlying29 hi0 1 hsz0 A l.length c j h0 hj
  have h1 := Kd.C_drop (m := j.toNat) hr (by omega) hc
  exact ⟨_, c - j.toNat, fun W => by rw [hcut W, List.length_drop]; rfl, by rw [List.length_drop]; omega, h1⟩
theorem cutT {A : Option Addr} {c : Nat} {l : List Int} (hc : l.length ≤ c) (j : Int) (h0 : 0 ≤ j) (hj : j ≤ l.length) :
    ∀ W, (Instr.slice 29 (.slice A l.length c) none (some (.int .i64 j)) none).run Tryd.prog W = .ok (.slice A j.toNat c) W := by
  obtain ⟨i0, hi0, _, hsz0, _⟩ := info_parts info5
  exact cut_to (P := Tryd.prog) 29 5 .i64 Tryd.underlying29 hi0 A l.length c j h0 hj hc
theorem row_cells {w : World} {b off nn : Nat} {l : List Int} (hok : okB l = true) (hn : nn ≤ l.length) (hc : ∀ j, j < l.length → w.cell? ⟨b, off + j, none⟩ = some (.int .u8 (l.getD j 0))) :
    ∀ j u, (Lib.byteCells (u8s (l.take nn)))[j]? = some u → w.cell? ((⟨b, off, none⟩ : Addr).add j) = some u := by
  intro j u hu
  have hj : j < (Lib.byteCells (u8s (l.take nn))).length := (List.getElem?_eq_some_iff.1 hu).1
  rw [Lib.byteCells_length, u8s_length, List.length_take] at hj
  have hj2 : j < l.length := by omega
  have e1 : (⟨b, off, none⟩ : Addr).add j = ⟨b, off + j, none⟩ := by
    unfold Addr.add
    split
    · rename_i e; subst e; rfl
    · rfl
  rw [e1, hc j hj2, ← hu]
  obtain ⟨g1, g2, g3⟩ := u8s_get l hok j hj2
  have e2 : (u8s (l.take nn))[j]? = some ((u8s l).getD j 0) := by
    have : u8s (l.take nn) = (u8s l).take nn := by simp [u8s]
    rw [this, List.getElem?_take, if_pos (by omega), List.getD_eq_getElem?_getD, List.getElem?_eq_getElem (by rw [u8s_length]; exact hj2)]
    rfl
  rw [Lib.byteCells, List.getElem?_map, e2, Option.map_some, g1, Int.toNat_of_nonneg g2]

set_option maxHeartbeats 2000000 in
set_option maxRecDepth 100000 in
theorem text_Clean.walk (A0 : Option Addr) (c0 : Nat) (l0 : List Int) (w : World) (hLd : Laid w) (hr0 : Kd.C (Kd.int .u8) w A0 l0.length l0) (hc0 : l0.length ≤ c0) (hok : okB l0 = true) (hn : l0.length ≤ 40000000000000) :
    Calls Tryd.prog 18 #[.slice A0 l0.length c0] w fun e w' => e = .returned (.string ⟨(clean (u8s l0)).toArray⟩) ∧ Below w.heap.size w w' := by
  have HR := Aside0.mk hr0
  have HC := Aside0.mk hc0
  have HO := Aside0.mk hok
  have HN := Aside0.mk hn
  clear hr0 hc0 hok hn
  go_enter Tryd.func18, Tryd.ntmps18
  go_wp2
  go_step3
  go_wp2
  go_step3
  go_wp2
  go_loopg [0] l0.length (fun g v0 wr => ∃ (l : List Int) (A : Option Addr) (c : Nat) (acc : List UInt8), v0 = .slice A l.length c ∧ Aside0 (l.length ≤ c) ∧ Aside0 (l.length ≤ g) ∧ Aside0 (Kd.C (Kd.int .u8) w A l.length l) ∧ Aside0 (okB l = true) ∧ Aside0 (Lib.IsBuilder 40 5 w.heap.size w.heap.size (Lib.byteCells acc) wr) ∧ Aside0 (Below w.heap.size w wr) ∧ Aside0 (acc ++ clean (u8s l) = clean (u8s l0)) ∧ Aside0 (acc.length + 3 * l.length ≤ 3 * l0.length))
  case atStart =>
    exact ⟨l0, A0, c0, [], rfl, HC, ⟨Nat.le_refl _⟩, HR, HO, ⟨Lib.fresh_isBuilder _ _ w⟩, ⟨(Below.refl _ w).alloc (Nat.le_refl _) _⟩, ⟨rfl⟩, ⟨by simp⟩⟩
  case round =>
    obtain ⟨l, A, c, acc, rfl, HC1, HG, HR1, HO1, HI, HB, HE, HS⟩ := hrel
    clear HR HC HO
    by_cases hz : 0 < l.length
    · obtain ⟨b, off, rfl, hbl, hcell⟩ := bytes_lie HR1.out hz
      have hx0 := u8s_get l HO1.out 0 hz
      obtain ⟨x, hx⟩ : ∃ x : Int, l.getD 0 0 = x := ⟨_, rfl⟩
      obtain ⟨nn, hnn⟩ : ∃ nn : Nat, (dec (u8s l)).2 = nn := ⟨_, rfl⟩
      have hd := dec_len (u8s l) (by intro e; have := u8s_length l; rw [e] at this; simp at this; omega)
      rw [hnn, u8s_length] at hd
      have hbs := HB.out.size
      have hdec := fun W (hW : Below w.heap.size w W) => decode_row l b off c W (hLd.go hW) HO1.out (fun j hj => by rw [← hcell j hj]; exact hW.cell hbl)
      rw [hx] at hx0
      have HX := Aside0.mk hx
      have HNN := Aside0.mk hnn
      have HCE := Aside0.mk hcell
      have HX0 := Aside0.mk hx0
      have HD := Aside0.mk hdec
      have hx1 := hx0.2.1
      have hx2 := hx0.2.2
      have hd1 := hd.1
      have hd2 := hd.2
      clear hx hnn hcell hx0 hdec hd
      go_wp2_with fail
      refine (HD.out _ HB.out).mono ?_
      rintro e w1 ⟨rfl, hb1⟩
      rw [HNN.out]
      have hB1 : Below w.heap.size w w1 := below_then HB.out hbs hb1
      have hI1 := isB_below HI.out hb1
      have hc00 : w1.cell? ⟨b, off, none⟩ = some (.int .u8 x) := by rw [hB1.cell hbl, ← HX.out]; exact HCE.out 0 hz
      have HB1 := Aside0.mk hB1
      have HI1 := Aside0.mk hI1
      clear hB1 hI1 hb1 hbs
      have hbs1 := HB1.out.size
      obtain ⟨y, t, hyt⟩ : ∃ y t, u8s l = y :: t := by
        cases e : u8s l with
        | nil => have := u8s_length l; rw [e] at this; simp at this; omega
        | cons y t => exact ⟨y, t, rfl⟩
      have hy : y.toNat = x.toNat := by rw [← HX0.out.1, hyt]; rfl
      have HYT := Aside0.mk hyt
      by_cases hbad : y = 0 ∨ (nn = 1 ∧ 128 ≤ y.toNat)
      · have hq : (x == 0) = true ∨ ((x == 0) = false ∧ ((nn : Int) == 1) = true ∧ decide (128 ≤ x) = true) := by
          by_cases h0 : x = 0
          · exact .inl (beq_iff_eq.2 h0)
          · rcases hbad with e | ⟨e1, e2⟩
            · subst e
              have : x.toNat = 0 := hy.symm
              omega
            · exact .inr ⟨beq_eq_false_iff_ne.2 h0, beq_iff_eq.2 (by omega), decide_eq_true (by omega)⟩
        have he := clean_bad y t (by rw [← hyt, HNN.out]; exact hbad)
        have hdr : u8s (l.drop 1) = t := by
          have : (u8s l).drop 1 = t := by rw [hyt]; rfl
          rw [← this]
          simp [u8s]
        obtain ⟨A1, c1, k1, k2, k3⟩ := cutD HR1.out HC1.out 1 (by omega) (by omega)
        simp only [show (1 : Int).toNat = 1 from rfl] at k1 k2 k3
        have HEE : Aside0 ((acc ++ [239, 191, 189]) ++ clean (u8s (l.drop 1)) = clean (u8s l0)) := ⟨by rw [hdr, List.append_assoc, ← he, ← hyt]; exact HE.out⟩
        have hlen : (l.drop 1).length + 1 = l.length := by rw [List.length_drop]; omega
        have HOK : Aside0 (okB (l.drop 1) = true) := ⟨okB_drop l 1 HO1.out⟩
        have HL1 := Aside0.mk hlen
        generalize l.drop 1 = l1 at k1 k2 k3 HEE HL1 HOK
        have HK1 := Aside0.mk k1
        have HK2 := Aside0.mk k2
        have HK3 := Aside0.mk k3
        clear k1 k2 k3 he hdr hbad hy hyt hlen
        rcases hq with q1 | ⟨q1, q2, q3⟩
        all_goals
          go_wp2_with fail
          refine (Tryd.Builder_WriteString w.heap.size w.heap.size _ ⟨#[239, 191, 189]⟩ _ HI1.out (by rw [Lib.byteCells_length]; have := HS.out; have := HN.out; show acc.length + 3 ≤ _; omega) hbs1).mono ?_
          rintro e w2 ⟨rfl, h2, b2⟩
          have H2 := Aside0.mk h2
          have HB2 := Aside0.mk (HB1.out.trans b2)
          clear h2 b2
          have hk := HK1.out
          go_wp2
          go_roundg (gk - 1)
          case measure => have := HG.out; omega
          case rel =>
            refine ⟨l1, A1, c1, acc ++ [239, 191, 189], rfl, HK2, ⟨by have := HL1.out; have := HG.out; omega⟩, HK3, HOK, ⟨?_⟩, HB2, HEE, ⟨by have := HL1.out; have := HS.out; rw [List.length_append]; show acc.length + 3 + _ ≤ _; omega⟩⟩
            rw [Lib.byteCells_append]
            exact .inr H2.out
      · have hq : ((x == 0) = false ∧ ((nn : Int) == 1) = false) ∨ ((x == 0) = false ∧ ((nn : Int) == 1) = true ∧ decide (128 ≤ x) = false) := by
          have h0 : x ≠ 0 := by
            intro e
            subst e
            exact hbad (.inl (UInt8.toNat_inj.1 (by rw [hy]; rfl)))
          by_cases h1 : nn = 1
          · exact .inr ⟨beq_eq_false_iff_ne.2 h0, beq_iff_eq.2 (by omega), decide_eq_false (fun h => hbad (.inr ⟨h1, by omega⟩))⟩
          · exact .inl ⟨beq_eq_false_iff_ne.2 h0, beq_eq_false_iff_ne.2 (by omega)⟩
        have he := clean_good y t (by rw [← hyt, HNN.out]; exact hbad)
        rw [← hyt, HNN.out] at he
        have htk : (u8s l).take nn = u8s (l.take nn) := by simp [u8s]
        have hdr : (u8s l).drop nn = u8s (l.drop nn) := by simp [u8s]
        rw [htk, hdr] at he
        obtain ⟨A1, c1, k1, k2, k3⟩ := cutD HR1.out HC1.out (nn : Int) (by omega) (by omega)
        have k4 := cutT (A := some ⟨b, off, none⟩) HC1.out (nn : Int) (by omega) (by omega)
        simp only [Int.toNat_natCast] at k1 k2 k3 k4
        have HEE : Aside0 ((acc ++ u8s (l.take nn)) ++ clean (u8s (l.drop nn)) = clean (u8s l0)) := ⟨by rw [List.append_assoc, ← he]; exact HE.out⟩
        have hlen : (l.drop nn).length + nn = l.length := by rw [List.length_drop]; omega
        have HOK : Aside0 (okB (l.drop nn) = true) := ⟨okB_drop l nn HO1.out⟩
        have HL1 := Aside0.mk hlen
        have HLW : Aside0 (∀ j u, (Lib.byteCells (u8s (l.take nn)))[j]? = some u → w1.cell? ((⟨b, off, none⟩ : Addr).add j) = some u) := ⟨row_cells HO1.out hd2 (fun j hj => by rw [HB1.out.cell (p := ⟨b, off + j, none⟩) hbl]; exact HCE.out j hj)⟩
        have HLT : Aside0 ((Lib.byteCells (u8s (l.take nn))).length = nn) := ⟨by rw [Lib.byteCells_length, u8s_length, List.length_take]; omega⟩
        generalize l.drop nn = l1 at k1 k2 k3 HEE HL1 HOK
        generalize u8s (l.take nn) = tk at HEE HLW HLT
        have HK1 := Aside0.mk k1
        have HK2 := Aside0.mk k2
        have HK3 := Aside0.mk k3
        clear k1 k2 k3 he hdr htk hbad hy hyt hlen
        rcases hq with ⟨q1, q2⟩ | ⟨q1, q2, q3⟩
        all_goals
          go_wp2_with fail
          refine (bWrite w.heap.size w.heap.size _ _ nn c (Lib.byteCells tk) _ HI1.out HLT.out HLW.out hbl (Lib.byteCells_one tk) (by rw [Lib.byteCells_length]; have := HS.out; have := HN.out; omega) hbs1).mono ?_
          rintro e w2 ⟨rfl, h2, b2⟩
          have H2 := Aside0.mk h2
          have HB2 := Aside0.mk (HB1.out.trans b2)
          clear h2 b2 k4
          have hk := HK1.out
          go_wp2
          go_roundg (gk - 1)
          case measure => have := HG.out; omega
          case rel =>
            refine ⟨l1, A1, c1, acc ++ tk, rfl, HK2, ⟨by have := HL1.out; have := HG.out; omega⟩, HK3, HOK, ⟨?_⟩, HB2, HEE, ⟨by have := HL1.out; have := HS.out; have := HLT.out; rw [Lib.byteCells_length] at this; rw [List.length_append]; omega⟩⟩
            rw [Lib.byteCells_append]
            exact .inr H2.out
    · have hl0 : l = [] := List.length_eq_zero_iff.1 (by omega)
      subst hl0
      have hbs := HB.out.size
      clear hz
      go_wp2_with (go_at_call 26; refine (Tryd.Builder_String_any w.heap.size w.heap.size acc _ HI.out hbs).mono ?_; rintro e w1 ⟨rfl, hb1⟩)
      repeat (first | refine ex_noGoto_ret ?_ | refine ex_block_ret ?_ | refine ex_then_ret ?_)
      go_ret
      have hne : acc = clean (u8s l0) := (List.append_nil acc).symm.trans HE.out
      exact ⟨congrArg (fun z : List UInt8 => Ending.returned (.string ⟨z.toArray⟩)) hne, HB.out.trans hb1⟩

def text_Clean.f (l0 : List Int) : Option ByteArray := if okB l0 = true ∧ l0.length ≤ 40000000000000 then some ⟨(clean (u8s l0)).toArray⟩ else none
theorem text_Clean.calls (A0 : Option Addr) (c0 : Nat) (l0 : List Int) (r : ByteArray) (w : World) (hLd : Laid w) (hr0 : Kd.C (Kd.int .u8) w A0 l0.length l0) (hc0 : l0.length ≤ c0) (h : text_Clean.f l0 = some r) :
    Calls Tryd.prog 18 #[.slice A0 l0.length c0] w fun e w' => e = .returned (.string r) ∧ Below w.heap.size w w' := by
  unfold text_Clean.f at h
  split at h
  · rename_i hc
    obtain ⟨h1, h2⟩ := hc
    obtain rfl := Option.some.inj h
    exact text_Clean.walk A0 c0 l0 w hLd hr0 hc0 h1 h2
  · cases h
end Go.Proofs.YtondbckghchmpaaDoor.PA
