/-
  The contract of the reference's Runes. Condition: a text of at most 10^5 bytes.
-/
import Derived.Test.YtondbckghchmpaaDoorPCln
import Derived.WalkKit
import Derived.BigCall
import Derived.Lib.Hide
namespace Go.Proofs.YtondbckghchmpaaDoor.PA
open Go.RowKit Go.Proofs.YtondbckghchmpaaDoorW.PrintWords Go.Proofs.YtondbckghchmpaaDoorW.PrintLast Go.Proofs.YtondbckghchmpaaDoorW.PrintMore Go.Proofs.YtondbckghchmpaaDoor.Pl
set_option linter.unusedVariables false

theorem bo_nms (l : List UInt8) : bytesOf (B l) = nms l := by
  unfold bytesOf nms
  rw [B_data]
/-- What the loop needs of a cleaned text that is left. -/
structure Lft (l m : List UInt8) (n : Nat) : Prop where
  n1 : 1 ≤ n
  nl : n ≤ l.length
  good : ∀ k, 7 ≤ k → incipitref01_good.f k (nms l) = some (n : Int)
  rest : l.drop n = m
  cl : clean m = m
  ch : chars l = ((dec l).1 : Int) :: chars m
  val : (n = 1 ∧ (dec l).1 = (l.getD 0 0).toNat) ∨
    (n = 2 ∧ 1 < l.length ∧ (dec l).1 = ((l.getD 0 0).toNat - 192) * 64 + (l.getD 1 0).toNat - 128 ∧ 194 ≤ (l.getD 0 0).toNat ∧ (l.getD 0 0).toNat ≤ 223 ∧ 128 ≤ (l.getD 1 0).toNat ∧ (l.getD 1 0).toNat ≤ 191) ∨
    (n = 3 ∧ 2 < l.length ∧ (dec l).1 = (((l.getD 0 0).toNat - 224) * 64 + (l.getD 1 0).toNat - 128) * 64 + (l.getD 2 0).toNat - 128 ∧ 224 ≤ (l.getD 0 0).toNat ∧ (l.getD 0 0).toNat ≤ 239 ∧ 128 ≤ (l.getD 1 0).toNat ∧ (l.getD 1 0).toNat ≤ 191 ∧ 128 ≤ (l.getD 2 0).toNat ∧ (l.getD 2 0).toNat ≤ 191) ∨
    (n = 4 ∧ 3 < l.length ∧ (dec l).1 = ((((l.getD 0 0).toNat - 240) * 64 + (l.getD 1 0).toNat - 128) * 64 + (l.getD 2 0).toNat - 128) * 64 + (l.getD 3 0).toNat - 128 ∧ 240 ≤ (l.getD 0 0).toNat ∧ (l.getD 0 0).toNat ≤ 244 ∧ 128 ≤ (l.getD 1 0).toNat ∧ (l.getD 1 0).toNat ≤ 191 ∧ 128 ≤ (l.getD 2 0).toNat ∧ (l.getD 2 0).toNat ≤ 191 ∧ 128 ≤ (l.getD 3 0).toNat ∧ (l.getD 3 0).toNat ≤ 191)
theorem lft (l : List UInt8) (h : l ≠ []) (hc : clean l = l) : ∃ m n, Lft l m n := by
  obtain ⟨c, l', hch, e, _⟩ := clean_step l h
  rw [hc] at e
  have hcl : clean (clean l') = clean l' := clean_clean l'
  generalize clean l' = m at e hcl
  obtain ⟨x, t, rfl⟩ := List.exists_cons_of_ne_nil h
  have hd : (dec (x :: t)).2 = c.length := by rw [e]; exact hch.dec m
  have hx : c.getD 0 0 = x := by
    obtain ⟨y, c2, rfl⟩ := List.exists_cons_of_ne_nil hch.ne
    rw [List.cons_append] at e
    exact (List.cons.inj e).1.symm
  have hg := hch.good
  rw [hx, ← hd] at hg
  have hlen : (x :: t).length = c.length + m.length := by rw [e, List.length_append]
  have hpos : 1 ≤ c.length := List.length_pos_iff.2 hch.ne
  rcases gl_dec x t with ⟨_, d, k⟩ | ⟨g, d, _⟩
  · exact absurd ⟨d, k⟩ hg
  · refine ⟨m, c.length, hpos, by omega, fun k hk => ?_, by rw [e, List.drop_left' rfl], hcl, by rw [e]; exact chars_chunk c m hch, ?_⟩
    · obtain ⟨j, rfl⟩ : ∃ j, k = j + 7 := ⟨k - 7, by omega⟩
      rw [← hd, ← g]
      exact good_eq (x :: t) (by simp) j
    · have hv := gN_dec (x :: t).length ((x :: t).getD 0 0).toNat ((x :: t).getD 1 0).toNat ((x :: t).getD 2 0).toNat ((x :: t).getD 3 0).toNat (UInt8.toNat_lt _) (UInt8.toNat_lt _) (UInt8.toNat_lt _) (UInt8.toNat_lt _)
      rw [← dec_eq (x :: t) (by simp)] at hv
      rcases hv with ⟨_, v, k⟩ | ⟨_, v, k⟩ | ⟨_, v, k⟩ | ⟨_, v, k⟩ | ⟨_, v, k⟩
      · exact absurd ⟨by rw [v], k⟩ hg
      · exact .inl ⟨by rw [← hd, v], by rw [v]⟩
      · exact .inr (.inl ⟨by rw [← hd, v], k.1, by rw [v], k.2⟩)
      · exact .inr (.inr (.inl ⟨by rw [← hd, v], k.1, by rw [v], k.2⟩))
      · exact .inr (.inr (.inr ⟨by rw [← hd, v], k.1, by rw [v], k.2⟩))
theorem C_block {w w' : World} {gb off n : Nat} {xs : List Int} (h : Kd.C (Kd.int .u8) w (some ⟨gb, off, none⟩) n xs) (hb : w'.heap[gb]? = w.heap[gb]?) : Kd.C (Kd.int .u8) w' (some ⟨gb, off, none⟩) n xs := by
  obtain ⟨h1, h2, h3⟩ := h
  refine ⟨h1, h2, fun hp => ?_⟩
  obtain ⟨ad, e, hc⟩ := h3 hp
  cases e
  refine ⟨_, rfl, fun j p hj => ?_⟩
  obtain ⟨c, k1, k2, k3⟩ := hc j p hj
  refine ⟨c, k1, k2, fun i u hu => ?_⟩
  rw [← k3 i u hu]
  refine World.cell?_of_block ?_
  have e : ((⟨gb, off, none⟩ : Addr).add (j * (Kd.int .u8).sz + i)).block = gb := by
    unfold Addr.add
    split <;> rfl
  rw [e]
  exact hb
set_option maxHeartbeats 8000000 in
set_option maxRecDepth 100000 in
theorem refrunes_walk (k : Nat) (s : List UInt8) (hs : s.length ≤ 100000) (hk : incipitref01_Clean.f k (nms s) = some (B (clean s))) (h7 : 7 ≤ k) (w : World) :
    Calls Tryd.prog 20 #[.string (B s)] w fun e w' => ∃ v0_, e = .returned v0_ ∧ Kd.R (Kd.int .i32) 21 w' w.heap.size (fun _ => True) v0_ (chars (clean s)) ∧ Below w.heap.size w w' := by
  have hsz : (B s).size = s.length := B_size s
  have hcz : (B (clean s)).size = (clean s).length := B_size _
  have hcl := clean_le s
  have kb : ∀ W, (convert 9 29 (.string (B s))).run Tryd.prog W = .ok (.slice (some ⟨W.heap.size, 0, none⟩) s.length (grownCap W s.length 0 5)) (Lib.bytesWorld W 5 (B s)) := fun W => by
    have h := print_bytes (P := Tryd.prog) 9 29 5 Tryd.underlying9 Tryd.underlying29 Tryd.underlying5 (B s) W
    rw [hsz] at h
    exact h
  have hrd : ∀ (W : World) (l : List UInt8), l.length ≤ 1000000 → Kd.C (Kd.int .u8) (Lib.bytesWorld W 5 (B l)) (some ⟨W.heap.size, 0, none⟩) l.length (nms l) := fun W l hl => by
    have h := bytes_reads W 5 (B l) (by rw [B_size]; omega)
    rw [B_size, bo_nms] at h
    exact Kd.C_of_reads (d := (0 : Int)) (h1 := fun _ => rfl) h
  have hcall : Calls Tryd.prog 21 #[.slice (some ⟨w.heap.size, 0, none⟩) s.length (grownCap w s.length 0 5)] (Lib.bytesWorld w 5 (B s)) fun e w' => e = .returned (.string (B (clean s))) ∧ Below w.heap.size w w' := by
    have h1 := hrd w s (by omega)
    have hV : Kd.V (Kd.int .u8) 5 (Lib.bytesWorld w 5 (B s)) (Lib.bytesWorld w 5 (B s)).heap.size (fun k_ => k_ < (Lib.bytesWorld w 5 (B s)).heap.size) (.slice (some ⟨w.heap.size, 0, none⟩) (nms s).length (grownCap w s.length 0 5)) (nms s) := by
      refine Kd.V_mk (by rw [nms_len]; exact grownCap_ge _ _ _ _) ?_
      rw [nms_len]
      exact Kd.C_F (Kd.heap_int .u8) h1
    have h2 := incipitref01_Clean.calls k _ (some ⟨w.heap.size, 0, none⟩) (grownCap w s.length 0 5) (nms s) (B (clean s)) _ hV hk
    rw [nms_len] at h2
    have hb := bytes_below (Below.refl w.heap.size w) (Nat.le_refl _) 5 (B s)
    exact h2.mono (fun e w' h => ⟨h.1, hb.trans (h.2.mono hb.size)⟩)
  have hconv : ∀ W, (convert 9 29 (.string (B (clean s)))).run Tryd.prog W = .ok (.slice (some ⟨W.heap.size, 0, none⟩) (clean s).length (grownCap W (clean s).length 0 5)) (Lib.bytesWorld W 5 (B (clean s))) := fun W => by
    have h := print_bytes (P := Tryd.prog) 9 29 5 Tryd.underlying9 Tryd.underlying29 Tryd.underlying5 (B (clean s)) W
    rw [hcz] at h
    exact h
  have hcc := clean_clean s
  obtain ⟨C, hC⟩ : ∃ C, clean s = C := ⟨_, rfl⟩
  have hrdC := fun W => hrd W C (by rw [← hC]; omega)
  rw [hC] at hcall hcl hcc hconv ⊢
  have hCl : C.length ≤ 300000 := by omega
  have HCall := Lib.hid hcall
  have HRd := Lib.hid hrdC
  have HCC := Lib.hid hcc
  have HCv := Lib.hid hconv
  have kb1 := kb w
  clear hcall hrdC hrd hk hC hcz hsz hcc hcl hconv kb
  go_enter Tryd.func20, Tryd.ntmps20
  go_wp2_with fail
  refine HCall.out.mono ?_
  rintro e w1 ⟨rfl, hb1⟩
  have hcv := HCv.out w1
  have hge : C.length ≤ grownCap w1 C.length 0 5 := grownCap_ge _ _ _ _
  obtain ⟨gc, hgc⟩ : ∃ gc, grownCap w1 C.length 0 5 = gc := ⟨_, rfl⟩
  rw [hgc] at hcv hge
  have hb1s := hb1.size
  have hR1 := HRd.out w1
  have hB2 := bytes_below hb1 hb1s 5 (B C)
  have hgb : w1.heap.size < (Lib.bytesWorld w1 5 (B C)).heap.size := by rw [Lib.bytesWorld_size]; exact Nat.lt_succ_self _
  generalize Lib.bytesWorld w1 5 (B C) = w2 at hcv hR1 hB2 hgb
  obtain ⟨gb, hgbe⟩ : ∃ gb, w1.heap.size = gb := ⟨_, rfl⟩
  rw [hgbe] at hcv hR1 hgb hb1s
  have HR2 := Lib.hid hR1
  have HB2 := Lib.hid hB2
  clear hR1 hB2 HCall HRd HCv hb1 kb1 hgc
  go_wp2
  go_loopw [3, 4] (fun v3 v4 wr => ∃ (l : List UInt8) (off c : Nat) (acc : List Int), v4 = .slice (some ⟨gb, off, none⟩) l.length c ∧ l.length ≤ c ∧ l.length ≤ 300000 ∧ gb < wr.heap.size ∧ Hid (Kd.C (Kd.int .u8) wr (some ⟨gb, off, none⟩) l.length (nms l)) ∧ Hid (clean l = l) ∧ Hid (acc ++ chars l = chars C) ∧ Hid (acc.length + l.length ≤ 300000) ∧ Hid (Kd.R (Kd.int .i32) 21 wr w.heap.size (fun k_ => k_ ≠ gb) v3 acc) ∧ Hid (Below w.heap.size w wr)) (fun _ v4 _ => match v4 with | .slice _ n _ => n | _ => 0)
  case atStart => exact ⟨C, 0, gc, [], rfl, hge, hCl, hgb, HR2, HCC, Lib.hid rfl, Lib.hid (by simpa using hCl), Lib.hid (Kd.R_nil _ _ _ _ _), HB2⟩
  case round =>
    clear HR2 HCC HB2 hge hgb
    obtain ⟨l, off, c, acc, rfl, hlc, hll, hgw, HC, HCl, HA, HAl, HR, HB⟩ := hrel
    by_cases hl0 : l = []
    · subst hl0
      have HA2 : Hid (acc = chars C) := Lib.hid ((List.append_nil acc).symm.trans HA.out)
      go_wp2
      repeat (first | refine ex_noGoto_ret ?_ | refine ex_block_ret ?_ | refine ex_then_ret ?_)
      go_ret
      exact ⟨_, rfl, HA2.out ▸ Kd.R_mono HR.out (fun _ _ => trivial), HB.out⟩
    · obtain ⟨m, n, hL⟩ := lft l hl0 HCl.out
      have hpos : 0 < l.length := List.length_pos_iff.2 hl0
      have hgood : Calls Tryd.prog 30 #[.slice (some ⟨gb, off, none⟩) l.length c] wr fun e w' => e = .returned (.int .i64 (n : Int)) ∧ Drawn0 wr w' := by
        have h := incipitref01_good.calls k (some ⟨gb, off, none⟩) c (nms l) (n : Int) wr (by rw [nms_len]; exact HC.out) (by rw [nms_len]; exact hlc) (hL.good k h7)
        rw [nms_len] at h
        exact h
      have HG := Lib.hid hgood
      have HLf := Lib.hid hL
      clear hgood hL
      go_wp2_with fail
      refine HG.out.mono ?_
      rintro e w3 ⟨rfl, hd⟩
      obtain ⟨⟨nd, rfl⟩⟩ := hd
      obtain ⟨b', off', e, hbl, hcell0⟩ := bytes_lie (l := nms l) (by rw [nms_len]; exact HC.out) (by rw [nms_len]; exact hpos)
      cases e
      have hcell : ∀ j, j < l.length → (wr.drewN nd).cell? ⟨gb, off + j, none⟩ = some (.int .u8 ((l.getD j 0).toNat : Int)) := fun j hj => by
        have h := hcell0 j (by rw [nms_len]; exact hj)
        rw [World.cell?_drewN, h]
        congr 2
        have h2 := nms_rd l j
        unfold rd at h2
        rw [Int.toNat_natCast] at h2
        exact h2
      have HC3 := Lib.hid (Kd.C_drewN HC.out nd)
      have HR3 := Lib.hid (Kd.R_drewN HR.out nd)
      have HB3 := Lib.hid (pw_below_drewN HB.out nd)
      have hgw3 : gb < (wr.drewN nd).heap.size := hgw
      generalize wr.drewN nd = w3 at hcell HC3 HR3 HB3 hgw3 ⊢
      have c0 := hcell 0 hpos
      rw [Nat.add_zero] at c0
      obtain ⟨i0, hi0, hz0, hz1, hz2⟩ := info_parts info5
      have hcut := cut_from (P := Tryd.prog) 29 5 .i64 Tryd.underlying29 hi0 1 hz1 (some ⟨gb, off, none⟩) l.length c (n : Int) (by omega) (by have := HLf.out.nl; omega)
      have hdropC := Kd.C_drop (m := n) (show Kd.C (Kd.int .u8) w3 (some ⟨gb, off, none⟩) (nms l).length (nms l) by rw [nms_len]; exact HC3.out) (by rw [nms_len]; exact HLf.out.nl) (by rw [nms_len]; exact hlc)
      rw [Int.toNat_natCast] at hcut
      obtain ⟨off2, ho2⟩ : ∃ off2, (if c = n then some (⟨gb, off, none⟩ : Addr) else Option.map (fun x : Addr => x.add (n * 1)) (some (⟨gb, off, none⟩ : Addr))) = some (⟨gb, off2, none⟩ : Addr) := by
        split
        · exact ⟨off, rfl⟩
        · refine ⟨off + n, ?_⟩
          rw [Option.map_some, Nat.mul_one]
          congr 1
          unfold Addr.add
          split
          · rename_i e; subst e; rfl
          · rfl
      have hdropC2 : Kd.C (Kd.int .u8) w3 (some ⟨gb, off2, none⟩) ((nms l).drop n).length ((nms l).drop n) := ho2 ▸ hdropC
      rw [nms_drop, nms_len, HLf.out.rest] at hdropC2
      have HD := Lib.hid hdropC2
      have hlen : m.length = l.length - n := by rw [← HLf.out.rest, List.length_drop]
      rw [ho2, ← hlen] at hcut
      have hval := HLf.out.val
      have hw3s := HB3.out.size
      have b0l : (l.getD 0 0).toNat < 256 := UInt8.toNat_lt _
      have b1l : (l.getD 1 0).toNat < 256 := UInt8.toNat_lt _
      have b2l : (l.getD 2 0).toNat < 256 := UInt8.toNat_lt _
      have b3l : (l.getD 3 0).toNat < 256 := UInt8.toNat_lt _
      have hmc : m.length ≤ c - n := by omega
      have hml : m.length < l.length := by have := HLf.out.n1; omega
      clear HC HR HB hcell0 hbl HG hgw hdropC hdropC2 ho2
      rcases hval with ⟨rfl, hv⟩ | ⟨rfl, g1, hv, v1, v2, v3, v4⟩ | ⟨rfl, g1, hv, v1, v2, v3, v4, v5, v6⟩ | ⟨rfl, g1, hv, v1, v2, v3, v4, v5, v6, v7, v8⟩
      · have hcut2 : ∀ W, (Instr.slice 29 (.slice (some ⟨gb, off, none⟩) l.length c) (some (.int .i64 1)) none none).run Tryd.prog W = .ok (.slice (some ⟨gb, off2, none⟩) m.length (c - 1)) W := hcut
        clear hcell hcut
        generalize (l.getD 0 0).toNat = b0 at *
        generalize (l.getD 1 0).toNat = b1 at *
        generalize (l.getD 2 0).toNat = b2 at *
        generalize (l.getD 3 0).toNat = b3 at *
        obtain ⟨V, hV⟩ : ∃ V : Int, ((dec l).1 : Int) = V := ⟨_, rfl⟩
        have hVe : ([0, (b0 : Int)] : List Int).getD 1 0 = V := by rw [← hV, hv]; show (b0 : Int) = _; omega
        have HVE := Lib.hid hVe
        have HVV := Lib.hid hV
        clear hVe hv hV
        go_wp2
        go_loop [6, 7] (fun v6 v7 => ∃ i : Nat, 1 ≤ i ∧ i ≤ 1 ∧ v7 = .int .i64 (i : Int) ∧ v6 = .int .i32 (([0, (b0 : Int)] : List Int).getD i 0)) (fun _ v7 => 1 - (intOf v7).toNat)
        case atStart => exact ⟨1, by decide, by decide, rfl, congrArg (Value.int .i32) (by show _ = (b0 : Int); first | rfl | (unfold wrap32; omega))⟩
        case round =>
          obtain ⟨i, hi1, hi4, rfl, rfl⟩ := hrel
          rcases (by omega : i = 1) with rfl
          · rw [HVE.out]
            go_wp2_with (first | ((with_reducible refine gate_builtin (b := .append) (xs := #[.tmp 47, .tmp 49]) rfl ?_); at_builtin; refine Kd.R_append (Kd.int .i32) (w0 := w) w.heap.size rfl (.tmp 47) (.tmp 49) 33 21 (.int .i32 0) 4 rfl Tryd.underlying33 (by kernel_rfl) rfl (by decide) (by omega) u3 acc V [.int .i32 V] (fun k_ => k_ ≠ gb) (fun _ => False) rfl rfl ?aP (fun _ hk => hk.elim) ?aF ?aO ?aB ?aS ?aL ?_; (case aP => exact rfl); (case aF => intro k_ hk_; omega); (case aO => exact HR3.out); (case aB => exact HB3.out); (case aS => exact hw3s); (case aL => have := HAl.out; omega); intro v50 w4 ho hb hg hat; have HO4 := Lib.hid ho; have HB4 := Lib.hid hb; have HG4 := Lib.hid hg; clear ho hb hg hat))
            go_roundw
            case rel => exact ⟨m, off2, c - 1, acc ++ [V], by rw [hlen], hmc, by omega, Nat.lt_of_lt_of_le hgw3 HG4.out.size, Lib.hid (C_block HD.out (HG4.out.block gb hgw3 (fun e_ => HR3.out.1 gb e_.symm rfl))), Lib.hid HLf.out.cl, Lib.hid (by have h1 := HA.out; rw [HLf.out.ch, HVV.out] at h1; rw [← h1, List.append_assoc]; rfl), Lib.hid (by have h1 := HAl.out; rw [List.length_append, List.length_singleton]; omega), HO4, HB4⟩
            case measure => show l.length - 1 < l.length; omega
      · have hcut2 : ∀ W, (Instr.slice 29 (.slice (some ⟨gb, off, none⟩) l.length c) (some (.int .i64 2)) none none).run Tryd.prog W = .ok (.slice (some ⟨gb, off2, none⟩) m.length (c - 2)) W := hcut
        have c1 := hcell 1 (by omega)
        clear hcell hcut
        generalize (l.getD 0 0).toNat = b0 at *
        generalize (l.getD 1 0).toNat = b1 at *
        generalize (l.getD 2 0).toNat = b2 at *
        generalize (l.getD 3 0).toNat = b3 at *
        obtain ⟨V, hV⟩ : ∃ V : Int, ((dec l).1 : Int) = V := ⟨_, rfl⟩
        have hVe : ([0, (b0 : Int) - 192, ((b0 : Int) - 192) * 64 + b1 - 128] : List Int).getD 2 0 = V := by rw [← hV, hv]; show ((b0 : Int) - 192) * 64 + b1 - 128 = _; omega
        have HVE := Lib.hid hVe
        have HVV := Lib.hid hV
        clear hVe hv hV
        go_wp2
        go_loop [6, 7] (fun v6 v7 => ∃ i : Nat, 1 ≤ i ∧ i ≤ 2 ∧ v7 = .int .i64 (i : Int) ∧ v6 = .int .i32 (([0, (b0 : Int) - 192, ((b0 : Int) - 192) * 64 + b1 - 128] : List Int).getD i 0)) (fun _ v7 => 2 - (intOf v7).toNat)
        case atStart => exact ⟨1, by decide, by decide, rfl, congrArg (Value.int .i32) (by show _ = (b0 : Int) - 192; first | rfl | (unfold wrap32; omega))⟩
        case round =>
          obtain ⟨i, hi1, hi4, rfl, rfl⟩ := hrel
          rcases (by omega : i = 1 ∨ i = 2) with rfl | rfl
          · go_wp2
            go_round
            case rel => exact ⟨2, by decide, by decide, rfl, congrArg (Value.int .i32) (by show _ = ((b0 : Int) - 192) * 64 + b1 - 128; first | rfl | (simp only [List.getD_cons_succ, List.getD_cons_zero]; done) | (simp only [List.getD_cons_succ, List.getD_cons_zero]; unfold wrap32; omega) | (unfold wrap32; omega))⟩
            case measure => decide
          · rw [HVE.out]
            go_wp2_with (first | ((with_reducible refine gate_builtin (b := .append) (xs := #[.tmp 47, .tmp 49]) rfl ?_); at_builtin; refine Kd.R_append (Kd.int .i32) (w0 := w) w.heap.size rfl (.tmp 47) (.tmp 49) 33 21 (.int .i32 0) 4 rfl Tryd.underlying33 (by kernel_rfl) rfl (by decide) (by omega) u3 acc V [.int .i32 V] (fun k_ => k_ ≠ gb) (fun _ => False) rfl rfl ?aP (fun _ hk => hk.elim) ?aF ?aO ?aB ?aS ?aL ?_; (case aP => exact rfl); (case aF => intro k_ hk_; omega); (case aO => exact HR3.out); (case aB => exact HB3.out); (case aS => exact hw3s); (case aL => have := HAl.out; omega); intro v50 w4 ho hb hg hat; have HO4 := Lib.hid ho; have HB4 := Lib.hid hb; have HG4 := Lib.hid hg; clear ho hb hg hat))
            go_roundw
            case rel => exact ⟨m, off2, c - 2, acc ++ [V], by rw [hlen], hmc, by omega, Nat.lt_of_lt_of_le hgw3 HG4.out.size, Lib.hid (C_block HD.out (HG4.out.block gb hgw3 (fun e_ => HR3.out.1 gb e_.symm rfl))), Lib.hid HLf.out.cl, Lib.hid (by have h1 := HA.out; rw [HLf.out.ch, HVV.out] at h1; rw [← h1, List.append_assoc]; rfl), Lib.hid (by have h1 := HAl.out; rw [List.length_append, List.length_singleton]; omega), HO4, HB4⟩
            case measure => show l.length - 2 < l.length; omega
      · have hcut2 : ∀ W, (Instr.slice 29 (.slice (some ⟨gb, off, none⟩) l.length c) (some (.int .i64 3)) none none).run Tryd.prog W = .ok (.slice (some ⟨gb, off2, none⟩) m.length (c - 3)) W := hcut
        have c1 := hcell 1 (by omega)
        have c2 := hcell 2 (by omega)
        clear hcell hcut
        generalize (l.getD 0 0).toNat = b0 at *
        generalize (l.getD 1 0).toNat = b1 at *
        generalize (l.getD 2 0).toNat = b2 at *
        generalize (l.getD 3 0).toNat = b3 at *
        obtain ⟨V, hV⟩ : ∃ V : Int, ((dec l).1 : Int) = V := ⟨_, rfl⟩
        have hVe : ([0, (b0 : Int) - 224, ((b0 : Int) - 224) * 64 + b1 - 128, (((b0 : Int) - 224) * 64 + b1 - 128) * 64 + b2 - 128] : List Int).getD 3 0 = V := by rw [← hV, hv]; show (((b0 : Int) - 224) * 64 + b1 - 128) * 64 + b2 - 128 = _; omega
        have HVE := Lib.hid hVe
        have HVV := Lib.hid hV
        clear hVe hv hV
        go_wp2
        go_loop [6, 7] (fun v6 v7 => ∃ i : Nat, 1 ≤ i ∧ i ≤ 3 ∧ v7 = .int .i64 (i : Int) ∧ v6 = .int .i32 (([0, (b0 : Int) - 224, ((b0 : Int) - 224) * 64 + b1 - 128, (((b0 : Int) - 224) * 64 + b1 - 128) * 64 + b2 - 128] : List Int).getD i 0)) (fun _ v7 => 3 - (intOf v7).toNat)
        case atStart => exact ⟨1, by decide, by decide, rfl, congrArg (Value.int .i32) (by show _ = (b0 : Int) - 224; first | rfl | (unfold wrap32; omega))⟩
        case round =>
          obtain ⟨i, hi1, hi4, rfl, rfl⟩ := hrel
          rcases (by omega : i = 1 ∨ i = 2 ∨ i = 3) with rfl | rfl | rfl
          · go_wp2
            go_round
            case rel => exact ⟨2, by decide, by decide, rfl, congrArg (Value.int .i32) (by show _ = ((b0 : Int) - 224) * 64 + b1 - 128; first | rfl | (simp only [List.getD_cons_succ, List.getD_cons_zero]; done) | (simp only [List.getD_cons_succ, List.getD_cons_zero]; unfold wrap32; omega) | (unfold wrap32; omega))⟩
            case measure => decide
          · go_wp2
            go_round
            case rel => exact ⟨3, by decide, by decide, rfl, congrArg (Value.int .i32) (by show _ = (((b0 : Int) - 224) * 64 + b1 - 128) * 64 + b2 - 128; first | rfl | (simp only [List.getD_cons_succ, List.getD_cons_zero]; done) | (simp only [List.getD_cons_succ, List.getD_cons_zero]; unfold wrap32; omega) | (unfold wrap32; omega))⟩
            case measure => decide
          · rw [HVE.out]
            go_wp2_with (first | ((with_reducible refine gate_builtin (b := .append) (xs := #[.tmp 47, .tmp 49]) rfl ?_); at_builtin; refine Kd.R_append (Kd.int .i32) (w0 := w) w.heap.size rfl (.tmp 47) (.tmp 49) 33 21 (.int .i32 0) 4 rfl Tryd.underlying33 (by kernel_rfl) rfl (by decide) (by omega) u3 acc V [.int .i32 V] (fun k_ => k_ ≠ gb) (fun _ => False) rfl rfl ?aP (fun _ hk => hk.elim) ?aF ?aO ?aB ?aS ?aL ?_; (case aP => exact rfl); (case aF => intro k_ hk_; omega); (case aO => exact HR3.out); (case aB => exact HB3.out); (case aS => exact hw3s); (case aL => have := HAl.out; omega); intro v50 w4 ho hb hg hat; have HO4 := Lib.hid ho; have HB4 := Lib.hid hb; have HG4 := Lib.hid hg; clear ho hb hg hat))
            go_roundw
            case rel => exact ⟨m, off2, c - 3, acc ++ [V], by rw [hlen], hmc, by omega, Nat.lt_of_lt_of_le hgw3 HG4.out.size, Lib.hid (C_block HD.out (HG4.out.block gb hgw3 (fun e_ => HR3.out.1 gb e_.symm rfl))), Lib.hid HLf.out.cl, Lib.hid (by have h1 := HA.out; rw [HLf.out.ch, HVV.out] at h1; rw [← h1, List.append_assoc]; rfl), Lib.hid (by have h1 := HAl.out; rw [List.length_append, List.length_singleton]; omega), HO4, HB4⟩
            case measure => show l.length - 3 < l.length; omega
      · have hcut2 : ∀ W, (Instr.slice 29 (.slice (some ⟨gb, off, none⟩) l.length c) (some (.int .i64 4)) none none).run Tryd.prog W = .ok (.slice (some ⟨gb, off2, none⟩) m.length (c - 4)) W := hcut
        have c1 := hcell 1 (by omega)
        have c2 := hcell 2 (by omega)
        have c3 := hcell 3 (by omega)
        clear hcell hcut
        generalize (l.getD 0 0).toNat = b0 at *
        generalize (l.getD 1 0).toNat = b1 at *
        generalize (l.getD 2 0).toNat = b2 at *
        generalize (l.getD 3 0).toNat = b3 at *
        obtain ⟨V, hV⟩ : ∃ V : Int, ((dec l).1 : Int) = V := ⟨_, rfl⟩
        have hVe : ([0, (b0 : Int) - 240, ((b0 : Int) - 240) * 64 + b1 - 128, (((b0 : Int) - 240) * 64 + b1 - 128) * 64 + b2 - 128, ((((b0 : Int) - 240) * 64 + b1 - 128) * 64 + b2 - 128) * 64 + b3 - 128] : List Int).getD 4 0 = V := by rw [← hV, hv]; show ((((b0 : Int) - 240) * 64 + b1 - 128) * 64 + b2 - 128) * 64 + b3 - 128 = _; omega
        have HVE := Lib.hid hVe
        have HVV := Lib.hid hV
        clear hVe hv hV
        go_wp2
        go_loop [6, 7] (fun v6 v7 => ∃ i : Nat, 1 ≤ i ∧ i ≤ 4 ∧ v7 = .int .i64 (i : Int) ∧ v6 = .int .i32 (([0, (b0 : Int) - 240, ((b0 : Int) - 240) * 64 + b1 - 128, (((b0 : Int) - 240) * 64 + b1 - 128) * 64 + b2 - 128, ((((b0 : Int) - 240) * 64 + b1 - 128) * 64 + b2 - 128) * 64 + b3 - 128] : List Int).getD i 0)) (fun _ v7 => 4 - (intOf v7).toNat)
        case atStart => exact ⟨1, by decide, by decide, rfl, congrArg (Value.int .i32) (by show _ = (b0 : Int) - 240; first | rfl | (unfold wrap32; omega))⟩
        case round =>
          obtain ⟨i, hi1, hi4, rfl, rfl⟩ := hrel
          rcases (by omega : i = 1 ∨ i = 2 ∨ i = 3 ∨ i = 4) with rfl | rfl | rfl | rfl
          · go_wp2
            go_round
            case rel => exact ⟨2, by decide, by decide, rfl, congrArg (Value.int .i32) (by show _ = ((b0 : Int) - 240) * 64 + b1 - 128; first | rfl | (simp only [List.getD_cons_succ, List.getD_cons_zero]; done) | (simp only [List.getD_cons_succ, List.getD_cons_zero]; unfold wrap32; omega) | (unfold wrap32; omega))⟩
            case measure => decide
          · go_wp2
            go_round
            case rel => exact ⟨3, by decide, by decide, rfl, congrArg (Value.int .i32) (by show _ = (((b0 : Int) - 240) * 64 + b1 - 128) * 64 + b2 - 128; first | rfl | (simp only [List.getD_cons_succ, List.getD_cons_zero]; done) | (simp only [List.getD_cons_succ, List.getD_cons_zero]; unfold wrap32; omega) | (unfold wrap32; omega))⟩
            case measure => decide
          · go_wp2
            go_round
            case rel => exact ⟨4, by decide, by decide, rfl, congrArg (Value.int .i32) (by show _ = ((((b0 : Int) - 240) * 64 + b1 - 128) * 64 + b2 - 128) * 64 + b3 - 128; first | rfl | (simp only [List.getD_cons_succ, List.getD_cons_zero]; done) | (simp only [List.getD_cons_succ, List.getD_cons_zero]; unfold wrap32; omega) | (unfold wrap32; omega))⟩
            case measure => decide
          · rw [HVE.out]
            go_wp2_with (first | ((with_reducible refine gate_builtin (b := .append) (xs := #[.tmp 47, .tmp 49]) rfl ?_); at_builtin; refine Kd.R_append (Kd.int .i32) (w0 := w) w.heap.size rfl (.tmp 47) (.tmp 49) 33 21 (.int .i32 0) 4 rfl Tryd.underlying33 (by kernel_rfl) rfl (by decide) (by omega) u3 acc V [.int .i32 V] (fun k_ => k_ ≠ gb) (fun _ => False) rfl rfl ?aP (fun _ hk => hk.elim) ?aF ?aO ?aB ?aS ?aL ?_; (case aP => exact rfl); (case aF => intro k_ hk_; omega); (case aO => exact HR3.out); (case aB => exact HB3.out); (case aS => exact hw3s); (case aL => have := HAl.out; omega); intro v50 w4 ho hb hg hat; have HO4 := Lib.hid ho; have HB4 := Lib.hid hb; have HG4 := Lib.hid hg; clear ho hb hg hat))
            go_roundw
            case rel => exact ⟨m, off2, c - 4, acc ++ [V], by rw [hlen], hmc, by omega, Nat.lt_of_lt_of_le hgw3 HG4.out.size, Lib.hid (C_block HD.out (HG4.out.block gb hgw3 (fun e_ => HR3.out.1 gb e_.symm rfl))), Lib.hid HLf.out.cl, Lib.hid (by have h1 := HA.out; rw [HLf.out.ch, HVV.out] at h1; rw [← h1, List.append_assoc]; rfl), Lib.hid (by have h1 := HAl.out; rw [List.length_append, List.length_singleton]; omega), HO4, HB4⟩
            case measure => show l.length - 4 < l.length; omega
def incipitref01_Runes.f (k : Nat) (a0 : ByteArray) : Option (List Int) := if a0.size ≤ 100000 ∧ 7 ≤ k ∧ incipitref01_Clean.f k (nms a0.data.toList) = some (B (clean a0.data.toList)) then some (chars (clean a0.data.toList)) else none
theorem incipitref01_Runes.mono : ∀ a0 k, LeO (incipitref01_Runes.f k a0) (incipitref01_Runes.f (k + 1) a0) := by
  intro a0 k r h
  unfold incipitref01_Runes.f at h ⊢
  split at h
  · rename_i hc
    rw [if_pos ⟨hc.1, by omega, incipitref01_Clean.mono _ _ _ hc.2.2⟩]
    exact h
  · cases h
theorem incipitref01_Runes.calls (k : Nat) (a0 : ByteArray) (r : List Int) (w : World) (h : incipitref01_Runes.f k a0 = some r) :
    Calls Tryd.prog 20 #[.string a0] w fun e w' => ∃ v0_, e = .returned v0_ ∧ Kd.R (Kd.int .i32) 21 w' w.heap.size (fun _ => True) v0_ r ∧ Below w.heap.size w w' := by
  unfold incipitref01_Runes.f at h
  split at h
  · rename_i hc
    obtain rfl := Option.some.inj h
    exact refrunes_walk k a0.data.toList (by rw [Array.length_toList]; exact hc.1) hc.2.2 hc.2.1 w
  · cases h
end Go.Proofs.YtondbckghchmpaaDoor.PA
