/-
  Texts of the proof of RenderParts, part 2 of 3: contracts and plain laws. Conditions: see each statement.
-/
import Derived.Test.YtchdkiakdnanhaaGreatDoorSRenderBase4
import Derived.Test.YtchdkiakdnanhaaGreatDoorSRenderParts1
set_option linter.unusedVariables false
set_option linter.unusedSimpArgs false
namespace Go.Proofs.YtchdkiakdnanhaaGreatDoor.PA
open Go.RowKit Go.Sort Go.Proofs.YtchdkiakdnanhaaGreatDoor.Pl Go.Proofs.YtchdkiakdnanhaaGreatDoorW.PrintWords Go.Proofs.YtchdkiakdnanhaaGreatDoorW.PrintLast Go.Proofs.YtchdkiakdnanhaaGreatDoorW.PrintMore
set_option linter.unusedVariables false
set_option linter.unusedSimpArgs false

/-- Nodes read as they were read in an earlier world. -/
def kx (w0 : World) : Kd Nd where
  sz := 7
  E := []
  K := fun _ x cs => k29.K w0 x cs
  M := fun _ _ _ x cs => k29.K w0 x cs
  K_len := fun h => k29.K_len h
  K_one := fun h => k29.K_one h
  K_below := fun _ h => h
  K_of_M := fun h => h
  M_mono := fun _ h => h
  M_bound := fun h => h
  M_move := fun _ h => h
  M_lower := fun _ h => h
theorem info_nd (w0 : World) : (Tryz.prog.info? 29).map (fun i => (i.zero, i.size, i.bytes)) = some (some (.agg #[.int .i64 0, .string ⟨#[]⟩, .string ⟨#[]⟩, .int .i64 0, .int .i64 0, .bool false, .slice none 0 0]), (kx w0).sz, 88) := by kernel_rfl
theorem kx_sz (w0 : World) : 0 < (kx w0).sz := by show 0 < 7; decide
/-- The two boxes of the arguments. -/
structure Bx (w : World) (o : Nat) (a b : Nd) (Aa : Option Addr) (ca : Nat) (Ab : Option Addr) (cb : Nat) (W : World) : Prop where
  bel : Below w.heap.size w W
  ba : W.heap[o]? = some (.cells (ncs a Aa ca) 29 (0, 0))
  bb : W.heap[o + 1]? = some (.cells (ncs b Ab cb) 29 (0, 0))
section
variable {w W W' : World} {o : Nat} {a b : Nd} {Aa Ab : Option Addr} {ca cb : Nat}
theorem Bx.step (h : Bx w o a b Aa ca Ab cb W) (hb : Below W.heap.size W W') : Bx w o a b Aa ca Ab cb W' :=
  ⟨below_step h.bel hb, (hb.block o (Array.getElem?_eq_some_iff.1 h.ba).1).trans h.ba, (hb.block (o + 1) (Array.getElem?_eq_some_iff.1 h.bb).1).trans h.bb⟩
theorem Bx.na (h : Bx w o a b Aa ca Ab cb W) : NdAt o a Aa ca W := ndAt h.ba
theorem Bx.nb (h : Bx w o a b Aa ca Ab cb W) : NdAt (o + 1) b Ab cb W := ndAt h.bb
theorem bx_new (ho : w.heap.size = o) : Bx w o a b Aa ca Ab cb ((w.alloc (.cells (ncs a Aa ca) 29)).alloc (.cells (ncs b Ab cb) 29)) := by
  subst ho
  refine ⟨below_alloc (below_alloc (Below.refl _ _) _) _, ?_, ?_⟩
  · have h1 := heap_alloc_new w (.cells (ncs a Aa ca) 29)
    have hb : Below (w.alloc (.cells (ncs a Aa ca) 29)).heap.size (w.alloc (.cells (ncs a Aa ca) 29)) ((w.alloc (.cells (ncs a Aa ca) 29)).alloc (.cells (ncs b Ab cb) 29)) := below_alloc (Below.refl _ _) _
    exact (hb.block _ (Array.getElem?_eq_some_iff.1 h1).1).trans h1
  · have h2 := heap_alloc_new (w.alloc (.cells (ncs a Aa ca) 29)) (.cells (ncs b Ab cb) 29)
    rw [World.size_alloc] at h2
    exact h2
end
set_option maxHeartbeats 2000000 in
set_option maxRecDepth 100000 in
theorem parts_no {w : World} {Aa Ab : Option Addr} {ca cb : Nat} {a b : Nd} (m : Int) (hLd : LaidW w) (k : Nat) (hra : Kd.C k29 w Aa a.f6.length a.f6) (hca : a.f6.length ≤ ca) (hrb : Kd.C k29 w Ab b.f6.length b.f6) (hcb : b.f6.length ≤ cb) (fa fb : Bool)
    (hfa : incipitref06_Few.f k a.f0 a.f1 a.f2 a.f3 a.f4 a.f5 a.f6 800 = some fa) (hfb : incipitref06_Few.f k b.f0 b.f1 b.f2 b.f3 b.f4 b.f5 b.f6 800 = some fb) (hn : (fa && fb) = false) :
    Calls Tryz.prog 5 #[.agg (ncs a Aa ca), .agg (ncs b Ab cb), .int .i64 m] w fun e w' => e = .returned (.bool true) ∧ Below w.heap.size w w' := by
  obtain ⟨o, ho⟩ : ∃ o, w.heap.size = o := ⟨_, rfl⟩
  have HX2 := Aside0.mk (bx_new (w := w) (a := a) (b := b) (Aa := Aa) (Ab := Ab) (ca := ca) (cb := cb) ho)
  have HA := Aside0.mk (fun (W : World) (hW : Bx w o a b Aa ca Ab cb W) => awake_calls W (hLd.go hW.bel))
  have HFA := Aside0.mk (fun (W : World) (hW : Bx w o a b Aa ca Ab cb W) => incipitref06_Few.calls k a.f0 a.f1 a.f2 a.f3 a.f4 a.f5 Aa ca a.f6 800 fa W (Kd.C_below hra hW.bel) hca hfa)
  have HFB := Aside0.mk (fun (W : World) (hW : Bx w o a b Aa ca Ab cb W) => incipitref06_Few.calls k b.f0 b.f1 b.f2 b.f3 b.f4 b.f5 Ab cb b.f6 800 fb W (Kd.C_below hrb hW.bel) hcb hfb)
  clear hLd hra hca hrb hcb hfa hfb
  go_enter Tryz.func5, Tryz.ntmps5
  go_wp2_with fail
  refine (HA.out _ HX2.out).mono ?_
  rintro e w3 ⟨rfl, hb3⟩
  have HX3 := Aside0.mk (HX2.out.step hb3)
  clear hb3 HX2
  obtain ⟨d0, d1, d2, d3, d4, d5, d6⟩ := HX3.out.na
  go_wp2_with fail
  refine (HFA.out _ HX3.out).mono ?_
  rintro e w4 ⟨rfl, hb4⟩
  have HX4 := Aside0.mk (HX3.out.step hb4)
  clear hb4 HX3 d0 d1 d2 d3 d4 d5 d6
  obtain ⟨d0, d1, d2, d3, d4, d5, d6⟩ := HX4.out.nb
  cases fa with
  | false =>
    go_wp2
    go_ret
    exact ⟨rfl, HX4.out.bel⟩
  | true =>
    obtain rfl : fb = false := hn
    go_wp2_with fail
    refine (HFB.out _ HX4.out).mono ?_
    rintro e w5 ⟨rfl, hb5⟩
    have HX5 := Aside0.mk (HX4.out.step hb5)
    clear hb5 HX4 d0 d1 d2 d3 d4 d5 d6
    go_wp2
    go_ret
    exact ⟨rfl, HX5.out.bel⟩
/-- What is carried behind the rows' joining. -/
theorem bl_drew {n : Nat} {w W : World} (h : Below n w W) : Below n w W.drew := below_drew h
theorem bl_drewN {n : Nat} {w W : World} (h : Below n w W) (k : Nat) : Below n w (W.drewN k) := ⟨h.1, h.2, h.3, h.4, h.5⟩
theorem bx_drew {w W : World} {o : Nat} {a b : Nd} {Aa Ab : Option Addr} {ca cb : Nat} (h : Bx w o a b Aa ca Ab cb W) : Bx w o a b Aa ca Ab cb W.drew := h.step (below_drew (Below.refl _ _))
theorem bx_drewN {w W : World} {o : Nat} {a b : Nd} {Aa Ab : Option Addr} {ca cb : Nat} (h : Bx w o a b Aa ca Ab cb W) (k : Nat) : Bx w o a b Aa ca Ab cb (W.drewN k) := h.step (bl_drewN (Below.refl _ _) k)
theorem drawn_below {w W : World} (h : Drawn0 w W) : Below w.heap.size w W := by
  obtain ⟨n, rfl⟩ := h
  exact bl_drewN (Below.refl _ _) n
theorem kx_row {w W : World} {A : Option Addr} {l : List Nd} (hb : Below w.heap.size w W) (h : Kd.C (kx w) W A l.length l) : Kd.C k29 W A l.length l :=
  ReadsRow.imp_ h (Below.refl _ _) (fun _ _ hp => k29.K_below hb hp)
set_option maxHeartbeats 4000000 in
set_option maxRecDepth 100000 in
theorem parts_yes {w : World} {Aa Ab : Option Addr} {ca cb : Nat} {a b : Nd} (m : Int) (hLd : LaidW w) (k : Nat) (hqa : Rq w Aa ca a.f6) (hqb : Rq w Ab cb b.f6) (hwa : wt a.f6 ≤ 800) (hwb : wt b.f6 ≤ 800)
    (hfa : incipitref06_Few.f k a.f0 a.f1 a.f2 a.f3 a.f4 a.f5 a.f6 800 = some true) (hfb : incipitref06_Few.f k b.f0 b.f1 b.f2 b.f3 b.f4 b.f5 b.f6 800 = some true) (hh : incipitlaw20_has.f k a.f6 = some (hsL a.f6)) :
    Calls Tryz.prog 5 #[.agg (ncs a Aa ca), .agg (ncs b Ab cb), .int .i64 m] w fun e w' => e = .returned (.bool true) ∧ Below w.heap.size w w' := by
  obtain ⟨o, ho⟩ : ∃ o, w.heap.size = o := ⟨_, rfl⟩
  have HX2 := Aside0.mk (bx_new (w := w) (a := a) (b := b) (Aa := Aa) (Ab := Ab) (ca := ca) (cb := cb) ho)
  have HA := Aside0.mk (fun (W : World) (hW : Bx w o a b Aa ca Ab cb W) => awake_calls W (hLd.go hW.bel))
  have HFA := Aside0.mk (fun (W : World) (hW : Bx w o a b Aa ca Ab cb W) => incipitref06_Few.calls k a.f0 a.f1 a.f2 a.f3 a.f4 a.f5 Aa ca a.f6 800 true W (Kd.C_below hqa.row hW.bel) hqa.cap hfa)
  have HFB := Aside0.mk (fun (W : World) (hW : Bx w o a b Aa ca Ab cb W) => incipitref06_Few.calls k b.f0 b.f1 b.f2 b.f3 b.f4 b.f5 Ab cb b.f6 800 true W (Kd.C_below hqb.row hW.bel) hqb.cap hfb)
  have HHS := Aside0.mk (fun (W : World) (hW : Bx w o a b Aa ca Ab cb W) => incipitlaw20_has.calls k Aa ca a.f6 (hsL a.f6) W (Kd.C_below hqa.row hW.bel) hqa.cap hh)
  have HBA := Aside0.mk (fun (W : World) (hW : Bx w o a b Aa ca Ab cb W) => Blocks_calls m (hLd.go hW.bel) (hqa.go hW.bel))
  have HBA0 := Aside0.mk (fun (W : World) (hW : Bx w o a b Aa ca Ab cb W) => Blocks_calls 0 (hLd.go hW.bel) (hqa.go hW.bel))
  have HBB := Aside0.mk (fun (W : World) (hW : Bx w o a b Aa ca Ab cb W) => Blocks_calls m (hLd.go hW.bel) (hqb.go hW.bel))
  have HIA := Aside0.mk (fun (W : World) (hW : Bx w o a b Aa ca Ab cb W) => Inlines_calls m (hLd.go hW.bel) (hqa.go hW.bel))
  have HIB := Aside0.mk (fun (W : World) (hW : Bx w o a b Aa ca Ab cb W) => Inlines_calls m (hLd.go hW.bel) (hqb.go hW.bel))
  have HALL := Aside0.mk (fun (W w4 : World) (A : Option Addr) (c : Nat) (hx : Bx w o a b Aa ca Ab cb w4) (hq : Rq w4 A c (a.f6 ++ b.f6)) (hW : Below w4.heap.size w4 W) => Blocks_calls m (hLd.go (hx.step hW).bel) (hq.go hW))
  have HALI := Aside0.mk (fun (W w4 : World) (A : Option Addr) (c : Nat) (hx : Bx w o a b Aa ca Ab cb w4) (hq : Rq w4 A c (a.f6 ++ b.f6)) (hW : Below w4.heap.size w4 W) => Inlines_calls m (hLd.go (hx.step hW).bel) (hq.go hW))
  have HRQ := Aside0.mk (fun (W : World) (A : Option Addr) (c : Nat) (hb : Below w.heap.size w W) (h : Kd.C (kx w) W A (a.f6 ++ b.f6).length (a.f6 ++ b.f6)) (hc : (a.f6 ++ b.f6).length ≤ c) => (⟨kx_row hb h, hc, okl_append hqa.ok hqb.ok, by rw [wt_append]; omega⟩ : Rq W A c (a.f6 ++ b.f6)))
  have HRA := Aside0.mk hqa.row
  have HRB := Aside0.mk hqb.row
  have h0 : hsL a.f6 = false → B (blk m a.f6) = B (blk 0 a.f6) := fun h => by rw [blk_0 m _ h]
  obtain ⟨fh, hfh⟩ : ∃ x, hsL a.f6 = x := ⟨_, rfl⟩
  rw [hfh] at h0 HHS
  have HZ := Aside0.mk h0
  have lba := blk_len m a.f6 hqa.ok
  have lbb := blk_len m b.f6 hqb.ok
  have lia := inl_len m a.f6 hqa.ok
  have lib := inl_len m b.f6 hqb.ok
  have sba : (B (blk m a.f6)).size ≤ 1000000 := by rw [B_size]; omega
  have sbb : (B (blk m b.f6)).size ≤ 1000000 := by rw [B_size]; omega
  have sia : (B (inl m a.f6)).size ≤ 1000000 := by rw [B_size]; omega
  have sib : (B (inl m b.f6)).size ≤ 1000000 := by rw [B_size]; omega
  have eb : B (blk m (a.f6 ++ b.f6)) = B (blk m a.f6) ++ B (blk m b.f6) := by rw [blk_append, B_append]
  have ei : B (inl m (a.f6 ++ b.f6)) = B (inl m a.f6) ++ B (inl m b.f6) := by rw [inl_append, B_append]
  rw [eb] at HALL
  rw [ei] at HALI
  simp only [List.length_append] at HALL HALI
  have na : a.f6.length ≤ 800 := Nat.le_trans (len_wt _) hwa
  have nb : b.f6.length ≤ 800 := Nat.le_trans (len_wt _) hwb
  obtain ⟨tba, h1⟩ : ∃ s, B (blk m a.f6) = s := ⟨_, rfl⟩
  obtain ⟨tbb, h2⟩ : ∃ s, B (blk m b.f6) = s := ⟨_, rfl⟩
  obtain ⟨tia, h3⟩ : ∃ s, B (inl m a.f6) = s := ⟨_, rfl⟩
  obtain ⟨tib, h4⟩ : ∃ s, B (inl m b.f6) = s := ⟨_, rfl⟩
  obtain ⟨tb0, h5⟩ : ∃ s, B (blk 0 a.f6) = s := ⟨_, rfl⟩
  simp only [h1, h2, h3, h4, h5] at HBA HBA0 HBB HIA HIB HALL HALI sba sbb sia sib HZ
  have y1 : ¬ 9223372036854775807 < tba.size + tbb.size := by omega
  have y2 : ¬ 9223372036854775807 < tia.size + tib.size := by omega
  have HNA := Aside0.mk na
  have HNB := Aside0.mk nb
  clear hfh hLd hqa hqb hwa hwb hfa hfb hh lba lbb lia lib eb ei h0 h1 h2 h3 h4 h5 sba sbb sia sib na nb
  go_enter Tryz.func5, Tryz.ntmps5
  go_wp2_with fail
  refine (HA.out _ HX2.out).mono ?_
  rintro e w3 ⟨rfl, hb3⟩
  have HX3 := Aside0.mk (HX2.out.step hb3)
  clear hb3 HX2
  obtain ⟨d0, d1, d2, d3, d4, d5, d6⟩ := HX3.out.na
  go_wp2_with fail
  refine (HFA.out _ HX3.out).mono ?_
  rintro e w4 ⟨rfl, hb4⟩
  have HX4 := Aside0.mk (HX3.out.step hb4)
  clear hb4 HX3 d0 d1 d2 d3 d4 d5 d6
  obtain ⟨d0, d1, d2, d3, d4, d5, d6⟩ := HX4.out.nb
  go_wp2_with fail
  refine (HFB.out _ HX4.out).mono ?_
  rintro e w5 ⟨rfl, hb5⟩
  have HX5 := Aside0.mk (HX4.out.step hb5)
  clear hb5 HX4 d0 d1 d2 d3 d4 d5 d6 HA HFA HFB
  have HE0 := Aside0.mk (show (kx w).R 29 (w5.alloc (.cells #[] 29)) w5.heap.size (fun k => w5.heap.size ≤ k) (.slice (some ⟨w5.heap.size, 0, none⟩) 0 0) [] from by
    refine ⟨fun k hk => ?_, [], World.ownsRow_made w5 #[] 0 (Nat.le_refl _) (Nat.zero_le _) (by simp), Reps.none _ _⟩
    have : k = w5.heap.size := by simpa [Value.ownBlock] using hk.symm
    rw [this]
    exact Nat.le_refl _)
  have HB0 := Aside0.mk (show Below w5.heap.size w5 (w5.alloc (.cells #[] 29)) from below_alloc (Below.refl _ _) _)
  obtain ⟨d0, d1, d2, d3, d4, d5, d6⟩ := HX5.out.na
  obtain ⟨g0, g1, g2, g3, g4, g5, g6⟩ := HX5.out.nb
  clear d0 d1 d2 d3 d4 d5 g0 g1 g2 g3 g4 g5
  go_upto_region 4 with fail
  go_region_held3 (fun W => W.cell? ⟨o, 6, none⟩ = some (.slice Aa a.f6.length ca) ∧ W.cell? ⟨o + 1, 6, none⟩ = some (.slice Ab b.f6.length cb))
    (first | exact ⟨HX8.out.na.d6, HX8.out.nb.d6⟩ | exact ⟨HX7.out.na.d6, HX7.out.nb.d6⟩ | exact ⟨HX6.out.na.d6, HX6.out.nb.d6⟩ | exact ⟨HX5.out.na.d6, HX5.out.nb.d6⟩ | exact ⟨(bx_drew HX5.out).na.d6, (bx_drew HX5.out).nb.d6⟩ | exact ⟨(HX5.out.step HB0.out).na.d6, (HX5.out.step HB0.out).nb.d6⟩ | exact ⟨(bx_drew (HX5.out.step HB0.out)).na.d6, (bx_drew (HX5.out.step HB0.out)).nb.d6⟩ | exact ⟨(bx_drewN (HX5.out.step HB0.out) _).na.d6, (bx_drewN (HX5.out.step HB0.out) _).nb.d6⟩)
    (first
    | (refine Kd.R_append_rows_step (kx w) (Rr := k29.K w) (w0 := w5) w5.heap.size (by rfl) (.tmp 19) (.tmp 21) 27 29 (.agg #[.int .i64 0, .string ⟨#[]⟩, .string ⟨#[]⟩, .int .i64 0, .int .i64 0, .bool false, .slice none 0 0]) 88 (by rfl) Tryz.underlying27 (info_nd w) rfl (kx_sz w) (by omega) (.slice (some ⟨w5.heap.size, 0, none⟩) 0 0) [] a.f6 Aa a.f6.length ca (fun k => w5.heap.size ≤ k) (fun _ => False) (by rfl) (by rfl) ?aO ?aR (fun _ _ h => h) (fun _ hk => hk.elim) ?aF ?aB ?aS ?aL ?_; (case aO => first | exact HE0.out | exact Kd.R_drew HE0.out | exact Kd.R_drewN HE0.out); (case aR => first | exact ReadsRow.imp_ HRA.out (HX5.out.step HB0.out).bel (fun _ _ hp => hp) | exact ReadsRow.imp_ HRA.out (bx_drew (HX5.out.step HB0.out)).bel (fun _ _ hp => hp) | exact ReadsRow.imp_ HRA.out (bx_drewN (HX5.out.step HB0.out) _).bel (fun _ _ hp => hp)); (case aF => exact (fun k hk => Nat.le_trans (by simp) hk)); (case aB => first | exact HB0.out | exact bl_drew HB0.out | exact bl_drewN HB0.out _); (case aS => simp); (case aL => (have := HNA.out; simp; omega)); intro v6 w6 ho6 hb6 hg6 hat6; have HO6 := Aside0.mk ho6; have HX6 := Aside0.mk (HX5.out.step hb6); have HB6 := Aside0.mk hb6; clear ho6 hb6 hg6 hat6)
    | (refine Kd.R_append_rows_step (kx w) (Rr := k29.K w) (w0 := w5) w5.heap.size (by rfl) (.tmp 22) (.tmp 24) 27 29 (.agg #[.int .i64 0, .string ⟨#[]⟩, .string ⟨#[]⟩, .int .i64 0, .int .i64 0, .bool false, .slice none 0 0]) 88 (by rfl) Tryz.underlying27 (info_nd w) rfl (kx_sz w) (by omega) v6 ([] ++ a.f6) b.f6 Ab b.f6.length cb (fun k => w5.heap.size ≤ k) (fun _ => False) (by rfl) (by rfl) ?aO ?aR (fun _ _ h => h) (fun _ hk => hk.elim) ?aF ?aB ?aS ?aL ?_; (case aO => exact HO6.out); (case aR => exact ReadsRow.imp_ HRB.out HX6.out.bel (fun _ _ hp => hp)); (case aF => exact (fun k hk => Nat.le_trans HB6.out.size hk)); (case aB => exact HB6.out); (case aS => exact HB6.out.size); (case aL => (have := HNA.out; have := HNB.out; simp; omega)); intro v7 w7 ho7 hb7 hg7 hat7; rw [List.nil_append] at ho7; obtain ⟨A', c', rfl⟩ := Kd.R_slice ho7; have HO7 := Aside0.mk ho7; have HX7 := Aside0.mk (HX5.out.step hb7); clear ho7 hb7 hg7 hat7))
  all_goals
    obtain ⟨_, hlc, hcr⟩ := Kd.R_reads' HO7.out
    have HQ := Aside0.mk (HRQ.out w7 A' c' HX7.out.bel hcr hlc)
    have HW7 := Aside0.mk (Below.refl w7.heap.size w7)
    clear HO7 HO6 HX6 HB6 HE0 HB0 HX5 HRQ HRA HRB hlc hcr d6 g6
    have d6 := HX7.out.na.d6
    have g6 := HX7.out.nb.d6
    go_upto_region 5 with fail
    go_cut [53] (fun cv wx => cv = .bool false ∧ Aside0 (Below w7.heap.size w7 wx))
    case first =>
      go_region_held3 (fun W => W.cell? ⟨o, 6, none⟩ = some (.slice Aa a.f6.length ca) ∧ W.cell? ⟨o + 1, 6, none⟩ = some (.slice Ab b.f6.length cb))
        (first | exact ⟨(HX7.out.step HK6.out).na.d6, (HX7.out.step HK6.out).nb.d6⟩ | exact ⟨(HX7.out.step HK5.out).na.d6, (HX7.out.step HK5.out).nb.d6⟩ | exact ⟨(HX7.out.step HK4.out).na.d6, (HX7.out.step HK4.out).nb.d6⟩ | exact ⟨(HX7.out.step HK3.out).na.d6, (HX7.out.step HK3.out).nb.d6⟩ | exact ⟨(HX7.out.step HK2.out).na.d6, (HX7.out.step HK2.out).nb.d6⟩ | exact ⟨(HX7.out.step HK1.out).na.d6, (HX7.out.step HK1.out).nb.d6⟩ | exact ⟨(HX7.out.step HW7.out).na.d6, (HX7.out.step HW7.out).nb.d6⟩ | exact ⟨(HX7.out.step (bl_drew HW7.out)).na.d6, (HX7.out.step (bl_drew HW7.out)).nb.d6⟩ | exact ⟨(HX7.out.step (bl_drewN HW7.out _)).na.d6, (HX7.out.step (bl_drewN HW7.out _)).nb.d6⟩)
        (first
        | (go_at_call 13; with_reducible refine (HALL.out _ w7 A' c' HX7.out HQ.out (by first | exact HW7.out | exact bl_drew HW7.out | exact bl_drewN HW7.out _)).mono ?_; rintro e u1 ⟨rfl, hk⟩; have HK1 := Aside0.mk (show Below w7.heap.size w7 u1 from by first | exact below_step HW7.out hk | exact below_step (bl_drew HW7.out) hk | exact below_step (bl_drewN HW7.out _) hk); clear hk)
        | (go_at_call 13; with_reducible refine (HBA.out _ (HX7.out.step HK1.out)).mono ?_; rintro e u2 ⟨rfl, hk⟩; have HK2 := Aside0.mk (below_step HK1.out hk); clear hk)
        | (go_at_call 13; with_reducible refine (HBB.out _ (HX7.out.step HK2.out)).mono ?_; rintro e u3 ⟨rfl, hk⟩; have HK3 := Aside0.mk (below_step HK2.out hk); clear hk)
        | (go_at_call 14; with_reducible refine (HALI.out _ w7 A' c' HX7.out HQ.out HK3.out).mono ?_; rintro e u4 ⟨rfl, hk⟩; have HK4 := Aside0.mk (below_step HK3.out hk); clear hk)
        | (go_at_call 14; with_reducible refine (HIA.out _ (HX7.out.step HK4.out)).mono ?_; rintro e u5 ⟨rfl, hk⟩; have HK5 := Aside0.mk (below_step HK4.out hk); clear hk)
        | (go_at_call 14; with_reducible refine (HIB.out _ (HX7.out.step HK5.out)).mono ?_; rintro e u6 ⟨rfl, hk⟩; have HK6 := Aside0.mk (below_step HK5.out hk); clear hk))
      all_goals
        go_wp2_with fail
        go_meet
        exact ⟨rfl, HK6⟩
    case rest =>
      rename_i wx
      obtain ⟨rfl, HK⟩ := hcut
      have HX9 := Aside0.mk (HX7.out.step HK.out)
      clear d6 g6 HX7 HQ HK HW7 HALL HALI HBB HIA HIB y1 y2
      have d6 := HX9.out.na.d6
      have g6 := HX9.out.nb.d6
      cases fh with
      | true =>
        clear HZ HBA HBA0
        go_upto_region 7 with fail
        first | (go_region_with (first | (go_at_call 15; with_reducible refine (HHS.out _ (by first | exact HX9.out | exact bx_drew HX9.out | exact bx_drewN HX9.out _)).mono ?_; rintro e u7 ⟨rfl, hk⟩; have HX10 := Aside0.mk (show Bx w o a b Aa ca Ab cb u7 from by first | exact HX9.out.step (drawn_below hk) | exact (bx_drew HX9.out).step (drawn_below hk) | exact (bx_drewN HX9.out _).step (drawn_below hk)); clear hk))) | fail
        all_goals
          go_wp2
          go_ret
          exact ⟨rfl, HX10.out.bel⟩
      | false =>
        have hz := HZ.out rfl
        subst hz
        clear HZ
        go_upto_region 7 with fail
        go_region_held3 (fun W => W.cell? ⟨o, 6, none⟩ = some (.slice Aa a.f6.length ca) ∧ W.cell? ⟨o + 1, 6, none⟩ = some (.slice Ab b.f6.length cb))
          (first | exact ⟨HX12.out.na.d6, HX12.out.nb.d6⟩ | exact ⟨HX11.out.na.d6, HX11.out.nb.d6⟩ | exact ⟨HX10.out.na.d6, HX10.out.nb.d6⟩ | exact ⟨HX9.out.na.d6, HX9.out.nb.d6⟩ | exact ⟨(bx_drew HX9.out).na.d6, (bx_drew HX9.out).nb.d6⟩ | exact ⟨(bx_drewN HX9.out _).na.d6, (bx_drewN HX9.out _).nb.d6⟩)
          (first
          | (go_at_call 15; with_reducible refine (HHS.out _ (by first | exact HX9.out | exact bx_drew HX9.out | exact bx_drewN HX9.out _)).mono ?_; rintro e u7 ⟨rfl, hk⟩; have HX10 := Aside0.mk (show Bx w o a b Aa ca Ab cb u7 from by first | exact HX9.out.step (drawn_below hk) | exact (bx_drew HX9.out).step (drawn_below hk) | exact (bx_drewN HX9.out _).step (drawn_below hk)); clear hk)
          | (go_at_call 13; with_reducible refine (HBA.out _ HX10.out).mono ?_; rintro e u8 ⟨rfl, hk⟩; have HX11 := Aside0.mk (HX10.out.step hk); clear hk HBA)
          | (go_at_call 13; with_reducible refine (HBA0.out _ HX11.out).mono ?_; rintro e u9 ⟨rfl, hk⟩; have HX12 := Aside0.mk (HX11.out.step hk); clear hk))
        all_goals
          go_wp2
          go_ret
          exact ⟨rfl, HX12.out.bel⟩
open Classical in
/-- RenderParts in short: nodes that Few allows must be within bounds. -/
noncomputable def incipitlaw20_RenderParts.f (k : Nat) (a0 a1 : S29) (a2 : Int) : Option Bool := (incipitref06_Few.f k a0.f0 a0.f1 a0.f2 a0.f3 a0.f4 a0.f5 a0.f6 800).bind fun s => (incipitref06_Few.f k a1.f0 a1.f1 a1.f2 a1.f3 a1.f4 a1.f5 a1.f6 800).bind fun t => if (s && t) = true then (if okl a0.f6 ∧ okl a1.f6 ∧ wt a0.f6 ≤ 800 ∧ wt a1.f6 ≤ 800 ∧ incipitlaw20_has.f k a0.f6 = some (hsL a0.f6) then some true else none) else some true
theorem incipitlaw20_RenderParts.few {k : Nat} {x : S29} {r : Bool} (h : incipitref06_Few.f k x.f0 x.f1 x.f2 x.f3 x.f4 x.f5 x.f6 800 = some r) : incipitref06_Few.f k x.f0 x.f1 x.f2 x.f3 x.f4 x.f5 x.f6 800 = some r := h
theorem incipitlaw20_RenderParts.calls (k : Nat) (a0 : S29) (A0 : Option Addr) (c0 : Nat) (a1 : S29) (A1 : Option Addr) (c1 : Nat) (a2 : Int) (r : Bool) (w : World) (hLd : LaidW w) (hr0 : Kd.C k29 w A0 a0.f6.length a0.f6) (hc0 : a0.f6.length ≤ c0) (hr1 : Kd.C k29 w A1 a1.f6.length a1.f6) (hc1 : a1.f6.length ≤ c1) (h : incipitlaw20_RenderParts.f k a0 a1 a2 = some r) :
    Calls Tryz.prog 5 #[.agg #[.int .i64 a0.f0, .string a0.f1, .string a0.f2, .int .i64 a0.f3, .int .i64 a0.f4, .bool a0.f5, .slice A0 a0.f6.length c0], .agg #[.int .i64 a1.f0, .string a1.f1, .string a1.f2, .int .i64 a1.f3, .int .i64 a1.f4, .bool a1.f5, .slice A1 a1.f6.length c1], .int .i64 a2] w fun e w' => e = .returned (.bool r) ∧ Below w.heap.size w w' := by
  unfold incipitlaw20_RenderParts.f at h
  obtain ⟨s, hs, h⟩ := Option.bind_eq_some_iff.1 h
  obtain ⟨t, ht, h⟩ := Option.bind_eq_some_iff.1 h
  by_cases hst : (s && t) = true
  · rw [if_pos hst] at h
    split at h
    · rename_i hc
      obtain rfl := Option.some.inj h
      rw [Bool.and_eq_true] at hst
      obtain ⟨rfl, rfl⟩ := hst
      exact parts_yes a2 hLd k ⟨hr0, hc0, hc.1, by omega⟩ ⟨hr1, hc1, hc.2.1, by omega⟩ hc.2.2.1 hc.2.2.2.1 hs ht hc.2.2.2.2
    · cases h
  · rw [if_neg hst] at h
    obtain rfl := Option.some.inj h
    exact parts_no a2 hLd k hr0 hc0 hr1 hc1 s t hs ht (Bool.eq_false_iff.2 hst)
end Go.Proofs.YtchdkiakdnanhaaGreatDoor.PA

namespace Go.Proofs.YtchdkiakdnanhaaGreatDoor.Pure
open Go.RowKit Go.Proofs.YtchdkiakdnanhaaGreatDoorW.PrintWords Go.Proofs.YtchdkiakdnanhaaGreatDoorW.PrintMore Go.Proofs.YtchdkiakdnanhaaGreatDoor.Pl

theorem RenderParts : ∀ (a0 : PA.S29) (a1 : PA.S29) (a2 : Int), dt1 a0 → dt1 a1 → (Lit.int .i64 a2).wf = true → ∃ k, PA.incipitlaw20_RenderParts.f k a0 a1 a2 = some true := by
  intro a0 a1 a2 h0 h1 _
  refine ⟨fu1 a0 + fu1 a1, ?_⟩
  unfold PA.incipitlaw20_RenderParts.f
  rw [Few_f a0 h0 (fu1 a1), Option.bind_some, show fu1 a0 + fu1 a1 = fu1 a1 + fu1 a0 by omega, Few_f a1 h1 (fu1 a0), Option.bind_some]
  by_cases hh : fl1 a0 800 ≥ 0 ∧ fl1 a1 800 ≥ 0
  · have w0 := fl1_wt h0 hh.1
    have w1 := fl1_wt h1 hh.2
    have e0 := wt1_eta a0
    have e1 := wt1_eta a1
    rw [if_pos (by simp [hh.1, hh.2]), if_pos]
    refine ⟨okl_of_wt _ (dt1_eta h0).2 (by omega), okl_of_wt _ (dt1_eta h1).2 (by omega), by omega, by omega, ?_⟩
    rw [show fu1 a1 + fu1 a0 = fu1 a0 + fu1 a1 by omega]
    exact has_1 a0 _ (by omega)
  · rw [if_neg]
    intro h
    rw [Bool.and_eq_true, decide_eq_true_eq, decide_eq_true_eq] at h
    exact hh h
end Go.Proofs.YtchdkiakdnanhaaGreatDoor.Pure
