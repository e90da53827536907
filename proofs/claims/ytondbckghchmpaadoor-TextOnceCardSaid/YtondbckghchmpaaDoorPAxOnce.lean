/-
  The law TextOnce, walked: for bytes it answers true; the tables of unicode/utf8 as their initialisers lay them ('Laid').
-/
import Derived.Test.YtondbckghchmpaaDoorPRunes
import Derived.Test.YtondbckghchmpaaDoorPAx1
import Derived.WalkKit
import Derived.BigCall
namespace Go.Proofs.YtondbckghchmpaaDoor.PA
open Go.RowKit Go.Proofs.YtondbckghchmpaaDoorW.PrintWords Go.Proofs.YtondbckghchmpaaDoorW.PrintLast Go.Proofs.YtondbckghchmpaaDoorW.PrintMore Go.Proofs.YtondbckghchmpaaDoor.Pl
set_option linter.unusedVariables false

theorem rd_in (xs : List Int) (i : Nat) (h : i < xs.length) : rd xs (i : Int) ∈ xs := by
  unfold rd
  rw [Int.toNat_natCast, List.getD_eq_getElem?_getD, List.getElem?_eq_getElem h]
  exact List.getElem_mem h
/-- '[]rune' as a string. -/
theorem runes_str (ns : List Int) (A : Option Addr) (c : Nat) (w : World) (h : Kd.C (Kd.int .i32) w A ns.length ns) :
    (convert 33 9 (.slice A ns.length c)).run Tryd.prog w = .ok (.string (runesBytes ns)) w := by
  rw [run_convert_runes_string w 33 9 21 A _ c Tryd.underlying33 Tryd.underlying21 Tryd.underlying9]
  cases A with
  | none =>
    have hn : ns.length = 0 := by
      rcases Nat.eq_zero_or_pos ns.length with h0 | h0
      · exact h0
      · obtain ⟨ad, e, _⟩ := h.2.2 h0; cases e
    have : ns = [] := List.length_eq_zero_iff.1 hn
    subst this
    simp [Conv.runesToString, runesBytes, Sem.run_pure]
  | some a =>
    refine run_runesToString w a _ c ns ?_
    have hx : ∀ j, j < ns.length → w.cell? (a.add j) = some (.int .i32 (ns.getD j 0)) := fun j hj => by
      obtain ⟨ad, e, hc⟩ := Kd.at_int h (j : Int) (by omega) (by omega)
      cases e
      rw [Int.toNat_natCast] at hc
      exact hc
    rw [run_loadCells (P := Tryd.prog) w a ns.length (fun j => Value.int .i32 (ns.getD j 0)) hx]
    congr 2
    apply List.ext_getElem
    · simp
    · intro i h1 h2
      simp at h1
      simp [List.getD_eq_getElem?_getD, List.getElem?_eq_getElem h1]
def incipitlaw01_TextOnce.f (l0 : List Int) : Option Bool := if okB l0 = true then some true else none
set_option maxHeartbeats 2000000 in
set_option maxRecDepth 100000 in
theorem incipitlaw01_TextOnce.calls (A0 : Option Addr) (c0 : Nat) (l0 : List Int) (r : Bool) (w : World) (hLd : Laid w) (hr0 : Kd.C (Kd.int .u8) w A0 l0.length l0) (hc0 : l0.length ≤ c0) (h : incipitlaw01_TextOnce.f l0 = some r) :
    Calls Tryd.prog 8 #[.slice A0 l0.length c0] w fun e w' => e = .returned (.bool r) ∧ Below w.heap.size w w' := by
  have hok : okB l0 = true := by
    unfold incipitlaw01_TextOnce.f at h
    split at h
    · assumption
    · cases h
  have hr : r = true := by
    unfold incipitlaw01_TextOnce.f at h
    rw [if_pos hok] at h
    exact (Option.some.inj h).symm
  subst hr
  clear h
  have hl9 : l0.length ≤ 9223372036854775807 := hr0.2.1
  obtain ⟨k, hk⟩ := Ev.rounds awake_ev
  have HR := Aside0.mk hr0
  have HL := Aside0.mk hLd
  clear hr0
  go_enter Tryd.func8, Tryd.ntmps8
  go_wp2_with fail
  refine (incipitlaw01_awake.calls k true _ HL.out hk).mono ?_
  rintro e w1 ⟨rfl, hb1⟩
  have HB1 := Aside0.mk hb1
  clear hb1 hLd
  by_cases hlen : 3000 < l0.length
  · have q : decide ((3000 : Int) < (l0.length : Int)) = true := decide_eq_true (by omega)
    go_wp2
    go_ret
    exact ⟨rfl, HB1.out⟩
  · have q : decide ((3000 : Int) < (l0.length : Int)) = false := decide_eq_false (by omega)
    have hf : text_Clean.f l0 = some (B (clean (u8s l0))) := by
      unfold text_Clean.f
      rw [if_pos ⟨hok, by omega⟩]
      rfl
    have hcl := clean_le (u8s l0)
    have hu : (u8s l0).length = l0.length := u8s_length l0
    obtain ⟨p1, p2, p3⟩ := chars_clean (u8s l0)
    have p4 := clean_clean (u8s l0)
    have p5 := text_back (u8s l0)
    rw [hu] at hcl p2
    obtain ⟨x, hx⟩ : ∃ x, clean (u8s l0) = x := ⟨_, rfl⟩
    rw [hx] at hf hcl p1 p2 p4 p5
    have hxs : (B x).size = x.length := B_size x
    have hf2 : text_Runes.f (B x) = some (chars x) := by
      unfold text_Runes.f
      rw [if_pos (by omega), B_data, p4, rns_chars]
    have hf3 : text_Clean.f (bytesOf (B x)) = some (B x) := by
      unfold text_Clean.f
      have h1 : okB (bytesOf (B x)) = true := by
        unfold okB bytesOf
        rw [List.all_map, List.all_eq_true]
        intro y _
        have := y.toNat_lt
        simp
        omega
      have h2 : u8s (bytesOf (B x)) = x := by
        unfold u8s bytesOf
        rw [List.map_map, B_data]
        conv => rhs; rw [← List.map_id x]
        refine List.map_congr_left (fun y _ => ?_)
        simp
      rw [if_pos ⟨h1, by rw [bytesOf_length]; omega⟩, h2, p4]
      rfl
    have P1 := Aside0.mk p1
    have P2 := Aside0.mk p2
    have P5 := Aside0.mk p5
    have F := Aside0.mk hf
    have F2 := Aside0.mk hf2
    have F3 := Aside0.mk hf3
    have HX := Aside0.mk hcl
    clear p1 p2 p3 p4 p5 hf hf2 hf3 hx hu hok hcl
    go_wp2_with fail
    refine (text_Clean.calls A0 c0 l0 (B x) w1 (HL.out.go HB1.out) (Kd.C_below HR.out HB1.out) hc0 F.out).mono ?_
    rintro e w2 ⟨rfl, hb2⟩
    have HB2 := Aside0.mk (HB1.out.trans (hb2.mono HB1.out.size))
    clear hb2
    go_wp2_with fail
    refine (text_Runes.calls (B x) (chars x) w2 (HL.out.go HB2.out) F2.out).mono ?_
    rintro e w3 ⟨v0, rfl, hR, hb3⟩
    have HB3 := Aside0.mk (HB2.out.trans (hb3.mono HB2.out.size))
    obtain ⟨A, c, rfl, hcn, hC⟩ := Kd.R_reads hR
    have HC := Aside0.mk hC
    clear hb3 hR hC
    obtain ⟨ns, hns⟩ : ∃ ns, chars x = ns := ⟨_, rfl⟩
    rw [hns] at HC hcn P1 P2 P5 ⊢
    clear hns
    have hn9 : ns.length ≤ 3000 := by have := P2.out; omega
    go_wp2
    go_loopg [6] ns.length (fun g v6 wr => ∃ i : Nat, v6 = .int .i64 (i : Int) ∧ Aside0 (ns.length - i ≤ g) ∧ i ≤ ns.length ∧ wr = w3)
    case atStart => exact ⟨0, rfl, ⟨by omega⟩, Nat.zero_le _, rfl⟩
    case round =>
      obtain ⟨i, rfl, HG, hi, rfl⟩ := hrel
      by_cases hlt : i < ns.length
      · obtain ⟨ad, e1, hcell⟩ := Kd.at_int HC.out (i : Int) (by omega) (by omega)
        cases e1
        rw [Int.toNat_natCast] at hcell
        obtain ⟨m1, m2, m3⟩ := P1.out _ (rd_in ns i hlt)
        generalize rd ns (i : Int) = z at hcell m1 m2 m3
        have q1 : decide (z ≤ 0) = false := decide_eq_false (by omega)
        have q2 : decide (1114111 < z) = false := decide_eq_false (by omega)
        have q4 : decide ((i : Int) < (ns.length : Int)) = true := decide_eq_true (by omega)
        have hq : decide (55296 ≤ z) = false ∨ (decide (55296 ≤ z) = true ∧ decide (z ≤ 57343) = false) := by
          by_cases h5 : 55296 ≤ z
          · exact .inr ⟨decide_eq_true h5, decide_eq_false (by omega)⟩
          · exact .inl (decide_eq_false h5)
        clear m1 m2 m3
        rcases hq with q3 | ⟨q3, q5⟩
        all_goals
          go_wp2
          go_roundg (gk - 1)
          case measure => have := HG.out; omega
          case rel => exact ⟨i + 1, by go_num, ⟨by have := HG.out; omega⟩, by omega, rfl⟩
      · have hie : i = ns.length := by omega
        subst hie
        have q4 : decide ((ns.length : Int) < (ns.length : Int)) = false := decide_eq_false (by omega)
        have kb := fun W => print_bytes (P := Tryd.prog) 9 29 5 Tryd.underlying9 Tryd.underlying29 Tryd.underlying5 (B x) W
        have hbw := bytes_below (Below.refl wr.heap.size wr) (Nat.le_refl _) 5 (B x)
        have hrd := bytes_reads wr 5 (B x) (by have := HX.out; omega)
        have hcap := grownCap_ge wr (B x).size 0 5
        have HBW := Aside0.mk (HB3.out.trans (hbw.mono HB3.out.size))
        have hcall := fun (c : Nat) (hc : (B x).size ≤ c) => text_Clean.calls (some ⟨wr.heap.size, 0, none⟩) c (bytesOf (B x)) (B x) _ (HL.out.go HBW.out) (by rw [bytesOf_length]; exact Kd.C_of_reads (d := (0 : Int)) (h1 := fun _ => rfl) hrd) (by rw [bytesOf_length]; exact hc) F3.out
        rw [bytesOf_length] at hcall
        have HCL := Aside0.mk hcall
        have HKC := Aside0.mk (Kd.C_below HC.out hbw)
        clear hcall hrd hbw
        go_wp2_with fail
        refine (HCL.out _ hcap).mono ?_
        rintro e w4 ⟨rfl, hb4⟩
        have HB4 := Aside0.mk (HBW.out.trans (hb4.mono HBW.out.size))
        have ks := runes_str ns A c w4 (Kd.C_below HKC.out hb4)
        rw [P5.out] at ks
        have q6 : decide (ns.length ≤ l0.length) = true := decide_eq_true P2.out
        clear hb4 kb HCL HKC
        go_wp2
        go_ret
        exact ⟨rfl, HB4.out⟩
end Go.Proofs.YtondbckghchmpaaDoor.PA
