/-
  The contract of text.Runes: every text; the tables of unicode/utf8 as their initialisers lay them ('Laid').
-/
import Derived.Test.YtondbckghchmpaaDoorPAx0
import Derived.Test.YtondbckghchmpaaDoorPBase
import Derived.Test.YtondbckghchmpaaDoorGClean
import Derived.WalkKit
import Derived.BigCall
import Derived.Laws.IdiomStrings
namespace Go.Proofs.YtondbckghchmpaaDoor.PA
open Go.RowKit Go.Proofs.YtondbckghchmpaaDoorW.PrintWords Go.Proofs.YtondbckghchmpaaDoorW.PrintLast Go.Proofs.YtondbckghchmpaaDoorW.PrintMore Go.Proofs.YtondbckghchmpaaDoor.Pl
set_option linter.unusedVariables false

/-- A text's characters, by at most so many steps. -/
def rnsF (s : ByteArray) : Nat → Nat → List Int
  | 0, _ => []
  | f + 1, i => if i < s.size then ((Utf8.decode s i).1 : Int) :: rnsF s f (i + (Utf8.decode s i).2) else []
def rns (s : ByteArray) : List Int := rnsF s s.size 0
theorem runesFrom_eq (s : ByteArray) : ∀ (f i : Nat) (acc : Array Value), Conv.runesFrom s f i acc = acc ++ ((rnsF s f i).map fun n => Value.int .i32 n).toArray
  | 0, _, acc => by simp [Conv.runesFrom, rnsF]
  | f + 1, i, acc => by
    unfold Conv.runesFrom rnsF
    split
    · have := runesFrom_eq s f (i + (Utf8.decode s i).2) (acc.push (.int .i32 (Int.ofNat (Utf8.decode s i).1)))
      refine Eq.trans (b := Conv.runesFrom s f (i + (Utf8.decode s i).2) (acc.push (.int .i32 (Int.ofNat (Utf8.decode s i).1)))) rfl ?_
      rw [this]
      simp
    · simp
theorem rnsF_len (s : ByteArray) : ∀ f i, (rnsF s f i).length ≤ f
  | 0, _ => Nat.le_refl _
  | f + 1, i => by
    unfold rnsF
    split
    · rw [List.length_cons]
      exact Nat.succ_le_succ (rnsF_len s f _)
    · exact Nat.zero_le _
theorem rns_len (s : ByteArray) : (rns s).length ≤ s.size := rnsF_len s _ _
/-- The world behind '[]rune(s)'. -/
def runesWorld (w : World) (s : ByteArray) : World :=
  w.drew.alloc (.cells (Conv.runesFrom s s.size 0 #[] ++ Array.replicate (grownCap w (rns s).length 0 21 - (rns s).length) (.int .i32 0)) 21)
theorem runes_size (s : ByteArray) : (Conv.runesFrom s s.size 0 #[]).size = (rns s).length := by
  rw [runesFrom_eq]
  simp [rns]
theorem runes_conv (s : ByteArray) (w : World) (h : s.size ≤ 70368744177664) :
    (convert 9 33 (.string s)).run Tryd.prog w = .ok (.slice (some ⟨w.heap.size, 0, none⟩) (rns s).length (grownCap w (rns s).length 0 21)) (runesWorld w s) := by
  have h0 := rns_len s
  have := run_runes_of_string (P := Tryd.prog) w 9 33 21 s Tryd.underlying9 Tryd.underlying33 Tryd.underlying21 (by rw [runes_size]; omega)
  rw [runes_size] at this
  exact this
theorem runes_own (s : ByteArray) (w : World) (base : Nat) (hb : base ≤ w.heap.size) (h : s.size ≤ 70368744177664) :
    Kd.R (Kd.int .i32) 21 (runesWorld w s) base (fun _ => True) (.slice (some ⟨w.heap.size, 0, none⟩) (rns s).length (grownCap w (rns s).length 0 21)) (rns s) := by
  have h0 := rns_len s
  have hge := grownCap_ge w (rns s).length 0 21
  refine Kd.R_of_own ⟨by simp [encs], .inr ⟨w.heap.size, _, _, rfl, hb, heap_alloc_new w.drew _, hge, grownCap_le_maxLen w _ 0 _ (by unfold maxLen; omega), ?_, ?_⟩⟩ (fun _ _ => trivial)
  · rw [Array.size_append, runes_size, Array.size_replicate]
    omega
  · rw [runesFrom_eq]
    simp only [Array.toList_append, List.nil_append, List.take_append]
    rw [Nat.mul_one]
    have : ((rnsF s s.size 0).map fun n => Value.int .i32 n).length = (rns s).length := by rw [List.length_map]; rfl
    rw [List.take_of_length_le (by rw [this]; exact Nat.le_refl _), this, Nat.sub_self, List.take_zero, List.append_nil]
    rfl
theorem runes_below (s : ByteArray) (w : World) : Below w.heap.size w (runesWorld w s) := (Below.refl _ w).drew.alloc (Nat.le_refl _) _
set_option maxHeartbeats 1000000 in
set_option maxRecDepth 100000 in
theorem text_Runes.walk (s : ByteArray) (w : World) (hLd : Laid w) (hs : s.size ≤ 20000000000000) :
    Calls Tryd.prog 19 #[.string s] w fun e w' => ∃ v0_, e = .returned v0_ ∧ Kd.R (Kd.int .i32) 21 w' w.heap.size (fun _ => True) v0_ (rns (B (clean s.data.toList))) ∧ Below w.heap.size w w' := by
  have hbw := bytes_below (Below.refl w.heap.size w) (Nat.le_refl _) 5 s
  have hrd := bytes_reads w 5 s (by omega)
  have hL := hLd.go hbw
  have hcl := clean_le s.data.toList
  have hcs : s.data.toList.length = s.size := by rw [Array.length_toList]; rfl
  have hcz : (B (clean s.data.toList)).size ≤ 70368744177664 := by rw [B_size]; omega
  have hcap := grownCap_ge w s.size 0 5
  have hf : text_Clean.f (bytesOf s) = some (B (clean s.data.toList)) := by
    unfold text_Clean.f
    have h1 : okB (bytesOf s) = true := by
      unfold okB bytesOf
      rw [List.all_map, List.all_eq_true]
      intro x _
      have := x.toNat_lt
      simp
      omega
    have h2 : u8s (bytesOf s) = s.data.toList := by
      unfold u8s bytesOf
      rw [List.map_map]
      conv => rhs; rw [← List.map_id s.data.toList]
      refine List.map_congr_left (fun x _ => ?_)
      simp
    rw [if_pos ⟨h1, by rw [bytesOf_length]; omega⟩, h2]
    rfl
  have hcall := fun (c : Nat) (hc : s.size ≤ c) => text_Clean.calls (some ⟨w.heap.size, 0, none⟩) c (bytesOf s) (B (clean s.data.toList)) _ hL (by rw [bytesOf_length]; exact Kd.C_of_reads (d := (0 : Int)) (h1 := fun _ => rfl) hrd) (by rw [bytesOf_length]; exact hc) hf
  rw [bytesOf_length] at hcall
  have HC := Aside0.mk hcall
  have HBW := Aside0.mk hbw
  have hws : w.heap.size ≤ (Lib.bytesWorld w 5 s).heap.size := hbw.size
  clear hcall hrd hL hf hbw
  have kb := fun W => print_bytes (P := Tryd.prog) 9 29 5 Tryd.underlying9 Tryd.underlying29 Tryd.underlying5 s W
  go_enter Tryd.func19, Tryd.ntmps19
  go_wp2_with fail
  refine (HC.out _ hcap).mono ?_
  rintro e w1 ⟨rfl, hb1⟩
  have HB1 := Aside0.mk (HBW.out.trans (hb1.mono hws))
  have hsz := HB1.out.size
  clear hb1 HC kb
  have kr := runes_conv (B (clean s.data.toList)) w1 hcz
  have HO := Aside0.mk (runes_own (B (clean s.data.toList)) w1 w.heap.size hsz hcz)
  have HW := Aside0.mk (HB1.out.trans ((runes_below (B (clean s.data.toList)) w1).mono hsz))
  obtain ⟨r, hr⟩ : ∃ r, B (clean s.data.toList) = r := ⟨_, rfl⟩
  rw [hr] at kr HO HW hcz ⊢
  have HR := Aside0.mk hr
  clear hr
  go_wp2
  go_ret
  rw [HR.out]
  exact ⟨_, rfl, HO.out, HW.out⟩
def text_Runes.f (a0 : ByteArray) : Option (List Int) := if a0.size ≤ 20000000000000 then some (rns (B (clean a0.data.toList))) else none
theorem text_Runes.calls (a0 : ByteArray) (r : List Int) (w : World) (hLd : Laid w) (h : text_Runes.f a0 = some r) :
    Calls Tryd.prog 19 #[.string a0] w fun e w' => ∃ v0_, e = .returned v0_ ∧ Kd.R (Kd.int .i32) 21 w' w.heap.size (fun _ => True) v0_ r ∧ Below w.heap.size w w' := by
  unfold text_Runes.f at h
  split at h
  · rename_i hc
    obtain rfl := Option.some.inj h
    exact text_Runes.walk a0 w hLd hc
  · cases h
end Go.Proofs.YtondbckghchmpaaDoor.PA
