/-
  The walks of Clone and pick.
-/
import Derived.Test.YtmjikebbknjahaaShaT
import Derived.Test.YtmjikebbknjahaaListL
import Derived.Deep.DeepCutAuto
namespace Go.Proofs.Ytmjikebbknjahaa
open Go.RowKit Go.Lib Hw
set_option linter.unusedVariables false

theorem OwnB.shape {w : World} {B : Nat} {v : Value} {xs : List UInt8} (h : OwnB w B v xs) : ∃ ad cap, v = .slice ad xs.length cap := by
  rcases h.2 with ⟨rfl, h0⟩ | ⟨g, cap, cur, rfl, _⟩
  · exact ⟨none, 0, by rw [h0]⟩
  · exact ⟨_, cap, rfl⟩

set_option maxHeartbeats 2000000 in
theorem Clone_any (B p : Nat) (rv : Value) (l : List UInt8) (w : World) (hw : Hid (HashB w B p rv l l.length)) (hl : l.length ≤ 1000000000000000000) :
    Calls Try.prog 54 #[.pointer (some ⟨p, 0, none⟩)] w fun e w' => ∃ q rv', e = .returned (.pointer (some ⟨q, 0, none⟩)) ∧ w.heap.size ≤ q ∧ HashB w' w.heap.size q rv' l l.length ∧ Below w.heap.size w w' := by
  obtain ⟨ad, cap, hrv⟩ := hw.out.rest.shape
  obtain ⟨v1, v2, v3, v4, v5, v6, v7, v8⟩ := hw.out.words
  have c0 : w.cell? ⟨p, 0, none⟩ = some (.bool true) := by rw [heap_cell hw.out.cells]; rfl
  have c9 : w.cell? ⟨p, 9, none⟩ = some rv := by rw [heap_cell hw.out.cells]; rfl
  have c10 : w.cell? ⟨p, 10, none⟩ = some (.int .i64 (l.length : Int)) := by rw [heap_cell hw.out.cells]; rfl
  have hr64 := restOf_lt l
  obtain ⟨R, hR⟩ : ∃ R, restOf l = R := ⟨_, rfl⟩
  have Hown := Lib.hid hw.out.rest
  rw [hR] at Hown hr64 hrv
  have HR := Lib.hid hR
  obtain ⟨nR, hnR⟩ : ∃ n, R.length = n := ⟨_, rfl⟩
  rw [hnR] at hrv
  subst hrv
  have hp := hw.out.lt.1
  clear hR
  go_enter Try.func54, Try.ntmps54
  go_upto_region 3 with (go_at_call 75; refine (dead_any _ _ _ _ _ _ hw.out).mono ?_; rintro e w1 ⟨rfl, rfl⟩)
  go_upto_region 4 with fail
  refine wp_name (fun W => Hid (W.heap[w.heap.size]? = some (.cells (hashCells (stOf l) (.slice ad nR cap) l.length) 79 (0, 0))) ∧ Hid (Below w.heap.size w W) ∧ w.heap.size < W.heap.size) ⟨heap_new _ _, (Below.refl _ _).alloc (Nat.le_refl _) _, by simp⟩ (fun w1 hq => ?_)
  obtain ⟨H1, B1, z1⟩ := hq
  have hz1 := B1.out.size
  have Z1 := Lib.hid z1
  have HW1 := Lib.hid (hw.out.below B1.out hw.out.lt.1 hw.out.lt.2)
  have c9b : w1.cell? ⟨p, 9, none⟩ = some (.slice ad nR cap) := by rw [heap_cell HW1.out.cells]; rfl
  have Hown1 : Hid (OwnB w1 B (.slice ad nR cap) R) := by have h := HW1.out.rest; rw [HR.out] at h; exact h
  clear v1 v2 v3 v4 v5 v6 v7 v8 c0 c9 c10 Hown
  go_upto_region 5 with (at_builtin; refine wpList_copyB w1 rfl _ _ rfl rfl B (.slice ad nR cap) R rfl Hown1.out (by omega) _ rfl ?_; intro tv w4 hT hb4; obtain ⟨ad2, cap2, htv⟩ := hT.shape; rw [hnR] at htv; subst htv; have H4 := Lib.hid (heap_below H1.out hb4 z1); have r9 : w4.cell? ⟨w.heap.size, 9, none⟩ = some (.slice ad nR cap) := (by rw [heap_cell H4.out]; rfl); have f9 : w4.frozen? ⟨w.heap.size, 9, none⟩ = false := heap_free H4.out _)
  go_wp2_with fail
  go_ret
  have HH := hash_rest H4.out (.slice ad2 nR cap2)
  have lt2 : ∀ g, (Value.slice ad2 nR cap2).ownBlock = some g → w1.heap.size ≤ g := fun g h => (hT.lt g h).1
  refine ⟨w.heap.size, .slice ad2 nR cap2, rfl, Nat.le_refl _, ⟨HH, ?_, fun e => by have h1 := lt2 _ e; have h2 := Z1.out; omega⟩, (B1.out.trans (hb4.mono hz1)).setCell (by exact Nat.le_refl _) _⟩
  have hT2 := (hT.mono hz1).setOther (p := 0) (a := ⟨w.heap.size, 9, none⟩) (fun e => by have h1 : w1.heap.size ≤ w.heap.size := lt2 _ e; have h2 := Z1.out; omega) (.slice ad2 nR cap2)
  rw [← HR.out] at hT2
  exact hT2

/-- pick: some number below the second -/
theorem pick_any (n : Int) (m : Nat) (w : World) (hm : 0 < m) (hm2 : m ≤ 100) (hn : -9223372036854775808 ≤ n ∧ n ≤ 9223372036854775807) :
    Calls Try.prog 50 #[.int .i64 n, .int .i64 (m : Int)] w fun e w' => ∃ j : Nat, j < m ∧ e = .returned (.int .i64 (j : Int)) ∧ w = w' := by
  obtain ⟨z, hz⟩ : ∃ z, n.tmod (m : Int) = z := ⟨_, rfl⟩
  have hzb : -(m : Int) < z ∧ z < (m : Int) := by
    rw [← hz]
    have h1 := Int.tmod_lt_of_pos n (b := (m : Int)) (by omega)
    have h2 := Int.lt_tmod_of_pos n (b := (m : Int)) (by omega)
    omega
  have d1 : ((m : Int) == 0) = false := by rw [beq_eq_false_iff_ne]; omega
  have d2 : ((m : Int) = 0) = False := by simp; omega
  have d3 : (m = 0) = False := by simp; omega
  go_enter Try.func50, Try.ntmps50
  by_cases hneg : z < 0
  · have d5 : decide (z < 0) = true := decide_eq_true hneg
    obtain ⟨j, hj⟩ : ∃ j : Nat, z + (m : Int) = (j : Int) := ⟨(z + (m : Int)).toNat, by omega⟩
    have d6 : IntKind.i64.wrap (z + (m : Int)) = (j : Int) := by rw [IntWalk.i64_in _ (by omega)]; exact hj
    go_wp2_with fail
    go_ret
    exact ⟨j, by omega, rfl, rfl⟩
  · have d5 : decide (z < 0) = false := decide_eq_false hneg
    obtain ⟨j, rfl⟩ : ∃ j : Nat, z = (j : Int) := ⟨z.toNat, by omega⟩
    go_wp2_with fail
    go_ret
    exact ⟨j, by omega, rfl, rfl⟩
end Go.Proofs.Ytmjikebbknjahaa
