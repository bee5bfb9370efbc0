/-
  The walks of Right and of the law SumsNames.
-/
import Derived.Test.YtmjikebbknjahaaRootC
namespace Go.Proofs.Ytmjikebbknjahaa
open Go.RowKit Go.Lib Hw
set_option linter.unusedVariables false

structure RI (w : World) (b1 b2 gH gK gh gk cH cK ch ck : Nat) (W : World) : Prop where
  a : W.heap[b1]? = some (.cells #[.slice (some ⟨gH, 0, none⟩) 8 cH, .slice (some ⟨gK, 0, none⟩) 64 cK] 87 (0, 0))
  b : W.heap[b2]? = some (.cells #[.slice (some ⟨gh, 0, none⟩) 8 ch, .slice (some ⟨gk, 0, none⟩) 64 ck] 87 (0, 0))
  h : ∀ j (hj : j < sha0.list.length), W.cell? ⟨gH, j, none⟩ = some (.int .u32 (toU sha0.list[j]))
  k : ∀ j (hj : j < shaKB.length), W.cell? ⟨gK, j, none⟩ = some (.int .u32 (toU shaKB[j]))
  h2 : ∀ j (hj : j < sha0.list.length), W.cell? ⟨gh, j, none⟩ = some (.int .u32 (toU sha0.list[j]))
  k2 : ∀ j (hj : j < shaKB.length), W.cell? ⟨gk, j, none⟩ = some (.int .u32 (toU shaKB[j]))
  bel : Below w.heap.size w W

theorem RI.drewN {w W : World} {b1 b2 gH gK gh gk cH cK ch ck n : Nat} (r : RI w b1 b2 gH gK gh gk cH cK ch ck W) : RI w b1 b2 gH gK gh gk cH cK ch ck (W.drewN n) :=
  ⟨r.a, r.b, r.h, r.k, r.h2, r.k2, below_drewN r.bel⟩

theorem Constants_sha (w : World) :
    Calls Try.prog 63 #[] w fun e w' => ∃ vH vK, e = .returned (.agg #[vH, vK]) ∧ UR w' vH sha0.list ∧ UR w' vK shaKB ∧ Below w.heap.size w w' := by
  have h1 : ((sieve 312).take 8).map root2 = sha0.list := roots_H
  have h2 : (sieve 312).map root3 = shaKB := roots_K
  have h := Constants_any w
  rw [h1, h2] at h
  exact h

set_option maxHeartbeats 4000000 in
theorem Right_any (w : World) : Calls Try.prog 22 #[] w fun e w' => e = .returned (.bool true) ∧ Below w.heap.size w w' := by
  have l8 : sha0.list.length = 8 := rfl
  have l64 : shaKB.length = 64 := by decide
  have L8 := Lib.hid l8
  have L64 := Lib.hid l64
  clear l8 l64
  go_enter Try.func22, Try.ntmps22
  go_upto_region 1 with fail
  go_upto_region 2 with (go_at_call 63; refine (Constants_sha _).mono ?_; rintro e w1 ⟨vH, vK, rfl, ⟨gH, cH, rfl, hgH, hcH⟩, ⟨gK, cK, rfl, hgK, hcK⟩, hb1⟩)
  rw [L8.out, L64.out]
  refine wp_name (fun W => Hid (W.heap[w1.heap.size]? = some (.cells #[.slice (some ⟨gH, 0, none⟩) 8 cH, .slice (some ⟨gK, 0, none⟩) 64 cK] 87 (0, 0))) ∧ Hid (Below w1.heap.size w1 W) ∧ w1.heap.size < W.heap.size) ⟨heap_new _ _, (Below.refl _ _).alloc (Nat.le_refl _) _, by simp⟩ (fun w2 hq => ?_)
  obtain ⟨A2, B2, z2⟩ := hq
  have HcH := Lib.hid hcH
  have HcK := Lib.hid hcK
  have Hb1 := Lib.hid hb1
  clear hcH hcK hb1
  go_upto_region 3 with (go_at_call 64; refine (table_any _).mono ?_; rintro e w3 ⟨vh, vk, rfl, ⟨gh, ch, rfl, hgh, hch⟩, ⟨gk, ck, rfl, hgk, hck⟩, hb3⟩)
  rw [L8.out, L64.out]
  have hb13 : Below w1.heap.size w1 w3 := B2.out.trans (hb3.mono (by omega))
  have z1 := Hb1.out.size
  have z3 := hb3.size
  refine wp_name (fun W => RI w w1.heap.size w3.heap.size gH gK gh gk cH cK ch ck W) ⟨heap_alloc (heap_below A2.out hb3 z2), heap_new _ _,
    (fun j hj => cellA (cellB hb13 hgH (HcH.out j hj))), (fun j hj => cellA (cellB hb13 hgK (HcK.out j hj))), (fun j hj => cellA (hch j hj)), (fun j hj => cellA (hck j hj)), (Hb1.out.trans (hb13.mono z1)).alloc (by omega) _⟩ (fun w4 R4 => ?_)
  have R4 := Lib.hid R4
  generalize w1.heap.size = b1 at *
  generalize w3.heap.size = b2 at *
  clear A2 B2 z2 HcH HcK Hb1 hch hck hb3 hb13 z1 z3 hgH hgK hgh hgk
  go_wp2_with fail
  go_loopw [3] (fun i wr => ∃ (k : Nat), k ≤ 64 ∧ Hid (RI w b1 b2 gH gK gh gk cH cK ch ck wr) ∧ i = .int .i64 (k : Int)) (fun i _ => 64 - (intOf i).toNat)
  case atStart => exact ⟨0, by omega, R4, rfl⟩
  case round =>
    clear R4
    obtain ⟨k, hk, R, rfl⟩ := hrel
    by_cases hlt : k < 64
    · have d1 : decide (k < 64) = true := decide_eq_true hlt
      have d2 : decide ((k : Int) < 64) = true := decide_eq_true (by omega)
      have i64 : (k : Int) < 64 := by omega
      have c0 : wr.cell? ⟨b1, 0, none⟩ = some (.slice (some ⟨gH, 0, none⟩) 8 cH) := by rw [heap_cell R.out.a]; rfl
      have c1 : wr.cell? ⟨b1, 1, none⟩ = some (.slice (some ⟨gK, 0, none⟩) 64 cK) := by rw [heap_cell R.out.a]; rfl
      have c2 : wr.cell? ⟨b2, 0, none⟩ = some (.slice (some ⟨gh, 0, none⟩) 8 ch) := by rw [heap_cell R.out.b]; rfl
      have c3 : wr.cell? ⟨b2, 1, none⟩ = some (.slice (some ⟨gk, 0, none⟩) 64 ck) := by rw [heap_cell R.out.b]; rfl
      have e1 := R.out.k k (by rw [L64.out]; exact hlt)
      have e2 := R.out.k2 k (by rw [L64.out]; exact hlt)
      obtain ⟨x, hx⟩ : ∃ x, toU (shaKB[k]'(by rw [L64.out]; exact hlt)) = x := ⟨_, rfl⟩
      rw [hx] at e1 e2
      clear hx
      by_cases h8 : k < 8
      · have d3 : decide (k < 8) = true := decide_eq_true h8
        have d4 : decide ((k : Int) < 8) = true := decide_eq_true (by omega)
        have i8 : (k : Int) < 8 := by omega
        have e3 := R.out.h k (by rw [L8.out]; exact h8)
        have e4 := R.out.h2 k (by rw [L8.out]; exact h8)
        obtain ⟨y, hy⟩ : ∃ y, toU (sha0.list[k]'(by rw [L8.out]; exact h8)) = y := ⟨_, rfl⟩
        rw [hy] at e3 e4
        clear hy
        go_upto_region 6 with fail
        go_quiet (fail)
        go_wp2_with fail
        exact ⟨⟨k + 1, by omega, R.out.drewN, by go_num⟩, by simp [intOf]; omega⟩
      · have d3 : decide (k < 8) = false := decide_eq_false h8
        have d4 : decide ((k : Int) < 8) = false := decide_eq_false (by omega)
        go_upto_region 6 with fail
        go_quiet (fail)
        go_wp2_with fail
        exact ⟨⟨k + 1, by omega, R.out.drewN, by go_num⟩, by simp [intOf]; omega⟩
    · obtain rfl : k = 64 := by omega
      have d1 : decide (64 < 64) = false := rfl
      go_wp2_with fail
      go_ret
      exact ⟨rfl, R.out.bel⟩

set_option maxHeartbeats 1000000 in
theorem SumsNames_walk (w : World) :
    Calls Try.prog 3 #[] w fun e w' => e = .returned (.bool true) ∧ Below w.heap.size w w' := by
  go_enter Try.func3, Try.ntmps3
  go_wp2_with (first
    | (go_at_call 22; refine (Right_any _).mono ?_; rintro e w1 ⟨rfl, hb1⟩)
    | (go_at_call 23; refine (awake_any _).mono ?_; rintro e w2 ⟨rfl, hb2⟩))
  go_ret
  exact ⟨rfl, hb1.trans (hb2.mono hb1.size)⟩
end Go.Proofs.Ytmjikebbknjahaa
