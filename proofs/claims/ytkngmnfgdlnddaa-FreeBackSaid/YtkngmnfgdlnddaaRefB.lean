/-
  The reference's rising and four.
-/
import Derived.Test.YtkngmnfgdlnddaaGI
import Derived.Test.YtkngmnfgdlnddaaGB
set_option linter.unusedSimpArgs false
set_option linter.unusedVariables false
namespace Go.Proofs.Ytkngmnfgdlnddaa
open Go.RowKit Go.Lib Hw Go.Maps
set_option linter.unusedSimpArgs false
set_option linter.unusedVariables false

def risC (en : Nat) (xs : List Nat) (i : Nat) : Prop := 2 ≤ xs.getD i 0 ∧ xs.getD i 0 < en ∧ (0 < i → xs.getD (i - 1) 0 < xs.getD i 0)
def risR (E : Int) (en : Nat) (xs : List Nat) : Bool := decide ((xs.length : Int) ≤ E) && (xs.all (fun x => decide (2 ≤ x) && decide (x < en)) && risB xs)
theorem risR_iff (E : Int) (en : Nat) (xs : List Nat) : risR E en xs = true ↔ (xs.length : Int) ≤ E ∧ ∀ i < xs.length, risC en xs i := by
  unfold risR
  simp only [Bool.and_eq_true, decide_eq_true_eq, List.all_eq_true, risB_iff]
  constructor
  · rintro ⟨h1, h2, h3⟩
    refine ⟨h1, fun i hi => ?_⟩
    have e : xs.getD i 0 = xs[i] := by simp [List.getD, hi]
    have h4 := h2 _ (List.getElem_mem hi)
    refine ⟨by rw [e]; exact h4.1, by rw [e]; exact h4.2, fun h0 => ?_⟩
    have e2 : xs.getD (i - 1) 0 = xs[i - 1] := by simp [List.getD, show i - 1 < xs.length by omega]
    have h5 := h3 (i - 1) (by omega)
    rw [e, e2]
    simpa only [show i - 1 + 1 = i by omega] using h5
  · rintro ⟨h1, h2⟩
    refine ⟨h1, fun x hx => ?_, fun i hi => ?_⟩
    · obtain ⟨i, hi, rfl⟩ := List.mem_iff_getElem.1 hx
      have e : xs.getD i 0 = xs[i] := by simp [List.getD, hi]
      obtain ⟨h3, h4, _⟩ := h2 i hi
      rw [e] at h3 h4
      exact ⟨h3, h4⟩
    · have h3 := (h2 (i + 1) hi).2.2 (by omega)
      have e : xs.getD (i + 1) 0 = xs[i + 1] := by simp [List.getD, hi]
      have e2 : xs.getD i 0 = xs[i] := by simp [List.getD, show i < xs.length by omega]
      rw [e, show i + 1 - 1 = i by omega, e2] at h3
      exact h3
set_option maxRecDepth 5000 in
set_option maxHeartbeats 8000000 in
theorem refRising_any (v : Value) (xs : List Nat) (E : Int) (en : Nat) (w : World) (hv : Hid (URow w v xs)) :
    Calls Try.prog 54 #[v, .int .i64 E, .int .u32 (en : Int)] w (SamePost (risR E en xs) w) := by
  obtain ⟨ad, c, hv1, hl, hx1⟩ := hv.out.form
  clear hx1
  subst hv1
  obtain ⟨R, hR⟩ : ∃ R, SamePost (risR E en xs) w = R := ⟨_, rfl⟩
  have HNo : Hid (∀ W, ¬ ((xs.length : Int) ≤ E ∧ ∀ i < xs.length, risC en xs i) → Below w.heap.size w W → R (.returned (.bool false)) W) := fun W h1 h2 => by
    rw [← hR]
    have : risR E en xs = false := Bool.eq_false_iff.2 (fun h => h1 ((risR_iff E en xs).1 h))
    rw [this]
    exact ⟨rfl, h2⟩
  have HYes : Hid (∀ W, ((xs.length : Int) ≤ E ∧ ∀ i < xs.length, risC en xs i) → Below w.heap.size w W → R (.returned (.bool true)) W) := fun W h1 h2 => by
    rw [← hR, (risR_iff E en xs).2 h1]
    exact ⟨rfl, h2⟩
  rw [hR]
  clear hR
  obtain ⟨n, hn⟩ : ∃ n, xs.length = n := ⟨_, rfl⟩
  have HN := Lib.hid hn
  rw [hn] at hv hl HNo HYes ⊢
  clear hn
  by_cases hE : (n : Int) ≤ E
  case neg =>
    have d1 : decide (E < (n : Int)) = true := decide_eq_true (by omega)
    have hR := HNo.out w (fun h => hE h.1) (Below.refl _ _)
    have HR := Lib.hid hR
    have d2 : E < (n : Int) := by omega
    clear hR hE
    go_enter Try.func54, Try.ntmps54
    go_wp2_with fail
    exact HR.out
  case pos =>
    have d1 : decide (E < (n : Int)) = false := decide_eq_false (by omega)
    have d2 : ¬ E < (n : Int) := by omega
    have HE := Lib.hid hE
    go_enter Try.func54, Try.ntmps54
    go_upto_region 4 with fail
    clear d1 d2 hE
    go_loopw [7] (fun iv wr => ∃ (k : Nat), k ≤ n ∧ Hid (∀ i < k, risC en xs i) ∧ Hid (Below w.heap.size w wr) ∧ iv = .int .i64 (k : Int)) (fun iv _ => n - (intOf iv).toNat)
    case atStart => exact ⟨0, Nat.zero_le _, fun i hi => by omega, Below.refl _ _, rfl⟩
    case round =>
      obtain ⟨k, hk, HT, HB, rfl⟩ := hrel
      by_cases hlt : k < n
      case neg =>
        have ik : ¬ (k : Int) < (n : Int) := by omega
        have hR := HYes.out wr ⟨HE.out, fun i hi => HT.out i (by omega)⟩ HB.out
        have HR := Lib.hid hR
        clear hR hlt
        go_wp2_with fail
        exact HR.out
      case pos =>
        have ik : (k : Int) < (n : Int) := by omega
        have hkx : k < xs.length := by rw [HN.out]; exact hlt
        obtain ⟨a1, c1, e1, _, g1⟩ := (hv.out.below HB.out).form
        obtain ⟨b1, o1, e2, hc1⟩ := g1 (by omega)
        have e3 := (Value.slice.inj e1).1
        rw [e2] at e3
        subst e3
        have h1 := hc1 k hkx
        have HC : Hid (risC en xs k ↔ 2 ≤ xs[k] ∧ xs[k] < en ∧ (0 < k → xs.getD (k - 1) 0 < xs[k])) := by
          have e : xs.getD k 0 = xs[k] := by simp [List.getD, hkx]
          show _ ↔ _
          unfold risC
          rw [e]
        obtain ⟨x, hx⟩ : ∃ x, xs[k] = x := ⟨_, rfl⟩
        rw [hx] at h1 HC
        unfold uN at h1
        obtain ⟨k9, hk9⟩ : ∃ k9 : Nat, k9 = k + 1 := ⟨_, rfl⟩
        have ew1 : (k : Int) + 1 = (k9 : Int) := by omega
        have ew2 : IntKind.i64.wrap (k9 : Int) = (k9 : Int) := IntWalk.i64_in _ (by omega)
        have hk3 : k9 ≤ n := by omega
        have hk4 : n - k9 < n - k := by omega
        have HGo : Hid (risC en xs k → ∀ i < k9, risC en xs i) := fun hc i hi => by
          by_cases e : i = k
          · rw [e]; exact hc
          · exact HT.out i (by omega)
        have HStop : Hid (¬ risC en xs k → ¬ ((n : Int) ≤ E ∧ ∀ i < n, risC en xs i)) := fun hc h => hc (h.2 k hlt)
        have HCell : Hid (∀ i (h : i < xs.length), wr.cell? ⟨b1, o1 + i, none⟩ = some (uN xs[i])) := hc1
        have HXL := Lib.hid hkx
        clear hk9 hx hc1 e1 e2 g1 hkx
        by_cases hx2 : x < 2
        case pos =>
          have y1 : decide (x < 2) = true := decide_eq_true hx2
          have y2 : decide ((x : Int) < 2) = true := decide_eq_true (by omega)
          have y3 : (x : Int) < 2 := by omega
          have hR := fun q => HNo.out (wr.drewN q) (HStop.out (fun h => by have := (HC.out.1 h).1; omega)) (HB.out.trans ((below_dN wr q).mono HB.out.size))
          have HR := Lib.hid hR
          clear hR hx2
          go_upto_region 6 with fail
          go_quiet (fail)
          go_wp2_with fail
          exact HR.out nq
        case neg =>
          have y1 : decide (x < 2) = false := decide_eq_false hx2
          have y2 : decide ((x : Int) < 2) = false := decide_eq_false (by omega)
          have y3 : ¬ (x : Int) < 2 := by omega
          by_cases hxe : en ≤ x
          case pos =>
            have z1 : decide (en ≤ x) = true := decide_eq_true hxe
            have hR := fun q => HNo.out (wr.drewN q) (HStop.out (fun h => by have := (HC.out.1 h).2.1; omega)) (HB.out.trans ((below_dN wr q).mono HB.out.size))
            have HR := Lib.hid hR
            clear hR hxe hx2
            go_upto_region 6 with fail
            go_quiet (fail)
            go_wp2_with fail
            exact HR.out nq
          case neg =>
            have z1 : decide (en ≤ x) = false := decide_eq_false hxe
            by_cases hk0 : k = 0
            case pos =>
              have HT2 := Lib.hid (HGo.out (HC.out.2 ⟨by omega, by omega, fun h => by omega⟩))
              have u1 : decide (0 < k) = false := decide_eq_false (by omega)
              clear hx2 hxe hk0
              go_upto_region 6 with fail
              go_quiet (fail)
              have HB2 : Hid (Below w.heap.size w (wr.drewN nq)) := HB.out.trans ((below_dN wr nq).mono HB.out.size)
              go_wp2_with fail
              exact ⟨⟨k9, hk3, HT2, HB2, rfl⟩, by simp only [intOf, Int.toNat_natCast]; exact hk4⟩
            case neg =>
              obtain ⟨m, hm⟩ : ∃ m, k - 1 = m := ⟨_, rfl⟩
              have u1 : decide (0 < k) = true := decide_eq_true (by omega)
              have u2 : (k : Int) - 1 = (m : Int) := by omega
              have u3 : IntKind.i64.wrap (m : Int) = (m : Int) := IntWalk.i64_in _ (by omega)
              have u4 : (m : Int) < (n : Int) := by omega
              have hmx : m < xs.length := by have := HXL.out; omega
              have h2 := HCell.out m hmx
              have em : xs.getD (k - 1) 0 = xs[m] := by rw [hm]; simp [List.getD, hmx]
              obtain ⟨y, hy⟩ : ∃ y, xs[m] = y := ⟨_, rfl⟩
              rw [hy] at h2 em
              unfold uN at h2
              have HEM := Lib.hid em
              clear hm em hy hmx
              by_cases hxy : x ≤ y
              case pos =>
                have v1 : decide (x ≤ y) = true := decide_eq_true hxy
                have hR := fun q => HNo.out (wr.drewN q) (HStop.out (fun h => by have h3 := (HC.out.1 h).2.2 (by omega); rw [HEM.out] at h3; omega)) (HB.out.trans ((below_dN wr q).mono HB.out.size))
                have HR := Lib.hid hR
                clear hR hxe hx2 hxy hk0
                go_upto_region 6 with fail
                go_quiet (fail)
                go_wp2_with fail
                exact HR.out nq
              case neg =>
                have v1 : decide (x ≤ y) = false := decide_eq_false hxy
                have HT2 := Lib.hid (HGo.out (HC.out.2 ⟨by omega, by omega, fun h => by rw [HEM.out]; omega⟩))
                clear hxe hx2 hxy hk0
                go_upto_region 6 with fail
                go_quiet (fail)
                have HB2 : Hid (Below w.heap.size w (wr.drewN nq)) := HB.out.trans ((below_dN wr nq).mono HB.out.size)
                go_wp2_with fail
                exact ⟨⟨k9, hk3, HT2, HB2, rfl⟩, by simp only [intOf, Int.toNat_natCast]; exact hk4⟩
end Go.Proofs.Ytkngmnfgdlnddaa

