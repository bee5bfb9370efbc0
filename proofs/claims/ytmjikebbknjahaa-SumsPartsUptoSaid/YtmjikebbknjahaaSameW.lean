/-
  The walk of the law's same.
-/
import Derived.BigQuiet
import Derived.Test.YtmjikebbknjahaaOwnT
import Derived.Test.YtmjikebbknjahaaCutW
import Derived.Test.YtmjikebbknjahaaFrameT
namespace Go.Proofs.Ytmjikebbknjahaa
open Go.RowKit Go.Lib Hw
set_option linter.unusedVariables false

theorem same_false {l m : List ByteArray} (k : Nat) (h1 : k < l.length) (h2 : k < m.length) (h : l[k] ≠ m[k]) : decide (l = m) = false := by
  apply decide_eq_false
  rintro rfl
  exact h rfl
theorem bne_bytes {x y : ByteArray} (h : x ≠ y) : (x.toList == y.toList) = false := by
  rw [beq_eq_false_iff_ne]
  intro e
  rw [ByteArray.toList_eq, ByteArray.toList_eq] at e
  exact h (ByteArray.ext (Array.toList_inj.1 e))

set_option maxHeartbeats 1000000 in
theorem same_any (va vb : Value) (l m : List ByteArray) (w : World) (ha : StrRow w va l) (hb : StrRow w vb m) (hl : l.length ≤ 9223372036854775807) (hm : m.length ≤ 9223372036854775807) :
    Calls Try.prog 35 #[va, vb] w fun e w' => e = .returned (.bool (decide (l = m))) ∧ Below w.heap.size w w' := by
  obtain ⟨a1, c1, rfl, hc1⟩ := strRow_form ha
  obtain ⟨a2, c2, rfl, hc2⟩ := strRow_form hb
  have H1 := Lib.hid hc1
  have H2 := Lib.hid hc2
  clear hc1 hc2 ha hb
  obtain ⟨B, hB⟩ : ∃ B, decide (l = m) = B := ⟨_, rfl⟩
  rw [hB]
  by_cases hlm : l.length = m.length
  · have hd : ((l.length : Int) == (m.length : Int)) = true := by rw [hlm]; exact beq_self_eq_true _
    go_enter Try.func35, Try.ntmps35
    go_wp2_with fail
    go_loopw [5] (fun i wr => ∃ (k : Nat), k ≤ l.length ∧ Hid (l.take k = m.take k) ∧ Hid (Below w.heap.size w wr) ∧ i = .int .i64 (k : Int)) (fun i _ => l.length - (intOf i).toNat)
    case atStart => exact ⟨0, by omega, (rfl : l.take 0 = m.take 0), Below.refl _ _, rfl⟩
    case round =>
      obtain ⟨k, hk, HT, HB, rfl⟩ := hrel
      by_cases hlt : k < l.length
      · have hlt2 : k < m.length := by omega
        obtain ⟨b1, o1, rfl, hcl1⟩ := H1.out (by omega)
        obtain ⟨b2, o2, rfl, hcl2⟩ := H2.out (by omega)
        have e1 := cellB HB.out (World.block_lt_of_cell? _ _ (hcl1 k hlt)) (hcl1 k hlt)
        have e2 := cellB HB.out (World.block_lt_of_cell? _ _ (hcl2 k hlt2)) (hcl2 k hlt2)
        obtain ⟨x, hx⟩ : ∃ x, l[k] = x := ⟨_, rfl⟩
        obtain ⟨y, hy⟩ : ∃ y, m[k] = y := ⟨_, rfl⟩
        have h1 : decide ((k : Int) < (l.length : Int)) = true := by simp; omega
        rw [hx] at e1
        rw [hy] at e2
        by_cases hxy : x = y
        · have hT2 : Hid (l.take (k + 1) = m.take (k + 1)) := by
            show _ = _
            rw [List.take_add_one, List.take_add_one, HT.out, List.getElem?_eq_getElem hlt, List.getElem?_eq_getElem hlt2, hx, hy, hxy]
          subst hxy
          have h3 : (x.toList == x.toList) = true := beq_self_eq_true _
          clear hx hy hcl1 hcl2 HT
          go_upto_region 6 with fail
          go_quiet (fail)
          go_wp2_with fail
          exact ⟨⟨k + 1, by omega, hT2, below_drewN HB.out, by go_num⟩, by simp [intOf]; omega⟩
        · have hres : decide (l = m) = false := same_false k hlt hlt2 (by rw [hx, hy]; exact hxy)
          have h3 := bne_bytes hxy
          obtain rfl : B = false := hB.symm.trans hres
          clear hx hy hcl1 hcl2 HT hxy hres hB
          go_upto_region 6 with fail
          go_quiet (fail)
          go_wp2_with fail
          go_ret
          exact ⟨rfl, below_drewN HB.out⟩
      · obtain rfl : k = l.length := by omega
        have hres : decide (l = m) = true := decide_eq_true (by have h := HT.out; rw [List.take_length, hlm, List.take_length] at h; exact h)
        obtain rfl : B = true := hB.symm.trans hres
        clear HT hres hB
        go_wp2_with fail
        go_ret
        exact ⟨rfl, HB.out⟩
  · have hd : ((l.length : Int) == (m.length : Int)) = false := by rw [beq_eq_false_iff_ne]; omega
    have hres : decide (l = m) = false := decide_eq_false (fun h => hlm (by rw [h]))
    obtain rfl : B = false := hB.symm.trans hres
    clear hlm hres hB
    go_enter Try.func35, Try.ntmps35
    go_wp2_with fail
    go_ret
    exact ⟨rfl, Below.refl _ _⟩
end Go.Proofs.Ytmjikebbknjahaa
