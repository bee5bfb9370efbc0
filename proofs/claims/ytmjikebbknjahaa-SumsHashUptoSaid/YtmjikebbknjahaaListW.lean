/-
  The walks of joined, kept, same; of the reference's Text; of the law SumsCRC.
-/
import Derived.BigQuiet
import Derived.Test.YtmjikebbknjahaaOwnT
import Derived.Test.YtmjikebbknjahaaCutW
import Derived.Test.YtmjikebbknjahaaFrameT
namespace Go.Proofs.Ytmjikebbknjahaa
open Go.RowKit Go.Lib Hw
set_option linter.unusedVariables false

set_option maxHeartbeats 1000000 in
theorem joined_any (v : Value) (l : List ByteArray) (w : World) (hv : StrRow w v l) (hl : (flat l).length ≤ 140737488355328) (hn : l.length ≤ 9223372036854775807) :
    Calls Try.prog 27 #[v] w fun e w' => e = .returned (.string ⟨(flat l).toArray⟩) ∧ Below w.heap.size w w' := by
  obtain ⟨ad, c, rfl, hcell⟩ := strRow_form hv
  have Hc := Lib.hid hcell
  clear hcell hv
  go_enter Try.func27, Try.ntmps27
  go_wp2_with fail
  go_loopw [3, 4] (fun v i wr => ∃ (k : Nat), k ≤ l.length ∧ Hid (OwnB wr w.heap.size v (flat (l.take k))) ∧ Hid (Below w.heap.size w wr) ∧ i = .int .i64 (k : Int)) (fun _ i _ => l.length - (intOf i).toNat)
  case atStart => exact ⟨0, by omega, OwnB.nil _ _, Below.refl _ _, rfl⟩
  case round =>
    obtain ⟨k, hk, HO, HB, rfl⟩ := hrel
    by_cases hlt : k < l.length
    · obtain ⟨b, o, rfl, hcl⟩ := Hc.out (by omega)
      have hc := cellB HB.out (World.block_lt_of_cell? _ _ (hcl k hlt)) (hcl k hlt)
      have hfl := flat_length_le l (k + 1)
      have hft := flat_take_succ l k hlt
      obtain ⟨s, hs⟩ : ∃ s, l[k] = s := ⟨_, rfl⟩
      rw [hs] at hc hft
      rw [hft, List.length_append, data_len] at hfl
      have Hft := Lib.hid hft
      have hz := HB.out.size
      clear hcl hs hft
      go_wp2_with (at_builtin; refine wpList_appSt _ rfl _ _ rfl w.heap.size u3 (flat (l.take k)) rfl HO.out s rfl (by omega) hz ?_; intro v2 w2 hv2 hb2)
      exact ⟨⟨k + 1, by omega, by rw [Hft.out]; exact hv2, HB.out.trans hb2, by go_num⟩, by simp [intOf]; omega⟩
    · obtain rfl : k = l.length := by omega
      have hcv := conv_own HO.out
      rw [List.take_length] at hcv
      go_wp2_with fail
      go_ret
      exact ⟨rfl, HB.out⟩

set_option maxHeartbeats 4000000 in
theorem kept_any (g cap B : Nat) (v : Value) (l : List ByteArray) (w : World) (hO : OwnT w B (.slice (some ⟨g, 0, none⟩) (l.length + 5) cap) (l ++ marks)) (hv : StrRow w v l) (hn : l.length ≤ 1000000000000000) :
    Calls Try.prog 28 #[.slice (some ⟨g, 0, none⟩) l.length cap, v] w fun e w' => e = .returned (.bool true) ∧ Below w.heap.size w w' := by
  obtain ⟨ad, c, rfl, hcell⟩ := strRow_form hv
  have hlm : (l ++ marks).length = l.length + 5 := by simp [marks]
  obtain ⟨g', cap', e, _, hglt, hcap⟩ := hO.form (by omega)
  simp only [Value.slice.injEq, Option.some.injEq, Addr.mk.injEq, and_true] at e
  obtain ⟨rfl, hjunk, rfl⟩ := e
  clear hjunk
  rw [hlm] at hcap
  have hgw : g < w.heap.size := hglt
  have HO := Lib.hid hO
  have Hc := Lib.hid hcell
  have Hlm := Lib.hid hlm
  have hc5 : (l.length : Int) + 5 ≤ (cap : Int) := by omega
  clear hcell hv hO hlm
  go_enter Try.func28, Try.ntmps28
  go_wp2_with fail
  go_loopw [6] (fun i wr => ∃ (k : Nat), k ≤ l.length + 5 ∧ Hid (Below w.heap.size w wr) ∧ i = .int .i64 (k : Int)) (fun i _ => l.length + 5 - (intOf i).toNat)
  case atStart => exact ⟨0, by omega, Below.refl _ _, rfl⟩
  case round =>
    obtain ⟨k, hk, HB, rfl⟩ := hrel
    by_cases hlt : k < l.length + 5
    · have c1 := cellB HB.out hgw (HO.out.cell k (by rw [Hlm.out]; exact hlt))
      by_cases hkl : k < l.length
      · obtain ⟨b, o, rfl, hcl⟩ := Hc.out (by omega)
        have c2 := cellB HB.out (World.block_lt_of_cell? _ _ (hcl k hkl)) (hcl k hkl)
        rw [List.getElem_append_left hkl] at c1
        obtain ⟨s, hs⟩ : ∃ s, l[k] = s := ⟨_, rfl⟩
        rw [hs] at c1 c2
        have h1 : decide (k < l.length) = true := decide_eq_true hkl
        have h2 : decide (l.length ≤ k) = false := decide_eq_false (by omega)
        have h3 : (s.toList == s.toList) = true := beq_self_eq_true _
        clear hcl hs
        go_upto_region 7 with fail
        go_quiet (fail)
        go_wp2_with fail
        exact ⟨⟨k + 1, by omega, below_drewN HB.out, by go_num⟩, by simp [intOf]; omega⟩
      · have hm : (l ++ marks)[k]'(by rw [Hlm.out]; exact hlt) = ⟨#[109, 97, 114, 107]⟩ := by
          rw [List.getElem_append_right (by omega)]
          have hk5 : k - l.length < 5 := by omega
          obtain ⟨j, hj⟩ : ∃ j, k - l.length = j := ⟨_, rfl⟩
          rw [hj] at hk5
          simp only [hj]
          match j, hk5 with
          | 0, _ => rfl
          | 1, _ => rfl
          | 2, _ => rfl
          | 3, _ => rfl
          | 4, _ => rfl
        rw [hm] at c1
        have h1 : decide (k < l.length) = false := decide_eq_false hkl
        have h2 : decide (l.length ≤ k) = true := decide_eq_true (by omega)
        go_upto_region 7 with fail
        go_quiet (fail)
        go_wp2_with fail
        exact ⟨⟨k + 1, by omega, below_drewN HB.out, by go_num⟩, by simp [intOf]; omega⟩
    · obtain rfl : k = l.length + 5 := by omega
      go_wp2_with fail
      go_ret
      exact ⟨rfl, HB.out⟩
end Go.Proofs.Ytmjikebbknjahaa
