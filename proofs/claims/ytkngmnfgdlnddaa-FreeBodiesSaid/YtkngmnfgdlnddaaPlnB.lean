/-
  A number in a list; the numbers that a plan takes.
-/
import Derived.Test.YtkngmnfgdlnddaaPlnA
namespace Go.Proofs.Ytkngmnfgdlnddaa
open Go.RowKit Go.Lib Hw Go.Maps
set_option linter.unusedVariables false

set_option maxHeartbeats 4000000 in
theorem has_any (v : Value) (xs : List Nat) (x : Nat) (w : World) (hv : Hid (URow w v xs)) : Calls Try.prog 37 #[v, .int .u32 (x : Int)] w (SamePost (xs.contains x) w) := by
  obtain ⟨ad, c, hv1, hl, hx1⟩ := hv.out.form
  clear hx1
  subst hv1
  obtain ⟨R, hR⟩ : ∃ R, SamePost (xs.contains x) w = R := ⟨_, rfl⟩
  have HNo : Hid (∀ W, xs.contains x = false → Below w.heap.size w W → R (.returned (.bool false)) W) := fun W h1 h2 => by
    rw [← hR, h1]
    exact ⟨rfl, h2⟩
  have HYes : Hid (∀ W, xs.contains x = true → Below w.heap.size w W → R (.returned (.bool true)) W) := fun W h1 h2 => by
    rw [← hR, h1]
    exact ⟨rfl, h2⟩
  rw [hR]
  clear hR
  obtain ⟨n, hn⟩ : ∃ n, xs.length = n := ⟨_, rfl⟩
  have HN := Lib.hid hn
  rw [hn] at hv hl ⊢
  clear hn
  go_enter Try.func37, Try.ntmps37
  go_upto_region 2 with fail
  go_loopw [5] (fun iv wr => ∃ (k : Nat), k ≤ n ∧ Hid ((xs.take k).contains x = false) ∧ Hid (Below w.heap.size w wr) ∧ iv = .int .i64 (k : Int)) (fun iv _ => n - (intOf iv).toNat)
  case atStart => exact ⟨0, Nat.zero_le _, by show _ = _; rw [List.take_zero]; rfl, Below.refl _ _, rfl⟩
  case round =>
    obtain ⟨k, hk, HT, HB, rfl⟩ := hrel
    by_cases hlt : k < n
    case neg =>
      have ik : ¬ (k : Int) < (n : Int) := by omega
      have hR := HNo.out wr (by
        have h := HT.out
        rw [List.take_of_length_le (by rw [HN.out]; omega)] at h
        exact h) HB.out
      have HR := Lib.hid hR
      clear hR
      go_wp2_with fail
      exact HR.out
    case pos =>
      have ik : (k : Int) < (n : Int) := by omega
      have hkx : k < xs.length := by rw [HN.out]; exact hlt
      obtain ⟨a1, c1, e1, _, g1⟩ := (hv.out.below HB.out).form
      obtain ⟨b1, o1, e2, hc1⟩ := g1 (by omega)
      have e3 := (Value.slice.inj e1).1
      rw [e2] at e3
      subst e3
      have h1 := hc1 k hkx
      have t1 := List.take_succ_eq_append_getElem hkx
      obtain ⟨y, hy⟩ : ∃ y, xs[k] = y := ⟨_, rfl⟩
      have HY : Hid (y ∈ xs) := by show y ∈ xs; rw [← hy]; exact List.getElem_mem hkx
      rw [hy] at h1 t1
      unfold uN at h1
      have T1 := Lib.hid t1
      clear t1 hy hc1 e1 e2 g1 hkx
      by_cases hxy : y = x
      case neg =>
        have en : decide ((y : Int) = (x : Int)) = false := decide_eq_false (by omega)
        have en2 : ((y : Int) == (x : Int)) = false := by simp; omega
        have HT2 : Hid ((xs.take (k + 1)).contains x = false) := by
          show _ = _
          have h := HT.out
          rw [T1.out]
          rw [Bool.eq_false_iff] at h ⊢
          intro hc
          rcases List.mem_append.1 (List.contains_iff_mem.1 hc) with h2 | h2
          · exact h (List.contains_iff_mem.2 h2)
          · exact hxy (List.mem_singleton.1 h2).symm
        have HB2 : Hid (Below w.heap.size w wr) := HB.out
        go_wp2_with fail
        exact ⟨⟨k + 1, by omega, HT2, HB2, by go_num⟩, by simp [intOf]; omega⟩
      case pos =>
        subst hxy
        have en : ((y : Int) == (y : Int)) = true := by simp
        have hR := HYes.out wr (List.contains_iff_mem.2 HY.out) (HB.out)
        have HR := Lib.hid hR
        clear hR
        go_wp2_with fail
        exact HR.out
set_option maxHeartbeats 8000000 in
theorem took_any (ad : Option Addr) (n1 c1 : Nat) (ad2 : Option Addr) (n2 c2 op pg : Nat) (ts : List Nat) (cs : List (Nat × List Nat)) (w : World) (hts : Hid (URow w (.slice ad n1 c1) ts)) (hcs : Hid (CRow w (.slice ad2 n2 c2) cs)) (hz1 : ts.length ≤ 200000) (hz2 : cs.length ≤ 200000) (hl2 : Hid (n2 = cs.length)) :
    Calls Try.prog 35 #[.agg #[.slice ad n1 c1, .slice ad2 n2 c2, .int .i64 (op : Int), .int .u32 (pg : Int)]] w fun e w' => ∃ v, e = .returned v ∧ OwnO w' w.heap.size v (ts ++ cs.map (·.1)) ∧ Below w.heap.size w w' := by
  obtain ⟨N, hN⟩ : ∃ N, w.heap.size = N := ⟨_, rfl⟩
  have HN := Lib.hid hN
  rw [hN]
  clear hN
  have HZ1 := Lib.hid hz1
  have HZ2 := Lib.hid hz2
  clear hz1 hz2
  go_enter Try.func35, Try.ntmps35
  go_upto_region 0 with fail
  with_reducible refine wp_region_list ?_
  refine wpList_boxB rfl _ _ rfl N HN.out #[.slice ad n1 c1, .slice ad2 n2 c2, .int .i64 (op : Int), .int .u32 (pg : Int)] rfl ?_
  intro w1 e1 b1 z1
  (try simp only [Act.put, List.setIfInBounds_toArray, List.set_cons_zero, List.set_cons_succ])
  with_reducible refine wpList_plain rfl ?_
  intro K hK
  go_simp
  first | with_reducible refine hK _ _ ?_ | refine hK _ _ ?_
  clear hK K
  (try simp only [Act.put, List.setIfInBounds_toArray, List.set_cons_zero, List.set_cons_succ])
  have B1 := Lib.hid b1
  have E1 := Lib.hid e1
  have hz1 : N < w1.heap.size := heap_lt e1
  have c0 := heap_cell e1 (o := 0)
  have HT1 : Hid (URow w1 (.slice ad n1 c1) ts) := hts.out.below (by rw [HN.out]; exact b1)
  clear b1 e1 z1
  go_upto_region 1 with fail
  with_reducible refine wp_region_list ?_
  with_reducible refine wpList_plain rfl ?_
  intro K hK
  go_simp
  first | with_reducible refine hK _ _ ?_ | refine hK _ _ ?_
  clear hK K
  (try simp only [Act.put, List.setIfInBounds_toArray, List.set_cons_zero, List.set_cons_succ])
  with_reducible refine wpList_plain rfl ?_
  intro K hK
  go_simp
  first | with_reducible refine hK _ _ ?_ | refine hK _ _ ?_
  clear hK K
  (try simp only [Act.put, List.setIfInBounds_toArray, List.set_cons_zero, List.set_cons_succ])
  refine wpList_appO w1 rfl _ _ rfl (N + 1) (.slice none 0 0) [] rfl (OwnO.nil _ _) _ rfl ts (src_row HT1.out) (by have := HZ1.out; simp; omega) (by omega) ?_
  intro v2 w2 o2 m2 n2x
  rw [List.nil_append] at o2
  obtain ⟨va2, vc2, hv2, hx4, hx5, hx6⟩ := o2.shape
  clear hx4 hx5 hx6
  obtain ⟨vn2, hvn2⟩ : ∃ n, ts.length = n := ⟨_, rfl⟩
  rw [hvn2] at hv2
  subst hv2
  clear hvn2
  (try simp only [Act.put, List.setIfInBounds_toArray, List.set_cons_zero, List.set_cons_succ])
  with_reducible refine wpList_plain rfl ?_
  intro K hK
  go_simp
  first | with_reducible refine hK _ _ ?_ | refine hK _ _ ?_
  clear hK K
  (try simp only [Act.put, List.setIfInBounds_toArray, List.set_cons_zero, List.set_cons_succ])
  have O2 := Lib.hid o2
  have E2 := Lib.hid (m2.heap E1.out (fun e => by cases e))
  have B2 : Hid (Below N w w2) := B1.out.trans (m2.below (n := N) (fun k hk e => by cases e) (by omega))
  have hz2 : N < w2.heap.size := heap_lt E2.out
  clear o2 m2 n2x c0 HT1 B1 E1 hz1
  go_upto_region 3 with fail
  go_loopw [3, 4] (fun lv iv wr => ∃ (k : Nat) (va : Option Addr) (vn vc : Nat), k ≤ n2 ∧ Hid (OwnO wr (N + 1) (.slice va vn vc) (ts ++ (cs.map (·.1)).take k)) ∧ Hid (Below N w wr) ∧ Hid (wr.heap[N]? = some (.cells #[.slice ad n1 c1, .slice ad2 n2 c2, .int .i64 (op : Int), .int .u32 (pg : Int)] 48 (0, 0))) ∧ lv = .slice va vn vc ∧ iv = .int .i64 (k : Int)) (fun _ iv _ => n2 - (intOf iv).toNat)
  case atStart => exact ⟨0, va2, vn2, vc2, Nat.zero_le _, by show OwnO _ _ _ _; rw [List.take_zero, List.append_nil]; exact O2.out, B2, E2, rfl, rfl⟩
  case round =>
    obtain ⟨k, va, vn, vc, hk, HO, HB, HE, rfl, rfl⟩ := hrel
    have d1 := heap_cell HE.out (o := 1)
    by_cases hlt : k < n2
    case neg =>
      have ik : ¬ (k : Int) < (n2 : Int) := by omega
      have HF : Hid (OwnO wr N (.slice va vn vc) (ts ++ cs.map (·.1))) := by
        have h := HO.out
        rw [List.take_of_length_le (by rw [List.length_map]; have := hl2.out; omega)] at h
        exact h.mono (by omega)
      clear hlt
      go_wp2_with fail
      go_ret
      exact ⟨_, rfl, HF.out, HB.out⟩
    case pos =>
      have ik : (k : Int) < (n2 : Int) := by omega
      have hkx : k < cs.length := by have := hl2.out; omega
      obtain ⟨b1, o1, nad, nc, e1, r1, u1, pp1⟩ := (hcs.out.below (by rw [HN.out]; exact HB.out)).at hkx
      subst e1
      have t1 : (cs.map (·.1)).take (k + 1) = (cs.map (·.1)).take k ++ [cs[k].1] := by
        rw [List.take_succ_eq_append_getElem (by rw [List.length_map]; exact hkx), List.getElem_map]
      obtain ⟨⟨x, xl⟩, hx⟩ : ∃ x, cs[k] = x := ⟨_, rfl⟩
      rw [hx] at r1 u1 t1 pp1
      simp only at r1 u1 t1 pp1
      have f1 := r1 0 _ rfl
      unfold uN at f1
      rw [Nat.add_zero] at f1
      have T1 := Lib.hid t1
      clear t1 hx r1 u1 pp1 hkx hlt
      obtain ⟨k2, hk2⟩ : ∃ k2 : Nat, k2 = k + 1 := ⟨_, rfl⟩
      have ew1 : (k : Int) + 1 = (k2 : Int) := by omega
      have ew2 : IntKind.i64.wrap (k2 : Int) = (k2 : Int) := IntWalk.i64_in _ (by have := HZ2.out; have := hl2.out; omega)
      have hk3 : k2 ≤ n2 := by omega
      have hk4 : n2 - k2 < n2 - k := by omega
      have HK2 := Lib.hid hk2
      clear hk2
      go_upto_region 5 with fail
      with_reducible refine wp_region_list ?_
      with_reducible refine wpList_plain rfl ?_
      intro K hK
      go_simp
      first | with_reducible refine hK _ _ ?_ | refine hK _ _ ?_
      clear hK K
      (try simp only [Act.put, List.setIfInBounds_toArray, List.set_cons_zero, List.set_cons_succ])
      with_reducible refine wpList_plain rfl ?_
      intro K hK
      go_simp
      first | with_reducible refine hK _ _ ?_ | refine hK _ _ ?_
      clear hK K
      (try simp only [Act.put, List.setIfInBounds_toArray, List.set_cons_zero, List.set_cons_succ])
      with_reducible refine wpList_plain rfl ?_
      intro K hK
      go_simp
      first | with_reducible refine hK _ _ ?_ | refine hK _ _ ?_
      clear hK K
      (try simp only [Act.put, List.setIfInBounds_toArray, List.set_cons_zero, List.set_cons_succ])
      with_reducible refine wpList_plain rfl ?_
      intro K hK
      go_simp
      first | with_reducible refine hK _ _ ?_ | refine hK _ _ ?_
      clear hK K
      (try simp only [Act.put, List.setIfInBounds_toArray, List.set_cons_zero, List.set_cons_succ])
      with_reducible refine wpList_plain rfl ?_
      intro K hK
      go_simp
      first | with_reducible refine hK _ _ ?_ | refine hK _ _ ?_
      clear hK K
      (try simp only [Act.put, List.setIfInBounds_toArray, List.set_cons_zero, List.set_cons_succ])
      with_reducible refine wpList_plain rfl ?_
      intro K hK
      go_simp
      first | with_reducible refine hK _ _ ?_ | refine hK _ _ ?_
      clear hK K
      (try simp only [Act.put, List.setIfInBounds_toArray, List.set_cons_zero, List.set_cons_succ])
      with_reducible refine wpList_plain rfl ?_
      intro K hK
      go_simp
      first | with_reducible refine hK _ _ ?_ | refine hK _ _ ?_
      clear hK K
      (try simp only [Act.put, List.setIfInBounds_toArray, List.set_cons_zero, List.set_cons_succ])
      with_reducible refine wpList_plain rfl ?_
      intro K hK
      go_simp
      first | with_reducible refine hK _ _ ?_ | refine hK _ _ ?_
      clear hK K
      (try simp only [Act.put, List.setIfInBounds_toArray, List.set_cons_zero, List.set_cons_succ])
      have hsz : N < wr.heap.size := heap_lt HE.out
      have hbA : Below wr.heap.size wr (wr.alloc (.cells #[.int .u32 (x : Int)] 27)) := (Below.refl _ _).alloc (Nat.le_refl _) _
      refine wpList_appO _ rfl _ _ rfl (N + 1) (.slice va vn vc) (ts ++ (cs.map (·.1)).take k) rfl (HO.out.below hbA (fun g hg => (HO.out.lt g hg).2)) _ rfl [x] (src_one wr x _) (by have := HZ1.out; have := HZ2.out; simp only [List.length_append, List.length_singleton, List.length_take, List.length_map]; omega) (by have := hbA.size; omega) ?_
      intro v5 w5 o5 m5 n5
      rw [List.append_assoc, ← T1.out] at o5
      obtain ⟨va5, vc5, hv5, hx4, hx5, hx6⟩ := o5.shape
      clear hx4 hx5 hx6
      obtain ⟨vn5, hvn5⟩ : ∃ n, (ts ++ (cs.map (·.1)).take (k + 1)).length = n := ⟨_, rfl⟩
      rw [hvn5] at hv5
      subst hv5
      clear hvn5
      (try simp only [Act.put, List.setIfInBounds_toArray, List.set_cons_zero, List.set_cons_succ])
      with_reducible refine wpList_plain rfl ?_
      intro K hK
      go_simp
      first | with_reducible refine hK _ _ ?_ | refine hK _ _ ?_
      clear hK K
      (try simp only [Act.put, List.setIfInBounds_toArray, List.set_cons_zero, List.set_cons_succ])
      have O5 := Lib.hid o5
      have HB5 : Hid (Below N w w5) := HB.out.trans ((hbA.mono (by omega)).trans (m5.below (n := N) (fun g hg e => by have := (HO.out.lt g e).1; omega) (by have := hbA.size; omega)))
      have HE5 : Hid (w5.heap[N]? = some (.cells #[.slice ad n1 c1, .slice (some ⟨b1, o1, none⟩) n2 c2, .int .i64 (op : Int), .int .u32 (pg : Int)] 48 (0, 0))) := m5.heap (heap_below HE.out hbA hsz) (fun e => by have := (HO.out.lt N e).1; omega)
      clear o5 m5 n5 hbA f1 d1 HO HE HB T1
      go_wp2_with fail
      exact ⟨⟨k2, va5, vn5, vc5, hk3, by rw [HK2.out]; exact O5, HB5, HE5, rfl, rfl⟩, by simp only [intOf, Int.toNat_natCast]; exact hk4⟩
end Go.Proofs.Ytkngmnfgdlnddaa
