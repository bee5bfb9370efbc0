/-
  Numbers that are lent: with marks behind them.
-/
import Derived.Test.YtkngmnfgdlnddaaAwkB
namespace Go.Proofs.Ytkngmnfgdlnddaa
open Go.RowKit Go.Lib Hw Go.Maps
set_option linter.unusedSimpArgs false
set_option linter.unusedVariables false

def marks (k : Nat) : List Nat := (List.range k).map (fun i => 900000 + i)
theorem marks_succ (k : Nat) : marks (k + 1) = marks k ++ [900000 + k] := by unfold marks; rw [List.range_succ, List.map_append]; rfl
theorem marks_len (k : Nat) : (marks k).length = k := by unfold marks; simp
theorem marks_get (k i : Nat) (h : i < (marks k).length) : (marks k)[i] = 900000 + i := by simp [marks]
def LentN (w : World) (N : Nat) (v : Value) (l : List Nat) : Prop := All4 l ∧ ∃ g o cap, v = .slice (some ⟨g, o, none⟩) l.length cap ∧ OwnO w N (.slice (some ⟨g, o, none⟩) (l ++ marks 70).length cap) (l ++ marks 70)
theorem LentN.below {w w' : World} {N : Nat} {v : Value} {l : List Nat} (h : LentN w N v l) (hb : Below w.heap.size w w') : LentN w' N v l := by
  obtain ⟨h0, g, o, cap, hv, ho⟩ := h
  exact ⟨h0, g, o, cap, hv, ho.below hb (fun k hk => (ho.lt k hk).2)⟩
theorem LentN.row {w : World} {N : Nat} {v : Value} {l : List Nat} (h : LentN w N v l) : URow w v l := by
  obtain ⟨h0, g, o, cap, rfl, ho⟩ := h
  obtain ⟨ad2, cap2, hv, h1, h2, _⟩ := ho.shape
  cases hv
  have hlt := (ho.lt g rfl).2
  rw [List.length_append] at h1
  refine ⟨h0, _, _, rfl, by omega, h2, fun hp => ⟨g, o, rfl, hlt, fun i hi => ?_⟩⟩
  rw [ho.cellAt i (by rw [List.length_append]; omega), List.getElem_append_left hi]
set_option maxRecDepth 5000 in
set_option maxHeartbeats 8000000 in
theorem lentNumbers_any (v : Value) (l : List Nat) (w : World) (hv : Hid (URow w v l)) (hz : Hid (l.length * 4 ≤ 140737488351232)) :
    Calls Try.prog 22 #[v] w fun e w' => ∃ u, e = .returned u ∧ LentN w' w.heap.size u l ∧ Below w.heap.size w w' := by
  obtain ⟨ad, c, hv1, hx2, hx3⟩ := hv.out.form
  clear hx2 hx3
  subst hv1
  obtain ⟨N, hN⟩ : ∃ N, w.heap.size = N := ⟨_, rfl⟩
  have HN := Lib.hid hN
  rw [hN]
  clear hN
  obtain ⟨n, hn⟩ : ∃ k, l.length = k := ⟨_, rfl⟩
  have HL := Lib.hid hn
  rw [hn] at hv ⊢
  clear hn
  go_enter Try.func22, Try.ntmps22
  go_upto_region 1 with fail
  with_reducible refine wp_region_list ?_
  with_reducible refine wpList_plain rfl ?_
  intro K hK
  go_simp
  first | with_reducible refine hK _ _ ?_ | refine hK _ _ ?_
  clear hK K
  (try simp only [Act.put, List.setIfInBounds_toArray, List.set_cons_zero, List.set_cons_succ])
  refine wpList_appO w rfl _ _ rfl N (.slice none 0 0) [] rfl (OwnO.nil _ _) _ rfl l (src_row hv.out) (by have := hz.out; simp; omega) (by have := HN.out; omega) ?_
  intro v2 w2 o2 m2 n2x
  rw [List.nil_append] at o2
  obtain ⟨va2, vc2, hv2, hx4, hx5, hx6⟩ := o2.shape
  clear hx4 hx5 hx6
  obtain ⟨vn2, hvn2⟩ : ∃ n, l.length = n := ⟨_, rfl⟩
  rw [hvn2] at hv2
  subst hv2
  clear hvn2
  (try simp only [Act.put, List.setIfInBounds_toArray, List.set_cons_zero, List.set_cons_succ])
  with_reducible refine wpList_plain rfl ?_
  intro K hK
  go_simp
  first | with_reducible refine hK _ _ ?_ | refine hK _ _ ?_
  clear hK K
  (try simp only [Act.put, List.setIfInBounds_toArray, List.set_cons_zero, List.set_cons_succ])
  have O2 : Hid (OwnO w2 N (.slice va2 vn2 vc2) (l ++ marks 0)) := by show OwnO _ _ _ _; have e : marks 0 = [] := rfl; rw [e, List.append_nil]; exact o2
  have B2 : Hid (Below N w w2) := m2.below (n := N) (fun k hk e => by cases e) (by have := HN.out; omega)
  clear o2 m2 n2x
  go_upto_region 3 with fail
  go_loopw [3, 4] (fun lv iv wr => ∃ (k : Nat) (va : Option Addr) (vn vc : Nat), k ≤ 70 ∧ Hid (OwnO wr N (.slice va vn vc) (l ++ marks k)) ∧ Hid (Below N w wr) ∧ lv = .slice va vn vc ∧ iv = .int .i64 (k : Int)) (fun _ iv _ => 70 - (intOf iv).toNat)
  case atStart => exact ⟨0, va2, vn2, vc2, Nat.zero_le _, O2, B2, rfl, rfl⟩
  case round =>
    obtain ⟨k, va, vn, vc, hk, HO, HB, rfl, rfl⟩ := hrel
    by_cases hlt : k < 70
    case pos =>
      have ik : (k : Int) < 70 := by omega
      obtain ⟨y, hy⟩ : ∃ y, 900000 + k = y := ⟨_, rfl⟩
      have ey : (900000 : Int) + (k : Int) = (y : Int) := by omega
      have ey2 : IntKind.i64.wrap (y : Int) = (y : Int) := IntWalk.i64_in _ (by omega)
      have ey3 : IntKind.u32.wrap (y : Int) = (y : Int) := by
        have h1 := IntWalk.u32_in (y : Int) (by omega)
        exact h1
      obtain ⟨k2, hk2⟩ : ∃ k2 : Nat, k2 = k + 1 := ⟨_, rfl⟩
      have ew1 : (k : Int) + 1 = (k2 : Int) := by omega
      have ew2 : IntKind.i64.wrap (k2 : Int) = (k2 : Int) := IntWalk.i64_in _ (by omega)
      have hk3 : k2 ≤ 70 := by omega
      have hk4 : 70 - k2 < 70 - k := by omega
      have HM : Hid (marks k2 = marks k ++ [y]) := by show _ = _; rw [hk2, ← hy]; exact marks_succ k
      have hyb : y < 4294967296 := by omega
      clear hk2 hy hlt
      go_upto_region 5 with fail
      with_reducible refine wp_region_list ?_
      with_reducible refine wpList_plain rfl ?_
      intro K hK
      go_simp
      first | with_reducible refine hK _ _ ?_ | refine hK _ _ ?_
      clear hK K
      (try simp only [Act.put, List.setIfInBounds_toArray, List.set_cons_zero, List.set_cons_succ])
      with_reducible refine wpList_plain rfl ?_
      intro K hK
      go_simp
      first | with_reducible refine hK _ _ ?_ | refine hK _ _ ?_
      clear hK K
      (try simp only [Act.put, List.setIfInBounds_toArray, List.set_cons_zero, List.set_cons_succ])
      with_reducible refine wpList_plain rfl ?_
      intro K hK
      go_simp
      first | with_reducible refine hK _ _ ?_ | refine hK _ _ ?_
      clear hK K
      (try simp only [Act.put, List.setIfInBounds_toArray, List.set_cons_zero, List.set_cons_succ])
      with_reducible refine wpList_plain rfl ?_
      intro K hK
      go_simp
      first | with_reducible refine hK _ _ ?_ | refine hK _ _ ?_
      clear hK K
      (try simp only [Act.put, List.setIfInBounds_toArray, List.set_cons_zero, List.set_cons_succ])
      with_reducible refine wpList_plain rfl ?_
      intro K hK
      go_simp
      first | with_reducible refine hK _ _ ?_ | refine hK _ _ ?_
      clear hK K
      (try simp only [Act.put, List.setIfInBounds_toArray, List.set_cons_zero, List.set_cons_succ])
      have hbA : Below wr.heap.size wr (wr.alloc (.cells #[.int .u32 (y : Int)] 27)) := (Below.refl _ _).alloc (Nat.le_refl _) _
      have hNw : N ≤ wr.heap.size := by have h1 := HB.out.size; have := HN.out; omega
      refine wpList_appO _ rfl _ _ rfl N (.slice va vn vc) (l ++ marks k) rfl (HO.out.below hbA (fun g hg => (HO.out.lt g hg).2)) _ rfl [y] (src_one wr y _) (by have := hz.out; simp only [List.length_append, List.length_singleton, marks_len]; omega) (by have := hbA.size; omega) ?_
      intro v5 w5 o5 m5 n5
      rw [List.append_assoc, ← HM.out] at o5
      obtain ⟨va5, vc5, hv5, hx4, hx5, hx6⟩ := o5.shape
      clear hx4 hx5 hx6
      obtain ⟨vn5, hvn5⟩ : ∃ n, (l ++ marks k2).length = n := ⟨_, rfl⟩
      rw [hvn5] at hv5
      subst hv5
      clear hvn5
      (try simp only [Act.put, List.setIfInBounds_toArray, List.set_cons_zero, List.set_cons_succ])
      with_reducible refine wpList_plain rfl ?_
      intro K hK
      go_simp
      first | with_reducible refine hK _ _ ?_ | refine hK _ _ ?_
      clear hK K
      (try simp only [Act.put, List.setIfInBounds_toArray, List.set_cons_zero, List.set_cons_succ])
      have O5 := Lib.hid o5
      have HB5 : Hid (Below N w w5) := HB.out.trans ((hbA.mono hNw).trans (m5.below (n := N) (fun g hg e => by have := (HO.out.lt g e).1; omega) (by have := hbA.size; omega)))
      clear o5 m5 n5 hbA ey ey2 ey3 HM HO HB
      go_wp2_with fail
      exact ⟨⟨k2, va5, vn5, vc5, hk3, O5, HB5, rfl, rfl⟩, by simp only [intOf, Int.toNat_natCast]; exact hk4⟩
    case neg =>
      have ik : ¬ (k : Int) < 70 := by omega
      obtain rfl : k = 70 := by omega
      clear hlt hk
      obtain ⟨ad3, cp3, hv3, hq1, hq2, hq3⟩ := HO.out.shape
      obtain ⟨g3, o3, hg3⟩ := hq3 (by rw [List.length_append, marks_len]; omega)
      subst hg3
      cases hv3
      rw [List.length_append, marks_len] at hq1
      have hle : n ≤ vc := by have := HL.out; omega
      clear hq3
      go_upto_region 6 with fail
      with_reducible refine wp_region_list ?_
      with_reducible refine wpList_plain rfl ?_
      intro K hK
      go_simp
      first | with_reducible refine hK _ _ ?_ | refine hK _ _ ?_
      clear hK K
      (try simp only [Act.put, List.setIfInBounds_toArray, List.set_cons_zero, List.set_cons_succ])
      with_reducible refine wpList_plain rfl ?_
      intro K hK
      go_simp
      first | with_reducible refine hK _ _ ?_ | refine hK _ _ ?_
      clear hK K
      (try simp only [Act.put, List.setIfInBounds_toArray, List.set_cons_zero, List.set_cons_succ])
      with_reducible refine wpList_plain rfl ?_
      intro K hK
      go_simp
      first | with_reducible refine hK _ _ ?_ | refine hK _ _ ?_
      clear hK K
      (try simp only [Act.put, List.setIfInBounds_toArray, List.set_cons_zero, List.set_cons_succ])
      with_reducible refine wpList_plain rfl ?_
      intro K hK
      go_simp
      first | with_reducible refine hK _ _ ?_ | refine hK _ _ ?_
      clear hK K
      (try simp only [Act.put, List.setIfInBounds_toArray, List.set_cons_zero, List.set_cons_succ])
      with_reducible refine wpList_plain rfl ?_
      intro K hK
      go_simp
      first | with_reducible refine hK _ _ ?_ | refine hK _ _ ?_
      clear hK K
      (try simp only [Act.put, List.setIfInBounds_toArray, List.set_cons_zero, List.set_cons_succ])
      have HF : Hid (LentN wr N (.slice (some ⟨g3, o3, none⟩) n vc) l) := ⟨hv.out.1, g3, o3, vc, by rw [HL.out], HO.out⟩
      clear hle hq1 hq2 HO
      go_wp2_with fail
      go_ret
      exact ⟨_, rfl, HF.out, HB.out⟩
set_option maxRecDepth 5000 in
set_option maxHeartbeats 8000000 in
theorem keptNumbers_any (v u : Value) (l m : List Nat) (N : Nat) (w : World) (hv : Hid (LentN w N v l)) (hu : Hid (URow w u m)) (hz : Hid (l.length * 4 ≤ 140737488351232)) :
    Calls Try.prog 24 #[v, u] w (SamePost (decide (l = m)) w) := by
  have HVR := Lib.hid hv.out.row
  obtain ⟨h0, g, o, cap, hv1, ho⟩ := hv.out
  subst hv1
  obtain ⟨ad3, cp3, hv3, hq1, hq2, hq3⟩ := ho.shape
  have hcap : l.length + 70 ≤ cap := by
    have := Value.slice.inj hv3
    rw [List.length_append, marks_len] at hq1
    omega
  clear hv3 hq1 hq2 hq3 h0
  have HO := Lib.hid ho
  clear ho
  obtain ⟨n, hn⟩ : ∃ k, l.length = k := ⟨_, rfl⟩
  have HL := Lib.hid hn
  rw [hn] at hv hcap HVR ⊢
  clear hn
  obtain ⟨n7, hn7⟩ : ∃ k, n + 70 = k := ⟨_, rfl⟩
  have ew1 : (n : Int) + 70 = (n7 : Int) := by omega
  have ew2 : IntKind.i64.wrap (n7 : Int) = (n7 : Int) := IntWalk.i64_in _ (by have := hz.out; have := HL.out; omega)
  have hle : n7 ≤ cap := by omega
  have H7 := Lib.hid hn7
  clear hn7 hcap
  go_enter Try.func24, Try.ntmps24
  go_upto_region 1 with fail
  with_reducible refine wp_region_list ?_
  with_reducible refine wpList_plain rfl ?_
  intro K hK
  go_simp
  first | with_reducible refine hK _ _ ?_ | refine hK _ _ ?_
  clear hK K
  (try simp only [Act.put, List.setIfInBounds_toArray, List.set_cons_zero, List.set_cons_succ])
  with_reducible refine wpList_plain rfl ?_
  intro K hK
  go_simp
  first | with_reducible refine hK _ _ ?_ | refine hK _ _ ?_
  clear hK K
  (try simp only [Act.put, List.setIfInBounds_toArray, List.set_cons_zero, List.set_cons_succ])
  with_reducible refine wpList_plain rfl ?_
  intro K hK
  go_simp
  first | with_reducible refine hK _ _ ?_ | refine hK _ _ ?_
  clear hK K
  (try simp only [Act.put, List.setIfInBounds_toArray, List.set_cons_zero, List.set_cons_succ])
  with_reducible refine wpList_plain rfl ?_
  intro K hK
  go_simp
  first | with_reducible refine hK _ _ ?_ | refine hK _ _ ?_
  clear hK K
  (try simp only [Act.put, List.setIfInBounds_toArray, List.set_cons_zero, List.set_cons_succ])
  with_reducible refine wpList_plain rfl ?_
  intro K hK
  go_simp
  first | with_reducible refine hK _ _ ?_ | refine hK _ _ ?_
  clear hK K
  (try simp only [Act.put, List.setIfInBounds_toArray, List.set_cons_zero, List.set_cons_succ])
  with_reducible refine wpList_plain rfl ?_
  intro K hK
  go_simp
  first | with_reducible refine hK _ _ ?_ | refine hK _ _ ?_
  clear hK K
  (try simp only [Act.put, List.setIfInBounds_toArray, List.set_cons_zero, List.set_cons_succ])
  clear ew1 ew2 hle
  go_upto_region 3 with fail
  go_loopw [6] (fun iv wr => ∃ (k : Nat), k ≤ 70 ∧ Hid (Below w.heap.size w wr) ∧ iv = .int .i64 (k : Int)) (fun iv _ => 70 - (intOf iv).toNat)
  case atStart => exact ⟨0, Nat.zero_le _, Below.refl _ _, rfl⟩
  case round =>
    obtain ⟨k, hk, HB, rfl⟩ := hrel
    by_cases hlt : k < 70
    case pos =>
      have ik : (k : Int) < 70 := by omega
      obtain ⟨y, hy⟩ : ∃ y, 900000 + k = y := ⟨_, rfl⟩
      have ey : (900000 : Int) + (k : Int) = (y : Int) := by omega
      have ey2 : IntKind.i64.wrap (y : Int) = (y : Int) := IntWalk.i64_in _ (by omega)
      have ey3 : IntKind.u32.wrap (y : Int) = (y : Int) := IntWalk.u32_in (y : Int) (by omega)
      obtain ⟨j, hj⟩ : ∃ j : Nat, n + k = j := ⟨_, rfl⟩
      have ej1 : (n : Int) + (k : Int) = (j : Int) := by omega
      have ej2 : IntKind.i64.wrap (j : Int) = (j : Int) := IntWalk.i64_in _ (by have := hz.out; have := HL.out; omega)
      have ej3 : (j : Int) < (n7 : Int) := by have := H7.out; omega
      have hc := (HO.out.below HB.out (fun i hi => (HO.out.lt i hi).2)).cellAt j (by rw [List.length_append, marks_len]; have := HL.out; omega)
      rw [List.getElem_append_right (by have := HL.out; omega), marks_get, show 900000 + (j - l.length) = y by have := HL.out; omega] at hc
      unfold uN at hc
      obtain ⟨k2, hk2⟩ : ∃ k2 : Nat, k2 = k + 1 := ⟨_, rfl⟩
      have ew1 : (k : Int) + 1 = (k2 : Int) := by omega
      have ew2 : IntKind.i64.wrap (k2 : Int) = (k2 : Int) := IntWalk.i64_in _ (by omega)
      have hk3 : k2 ≤ 70 := by omega
      have hk4 : 70 - k2 < 70 - k := by omega
      clear hk2 hy hlt hj
      go_wp2_with fail
      exact ⟨⟨k2, hk3, HB, rfl⟩, by simp only [intOf, Int.toNat_natCast]; exact hk4⟩
    case neg =>
      have ik : ¬ (k : Int) < 70 := by omega
      clear hlt hk
      have HS := Lib.hid (SameNumbers_any (.slice (some ⟨g, o, none⟩) n cap) u l m wr (HVR.out.below HB.out) (hu.out.below HB.out))
      go_upto_region 7 with fail
      with_reducible refine wp_region_list ?_
      with_reducible refine wpList_plain rfl ?_
      intro K hK
      go_simp
      first | with_reducible refine hK _ _ ?_ | refine hK _ _ ?_
      clear hK K
      (try simp only [Act.put, List.setIfInBounds_toArray, List.set_cons_zero, List.set_cons_succ])
      with_reducible refine wpList_plain rfl ?_
      intro K hK
      go_simp
      first | with_reducible refine hK _ _ ?_ | refine hK _ _ ?_
      clear hK K
      (try simp only [Act.put, List.setIfInBounds_toArray, List.set_cons_zero, List.set_cons_succ])
      with_reducible refine wpList_plain rfl ?_
      intro K hK
      go_simp
      refine HS.out.mono ?_; rintro e w5 ⟨rfl, b5⟩
      first | with_reducible refine hK _ _ ?_ | refine hK _ _ ?_
      clear hK K
      (try simp only [Act.put, List.setIfInBounds_toArray, List.set_cons_zero, List.set_cons_succ])
      with_reducible refine wpList_plain rfl ?_
      intro K hK
      go_simp
      first | with_reducible refine hK _ _ ?_ | refine hK _ _ ?_
      clear hK K
      (try simp only [Act.put, List.setIfInBounds_toArray, List.set_cons_zero, List.set_cons_succ])
      have HBF := Lib.hid (HB.out.trans (b5.mono HB.out.size))
      clear b5 HS
      go_wp2_with fail
      go_ret
      exact ⟨rfl, HBF.out⟩
end Go.Proofs.Ytkngmnfgdlnddaa
