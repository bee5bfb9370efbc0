/-
  Numbers that are lent: with marks behind them. Chains that are lent: with marks behind them. Batches of the call's own: one more; the tail of a chain. The walk of free.After.
-/
import Derived.Test.YtkngmnfgdlnddaaGH
set_option linter.unusedSimpArgs false
set_option linter.unusedVariables false
namespace Go.Proofs.Ytkngmnfgdlnddaa
open Go.RowKit Go.Lib Hw Go.Maps
set_option linter.unusedSimpArgs false
set_option linter.unusedVariables false

def marks (k : Nat) : List Nat := (List.range k).map (fun i => 900000 + i)
theorem marks_succ (k : Nat) : marks (k + 1) = marks k ++ [900000 + k] := by unfold marks; rw [List.range_succ, List.map_append]; rfl
theorem marks_len (k : Nat) : (marks k).length = k := by unfold marks; simp
theorem marks_get (k i : Nat) (h : i < (marks k).length) : (marks k)[i] = 900000 + i := by simp [marks]
def LentN (w : World) (N : Nat) (v : Value) (l : List Nat) : Prop := All4 l ∧ ∃ g o cap, v = .slice (some ⟨g, o, none⟩) l.length cap ∧ OwnO w N (.slice (some ⟨g, o, none⟩) (l ++ marks 70).length cap) (l ++ marks 70)
theorem LentN.below {w w' : World} {N : Nat} {v : Value} {l : List Nat} (h : LentN w N v l) (hb : Below w.heap.size w w') : LentN w' N v l := by
  obtain ⟨h0, g, o, cap, hv, ho⟩ := h
  exact ⟨h0, g, o, cap, hv, ho.below hb (fun k hk => (ho.lt k hk).2)⟩
theorem LentN.row {w : World} {N : Nat} {v : Value} {l : List Nat} (h : LentN w N v l) : URow w v l := by
  obtain ⟨h0, g, o, cap, rfl, ho⟩ := h
  obtain ⟨ad2, cap2, hv, h1, h2, _⟩ := ho.shape
  cases hv
  have hlt := (ho.lt g rfl).2
  rw [List.length_append] at h1
  refine ⟨h0, _, _, rfl, by omega, h2, fun hp => ⟨g, o, rfl, hlt, fun i hi => ?_⟩⟩
  rw [ho.cellAt i (by rw [List.length_append]; omega), List.getElem_append_left hi]
set_option maxRecDepth 5000 in
set_option maxHeartbeats 8000000 in
theorem lentNumbers_any (v : Value) (l : List Nat) (w : World) (hv : Hid (URow w v l)) (hz : Hid (l.length * 4 ≤ 140737488351232)) :
    Calls Try.prog 22 #[v] w fun e w' => ∃ u, e = .returned u ∧ LentN w' w.heap.size u l ∧ Below w.heap.size w w' := by
  obtain ⟨ad, c, hv1, hx2, hx3⟩ := hv.out.form
  clear hx2 hx3
  subst hv1
  obtain ⟨N, hN⟩ : ∃ N, w.heap.size = N := ⟨_, rfl⟩
  have HN := Lib.hid hN
  rw [hN]
  clear hN
  obtain ⟨n, hn⟩ : ∃ k, l.length = k := ⟨_, rfl⟩
  have HL := Lib.hid hn
  rw [hn] at hv ⊢
  clear hn
  go_enter Try.func22, Try.ntmps22
  go_upto_region 1 with fail
  with_reducible refine wp_region_list ?_
  (with_reducible refine wpList_plain rfl ?_); intro K hK; go_simp; (with_reducible refine hK _ _ ?_); clear hK K; try simp only [Act.put, nA, nB, nC]
  refine wpList_appO w rfl _ _ rfl N (.slice none 0 0) [] rfl (OwnO.nil _ _) _ rfl l (src_row hv.out) (by have := hz.out; simp; omega) (by have := HN.out; omega) ?_
  intro v2 w2 o2 m2 n2x
  rw [List.nil_append] at o2
  obtain ⟨va2, vc2, hv2, hx4, hx5, hx6⟩ := o2.shape
  clear hx4 hx5 hx6
  obtain ⟨vn2, hvn2⟩ : ∃ n, l.length = n := ⟨_, rfl⟩
  rw [hvn2] at hv2
  subst hv2
  clear hvn2
  (try simp only [Act.put, nA, nB, nC])
  (with_reducible refine wpList_plain rfl ?_); intro K hK; go_simp; (with_reducible refine hK _ _ ?_); clear hK K; try simp only [Act.put, nA, nB, nC]
  have O2 : Hid (OwnO w2 N (.slice va2 vn2 vc2) (l ++ marks 0)) := by show OwnO _ _ _ _; have e : marks 0 = [] := rfl; rw [e, List.append_nil]; exact o2
  have B2 : Hid (Below N w w2) := m2.below (n := N) (fun k hk e => by cases e) (by have := HN.out; omega)
  clear o2 m2 n2x
  go_upto_region 3 with fail
  go_loopw [3, 4] (fun lv iv wr => ∃ (k : Nat) (va : Option Addr) (vn vc : Nat), k ≤ 70 ∧ Hid (OwnO wr N (.slice va vn vc) (l ++ marks k)) ∧ Hid (Below N w wr) ∧ lv = .slice va vn vc ∧ iv = .int .i64 (k : Int)) (fun _ iv _ => 70 - (intOf iv).toNat)
  case atStart => exact ⟨0, va2, vn2, vc2, Nat.zero_le _, O2, B2, rfl, rfl⟩
  case round =>
    obtain ⟨k, va, vn, vc, hk, HO, HB, rfl, rfl⟩ := hrel
    by_cases hlt : k < 70
    case pos =>
      have ik : (k : Int) < 70 := by omega
      obtain ⟨y, hy⟩ : ∃ y, 900000 + k = y := ⟨_, rfl⟩
      have ey : (900000 : Int) + (k : Int) = (y : Int) := by omega
      have ey2 : IntKind.i64.wrap (y : Int) = (y : Int) := IntWalk.i64_in _ (by omega)
      have ey3 : IntKind.u32.wrap (y : Int) = (y : Int) := by
        have h1 := IntWalk.u32_in (y : Int) (by omega)
        exact h1
      obtain ⟨k2, hk2⟩ : ∃ k2 : Nat, k2 = k + 1 := ⟨_, rfl⟩
      have ew1 : (k : Int) + 1 = (k2 : Int) := by omega
      have ew2 : IntKind.i64.wrap (k2 : Int) = (k2 : Int) := IntWalk.i64_in _ (by omega)
      have hk3 : k2 ≤ 70 := by omega
      have hk4 : 70 - k2 < 70 - k := by omega
      have HM : Hid (marks k2 = marks k ++ [y]) := by show _ = _; rw [hk2, ← hy]; exact marks_succ k
      have hyb : y < 4294967296 := by omega
      clear hk2 hy hlt
      go_upto_region 5 with fail
      with_reducible refine wp_region_list ?_
      (with_reducible refine wpList_plain rfl ?_); intro K hK; go_simp; (with_reducible refine hK _ _ ?_); clear hK K; try simp only [Act.put, nA, nB, nC]
      (with_reducible refine wpList_plain rfl ?_); intro K hK; go_simp; (with_reducible refine hK _ _ ?_); clear hK K; try simp only [Act.put, nA, nB, nC]
      (with_reducible refine wpList_plain rfl ?_); intro K hK; go_simp; (with_reducible refine hK _ _ ?_); clear hK K; try simp only [Act.put, nA, nB, nC]
      (with_reducible refine wpList_plain rfl ?_); intro K hK; go_simp; (with_reducible refine hK _ _ ?_); clear hK K; try simp only [Act.put, nA, nB, nC]
      (with_reducible refine wpList_plain rfl ?_); intro K hK; go_simp; (with_reducible refine hK _ _ ?_); clear hK K; try simp only [Act.put, nA, nB, nC]
      have hbA : Below wr.heap.size wr (wr.alloc (.cells #[.int .u32 (y : Int)] 27)) := (Below.refl _ _).alloc (Nat.le_refl _) _
      have hNw : N ≤ wr.heap.size := by have h1 := HB.out.size; have := HN.out; omega
      refine wpList_appO _ rfl _ _ rfl N (.slice va vn vc) (l ++ marks k) rfl (HO.out.below hbA (fun g hg => (HO.out.lt g hg).2)) _ rfl [y] (src_one wr y _) (by have := hz.out; simp only [List.length_append, List.length_singleton, marks_len]; omega) (by have := hbA.size; omega) ?_
      intro v5 w5 o5 m5 n5
      rw [List.append_assoc, ← HM.out] at o5
      obtain ⟨va5, vc5, hv5, hx4, hx5, hx6⟩ := o5.shape
      clear hx4 hx5 hx6
      obtain ⟨vn5, hvn5⟩ : ∃ n, (l ++ marks k2).length = n := ⟨_, rfl⟩
      rw [hvn5] at hv5
      subst hv5
      clear hvn5
      (try simp only [Act.put, nA, nB, nC])
      (with_reducible refine wpList_plain rfl ?_); intro K hK; go_simp; (with_reducible refine hK _ _ ?_); clear hK K; try simp only [Act.put, nA, nB, nC]
      have O5 := Lib.hid o5
      have HB5 : Hid (Below N w w5) := HB.out.trans ((hbA.mono hNw).trans (m5.below (n := N) (fun g hg e => by have := (HO.out.lt g e).1; omega) (by have := hbA.size; omega)))
      clear o5 m5 n5 hbA ey ey2 ey3 HM HO HB
      go_wp2_with fail
      exact ⟨⟨k2, va5, vn5, vc5, hk3, O5, HB5, rfl, rfl⟩, by simp only [intOf, Int.toNat_natCast]; exact hk4⟩
    case neg =>
      have ik : ¬ (k : Int) < 70 := by omega
      obtain rfl : k = 70 := by omega
      clear hlt hk
      obtain ⟨ad3, cp3, hv3, hq1, hq2, hq3⟩ := HO.out.shape
      obtain ⟨g3, o3, hg3⟩ := hq3 (by rw [List.length_append, marks_len]; omega)
      subst hg3
      cases hv3
      rw [List.length_append, marks_len] at hq1
      have hle : n ≤ vc := by have := HL.out; omega
      clear hq3
      go_upto_region 6 with fail
      with_reducible refine wp_region_list ?_
      (with_reducible refine wpList_plain rfl ?_); intro K hK; go_simp; (with_reducible refine hK _ _ ?_); clear hK K; try simp only [Act.put, nA, nB, nC]
      (with_reducible refine wpList_plain rfl ?_); intro K hK; go_simp; (with_reducible refine hK _ _ ?_); clear hK K; try simp only [Act.put, nA, nB, nC]
      (with_reducible refine wpList_plain rfl ?_); intro K hK; go_simp; (with_reducible refine hK _ _ ?_); clear hK K; try simp only [Act.put, nA, nB, nC]
      (with_reducible refine wpList_plain rfl ?_); intro K hK; go_simp; (with_reducible refine hK _ _ ?_); clear hK K; try simp only [Act.put, nA, nB, nC]
      (with_reducible refine wpList_plain rfl ?_); intro K hK; go_simp; (with_reducible refine hK _ _ ?_); clear hK K; try simp only [Act.put, nA, nB, nC]
      have HF : Hid (LentN wr N (.slice (some ⟨g3, o3, none⟩) n vc) l) := ⟨hv.out.1, g3, o3, vc, by rw [HL.out], HO.out⟩
      clear hle hq1 hq2 HO
      go_wp2_with fail
      go_ret
      exact ⟨_, rfl, HF.out, HB.out⟩
set_option maxRecDepth 5000 in
set_option maxHeartbeats 8000000 in
theorem keptNumbers_any (v u : Value) (l m : List Nat) (N : Nat) (w : World) (hv : Hid (LentN w N v l)) (hu : Hid (URow w u m)) (hz : Hid (l.length * 4 ≤ 140737488351232)) :
    Calls Try.prog 24 #[v, u] w (SamePost (decide (l = m)) w) := by
  have HVR := Lib.hid hv.out.row
  obtain ⟨h0, g, o, cap, hv1, ho⟩ := hv.out
  subst hv1
  obtain ⟨ad3, cp3, hv3, hq1, hq2, hq3⟩ := ho.shape
  have hcap : l.length + 70 ≤ cap := by
    have := Value.slice.inj hv3
    rw [List.length_append, marks_len] at hq1
    omega
  clear hv3 hq1 hq2 hq3 h0
  have HO := Lib.hid ho
  clear ho
  obtain ⟨n, hn⟩ : ∃ k, l.length = k := ⟨_, rfl⟩
  have HL := Lib.hid hn
  rw [hn] at hv hcap HVR ⊢
  clear hn
  obtain ⟨n7, hn7⟩ : ∃ k, n + 70 = k := ⟨_, rfl⟩
  have ew1 : (n : Int) + 70 = (n7 : Int) := by omega
  have ew2 : IntKind.i64.wrap (n7 : Int) = (n7 : Int) := IntWalk.i64_in _ (by have := hz.out; have := HL.out; omega)
  have hle : n7 ≤ cap := by omega
  have H7 := Lib.hid hn7
  clear hn7 hcap
  go_enter Try.func24, Try.ntmps24
  go_upto_region 1 with fail
  with_reducible refine wp_region_list ?_
  (with_reducible refine wpList_plain rfl ?_); intro K hK; go_simp; (with_reducible refine hK _ _ ?_); clear hK K; try simp only [Act.put, nA, nB, nC]
  (with_reducible refine wpList_plain rfl ?_); intro K hK; go_simp; (with_reducible refine hK _ _ ?_); clear hK K; try simp only [Act.put, nA, nB, nC]
  (with_reducible refine wpList_plain rfl ?_); intro K hK; go_simp; (with_reducible refine hK _ _ ?_); clear hK K; try simp only [Act.put, nA, nB, nC]
  (with_reducible refine wpList_plain rfl ?_); intro K hK; go_simp; (with_reducible refine hK _ _ ?_); clear hK K; try simp only [Act.put, nA, nB, nC]
  (with_reducible refine wpList_plain rfl ?_); intro K hK; go_simp; (with_reducible refine hK _ _ ?_); clear hK K; try simp only [Act.put, nA, nB, nC]
  (with_reducible refine wpList_plain rfl ?_); intro K hK; go_simp; (with_reducible refine hK _ _ ?_); clear hK K; try simp only [Act.put, nA, nB, nC]
  clear ew1 ew2 hle
  go_upto_region 3 with fail
  go_loopw [6] (fun iv wr => ∃ (k : Nat), k ≤ 70 ∧ Hid (Below w.heap.size w wr) ∧ iv = .int .i64 (k : Int)) (fun iv _ => 70 - (intOf iv).toNat)
  case atStart => exact ⟨0, Nat.zero_le _, Below.refl _ _, rfl⟩
  case round =>
    obtain ⟨k, hk, HB, rfl⟩ := hrel
    by_cases hlt : k < 70
    case pos =>
      have ik : (k : Int) < 70 := by omega
      obtain ⟨y, hy⟩ : ∃ y, 900000 + k = y := ⟨_, rfl⟩
      have ey : (900000 : Int) + (k : Int) = (y : Int) := by omega
      have ey2 : IntKind.i64.wrap (y : Int) = (y : Int) := IntWalk.i64_in _ (by omega)
      have ey3 : IntKind.u32.wrap (y : Int) = (y : Int) := IntWalk.u32_in (y : Int) (by omega)
      obtain ⟨j, hj⟩ : ∃ j : Nat, n + k = j := ⟨_, rfl⟩
      have ej1 : (n : Int) + (k : Int) = (j : Int) := by omega
      have ej2 : IntKind.i64.wrap (j : Int) = (j : Int) := IntWalk.i64_in _ (by have := hz.out; have := HL.out; omega)
      have ej3 : (j : Int) < (n7 : Int) := by have := H7.out; omega
      have hc := (HO.out.below HB.out (fun i hi => (HO.out.lt i hi).2)).cellAt j (by rw [List.length_append, marks_len]; have := HL.out; omega)
      rw [List.getElem_append_right (by have := HL.out; omega), marks_get, show 900000 + (j - l.length) = y by have := HL.out; omega] at hc
      unfold uN at hc
      obtain ⟨k2, hk2⟩ : ∃ k2 : Nat, k2 = k + 1 := ⟨_, rfl⟩
      have ew1 : (k : Int) + 1 = (k2 : Int) := by omega
      have ew2 : IntKind.i64.wrap (k2 : Int) = (k2 : Int) := IntWalk.i64_in _ (by omega)
      have hk3 : k2 ≤ 70 := by omega
      have hk4 : 70 - k2 < 70 - k := by omega
      clear hk2 hy hlt hj
      go_wp2_with fail
      exact ⟨⟨k2, hk3, HB, rfl⟩, by simp only [intOf, Int.toNat_natCast]; exact hk4⟩
    case neg =>
      have ik : ¬ (k : Int) < 70 := by omega
      clear hlt hk
      have HS := Lib.hid (SameNumbers_any (.slice (some ⟨g, o, none⟩) n cap) u l m wr (HVR.out.below HB.out) (hu.out.below HB.out))
      go_upto_region 7 with fail
      with_reducible refine wp_region_list ?_
      (with_reducible refine wpList_plain rfl ?_); intro K hK; go_simp; (with_reducible refine hK _ _ ?_); clear hK K; try simp only [Act.put, nA, nB, nC]
      (with_reducible refine wpList_plain rfl ?_); intro K hK; go_simp; (with_reducible refine hK _ _ ?_); clear hK K; try simp only [Act.put, nA, nB, nC]
      with_reducible refine wpList_plain rfl ?_
      intro K hK
      go_simp
      refine HS.out.mono ?_; rintro e w5 ⟨rfl, b5⟩
      first | with_reducible refine hK _ _ ?_ | refine hK _ _ ?_
      clear hK K
      (try simp only [Act.put, nA, nB, nC])
      (with_reducible refine wpList_plain rfl ?_); intro K hK; go_simp; (with_reducible refine hK _ _ ?_); clear hK K; try simp only [Act.put, nA, nB, nC]
      have HBF := Lib.hid (HB.out.trans (b5.mono HB.out.size))
      clear b5 HS
      go_wp2_with fail
      go_ret
      exact ⟨rfl, HBF.out⟩
end Go.Proofs.Ytkngmnfgdlnddaa

namespace Go.Proofs.Ytkngmnfgdlnddaa
open Go.RowKit Go.Lib Hw Go.Maps
set_option linter.unusedSimpArgs false
set_option linter.unusedVariables false

/-- append(bs, b), to the end of what a row may hold -/
theorem wp_appC2 {o : Oper} {a : Act} {K : Act → World → Prop} {Q : Exit → Act → World → Prop} (W : World) (b : Nat × Value) (hb1 : b.2.oneCell' = true) (s y : Operand) (ho : o.op = .call { callee := .builtin .append, args := #[s, y], argTypes := #[44, 44] })
    (B : Nat) (v : Value) (bs : List (Nat × Value)) (hs : a.eval s = v) (hown : OwnC W B v bs) (g c : Nat) (hy : a.eval y = .slice (some ⟨g, 0, none⟩) 1 c) (hn : W.heap[g]? = some (.cells (bpair b).toArray 64 (0, 0)))
    (hlen : (bs.length + 1) * 32 ≤ 140737488355328) (hB : B ≤ W.heap.size)
    (h : ∀ v' w', OwnC w' B v' (bs ++ [b]) → Mod (fun k => v.ownBlock = some k) W w' → From W v v' → K (a.put o.dst v') w') : o.wp Try.prog a W K Q := by
  obtain ⟨i, hi, hz0, hz1, hz2⟩ := info_parts info_C
  refine wp_append_lies W s y 44 ho B 64 i (.agg #[.int .u32 0, .slice none 0 0]) 2 32 Try.underlying44 hi hz0 hz1 hz2 rfl (by decide) v bs.length (brow bs) hs hown ⟨g, 0, none⟩ 1 c (bpair b) hy rfl ?_ (fun u hu => ?_) (by decide) (by rw [maxLen_eq]; omega) (by omega) hB W.heap.size rfl ?_
  · intro j u hu
    have hadd : (⟨g, 0, none⟩ : Addr).add j = ⟨g, j, none⟩ := by unfold Addr.add; split <;> simp_all
    rw [hadd, heap_cell hn, List.getElem?_toArray]
    exact hu
  · rcases List.mem_cons.1 hu with rfl | hu
    · rfl
    · rw [List.mem_singleton.1 hu]; exact hb1
  · intro g' cap w' h1 h2 h3 _
    refine h _ w' ?_ (Mod.grown h2 (fun k e => e)) (fun k hk => ?_)
    · unfold OwnC
      have e : brow (bs ++ [b]) = brow bs ++ bpair b := by simp [brow]
      rw [List.length_append, e]
      exact h1
    · have hk' : g' = k := by simpa [Value.ownBlock] using hk
      subst hk'
      exact h3.imp id (fun e => Nat.le_of_eq e.symm)
/-- the batches that stand behind a lent chain -/
def marksC (k : Nat) : List (Nat × Value) := (List.range k).map (fun i => (800000 + i, Value.slice none 0 0))
theorem marksC_succ (k : Nat) : marksC (k + 1) = marksC k ++ [(800000 + k, .slice none 0 0)] := by unfold marksC; rw [List.range_succ, List.map_append]; rfl
theorem marksC_len (k : Nat) : (marksC k).length = k := by unfold marksC; simp
/-- the batches told so far, each list lent -/
def LentB (w : World) (N : Nat) (bs : List (Nat × Value)) (cs : List (Nat × List Nat)) : Prop := ∃ h : bs.length = cs.length, ∀ i (hi : i < cs.length), (bs[i]).1 = cs[i].1 ∧ LentN w N (bs[i]).2 cs[i].2
theorem LentN.ne {w : World} {N B : Nat} {u lv : Value} {l : List Nat} {bs : List (Nat × Value)} (h : LentN w N u l) (hc : OwnC w B lv bs) : ∀ g, u.ownBlock = some g → lv.ownBlock ≠ some g := fun g hg hl => by
  obtain ⟨_, g1, o1, cap1, rfl, ho⟩ := h
  rcases ho with ⟨h1, _⟩ | ⟨g2, o2, cap2, cur, hv, _, h2, _⟩
  · cases h1
  · cases hv
    have e1 := Option.some.inj hg
    rcases hc.2 with ⟨rfl, _⟩ | ⟨g3, cap3, cur3, rfl, _, h3, _⟩
    · cases hl
    · have e2 := Option.some.inj hl
      simp only at e1 e2
      rw [e1] at h2
      rw [e2] at h3
      rw [h2] at h3
      injection h3 with h3
      injection h3 with _ h3 _
      exact absurd h3 (by decide)
theorem LentN.mod {w w' : World} {S : Nat → Prop} {N : Nat} {u : Value} {l : List Nat} (h : LentN w N u l) (m : Mod S w w') (hd : ∀ k, u.ownBlock = some k → ¬ S k) : LentN w' N u l := by
  obtain ⟨h0, g, o, cap, hv, ho⟩ := h
  subst hv
  exact ⟨h0, g, o, cap, rfl, ho.mod m (fun k hk => hd k hk)⟩
theorem LentN.mono {w : World} {N M : Nat} {u : Value} {l : List Nat} (h : LentN w N u l) (hM : M ≤ N) : LentN w M u l := by
  obtain ⟨h0, g, o, cap, hv, ho⟩ := h
  exact ⟨h0, g, o, cap, hv, ho.mono hM⟩
theorem LentN.form {w : World} {N : Nat} {u : Value} {l : List Nat} (h : LentN w N u l) : ∃ ad n c, u = .slice ad n c := by
  obtain ⟨h0, g, o, cap, hv, ho⟩ := h
  exact ⟨_, _, _, hv⟩
theorem LentB.below {w w' : World} {N : Nat} {bs : List (Nat × Value)} {cs : List (Nat × List Nat)} (h : LentB w N bs cs) (hb : Below w.heap.size w w') : LentB w' N bs cs := by
  obtain ⟨h0, h1⟩ := h
  exact ⟨h0, fun i hi => ⟨(h1 i hi).1, (h1 i hi).2.below hb⟩⟩
theorem LentB.snoc {w w' : World} {N B : Nat} {lv : Value} {bs bs' : List (Nat × Value)} {cs : List (Nat × List Nat)} {u : Value} {c : Nat × List Nat} (h : LentB w N bs cs) (hu : LentN w N u c.2) (hc : OwnC w B lv bs') (m : Mod (fun k => lv.ownBlock = some k) w w') : LentB w' N (bs ++ [(c.1, u)]) (cs ++ [c]) := by
  obtain ⟨h0, h1⟩ := h
  refine ⟨by simp [h0], fun i hi => ?_⟩
  by_cases e : i < cs.length
  · have e2 : i < bs.length := by omega
    rw [List.getElem_append_left e, List.getElem_append_left e2]
    exact ⟨(h1 i e).1, (h1 i e).2.mod m (fun k hk hs => (h1 i e).2.ne hc k hk hs)⟩
  · have e2 : i = cs.length := by rw [List.length_append, List.length_singleton] at hi; omega
    subst e2
    have e3 : (bs ++ [(c.1, u)])[cs.length]'(by simp [h0]) = (c.1, u) := by
      rw [List.getElem_append_right (by omega)]
      simp [h0]
    rw [e3]
    simp only [List.getElem_append_right (Nat.le_refl _), Nat.sub_self, List.getElem_singleton]
    exact ⟨trivial, hu.mod m (fun k hk hs => hu.ne hc k hk hs)⟩
def LentC (w : World) (N : Nat) (v : Value) (cs : List (Nat × List Nat)) : Prop := ∃ g cap bs, v = .slice (some ⟨g, 0, none⟩) cs.length cap ∧ OwnC w N (.slice (some ⟨g, 0, none⟩) (cs.length + 70) cap) (bs ++ marksC 70) ∧ LentB w N bs cs
set_option maxRecDepth 5000 in
set_option maxHeartbeats 8000000 in
theorem lentChain_any (v : Value) (cs : List (Nat × List Nat)) (w : World) (hv : Hid (CRow w v cs)) (hz : Hid (cs.length * 32 ≤ 140737488351232)) (hz2 : Hid (∀ c ∈ cs, c.2.length * 4 ≤ 140737488351232)) :
    Calls Try.prog 38 #[v] w fun e w' => ∃ u, e = .returned u ∧ LentC w' w.heap.size u cs ∧ Below w.heap.size w w' := by
  obtain ⟨cad, cc, hcv, hx1⟩ := hv.out.form
  clear hx1
  subst hcv
  obtain ⟨N, hN⟩ : ∃ N, w.heap.size = N := ⟨_, rfl⟩
  have HN := Lib.hid hN
  rw [hN]
  clear hN
  obtain ⟨nc, hnc⟩ : ∃ k, cs.length = k := ⟨_, rfl⟩
  have HNC := Lib.hid hnc
  rw [hnc] at hv ⊢
  clear hnc
  go_enter Try.func38, Try.ntmps38
  go_upto_region 3 with fail
  go_loopw [3, 4] (fun lv iv wr => ∃ (k : Nat) (va : Option Addr) (vn vc : Nat) (bs : List (Nat × Value)), k ≤ nc ∧ Hid (OwnC wr N (.slice va vn vc) bs) ∧ Hid (LentB wr N bs (cs.take k)) ∧ Hid (Below N w wr) ∧ N ≤ wr.heap.size ∧ lv = .slice va vn vc ∧ iv = .int .i64 (k : Int)) (fun _ iv _ => nc - (intOf iv).toNat)
  case atStart => exact ⟨0, none, 0, 0, [], Nat.zero_le _, OwnC.nil _ _, ⟨rfl, fun i hi => by simp at hi⟩, Below.refl _ _, by have := HN.out; omega, rfl, rfl⟩
  case round =>
    obtain ⟨k, va, vn, vc, bs, hk, HO, HL, HB, hzr, rfl, rfl⟩ := hrel
    by_cases hlt : k < nc
    case pos =>
      have ik : (k : Int) < (nc : Int) := by omega
      have hkx : k < cs.length := by have := HNC.out; omega
      have hzc := hz2.out _ (List.getElem_mem hkx)
      obtain ⟨b1, o1, nad, nn, e1, r1, u1, pp1⟩ := hv.out.at hkx
      subst e1
      have hbN : b1 < N := by rw [← HN.out]; exact World.block_lt_of_cell? w ⟨b1, o1 + k * 2 + 0, none⟩ (r1 0 _ rfl)
      have t1 : cs.take (k + 1) = cs.take k ++ [cs[k]] := List.take_succ_eq_append_getElem hkx
      obtain ⟨⟨pg, ys⟩, hx0⟩ : ∃ x, cs[k] = x := ⟨_, rfl⟩
      rw [hx0] at r1 u1 pp1 t1 hzc
      simp only at r1 u1 pp1 hzc
      have r9 := range_block r1 (HB.out.block b1 hbN)
      have f1 := r9 0 _ rfl
      have f2 := r9 1 _ rfl
      unfold uN at f1
      rw [Nat.add_zero] at f1
      obtain ⟨ny, hny⟩ : ∃ n, ys.length = n := ⟨_, rfl⟩
      rw [hny] at f2
      have hb1 : b1 < wr.heap.size := World.block_lt_of_cell? wr ⟨b1, o1 + k * 2, none⟩ f1
      obtain ⟨k9, hk9⟩ : ∃ k9 : Nat, k9 = k + 1 := ⟨_, rfl⟩
      have ew1 : (k : Int) + 1 = (k9 : Int) := by omega
      have ew2 : IntKind.i64.wrap (k9 : Int) = (k9 : Int) := IntWalk.i64_in _ (by have := hz.out; have := HNC.out; omega)
      have hk3 : k9 ≤ nc := by omega
      have hk4 : nc - k9 < nc - k := by omega
      rw [← hk9] at t1
      have T1 := Lib.hid t1
      have HLN := Lib.hid (lentNumbers_any (.slice nad ny nn) ys wr.drew (by rw [← hny]; exact (u1.below (by rw [HN.out]; exact HB.out)).drew) hzc)
      clear hk9 t1 hx0 r1 r9 u1 hny hkx hlt pp1 hzc
      go_upto_region 5 with fail
      refine wp_region_held_drew (S := fun W => W.cell? ⟨b1, o1 + k * 2, none⟩ = some (.int .u32 (pg : Int)) ∧ W.cell? ⟨b1, o1 + k * 2 + 1, none⟩ = some (.slice nad ny nn)) (by kernel_rfl) ⟨f1, f2⟩ (fun hHeld => ?_)
      refine' wpAnyH_take (i := 0) (oi := ⟨some 12, .move (.tmp 3), 44, "memory.go:34", #[], none⟩) rfl (by kernel_rfl) (by kernel_rfl) (by kernel_rfl) (fun _ _ _ h => h) (Or.inl ⟨by rfl, _⟩) (by assumption) _
      rotate_left
      · (intro wS hSw; (try dsimp only at hSw); go_simp; try with_reducible rfl)
      try simp only [Act.put, nA, nB, nC]
      refine' wpAnyH_take (i := 1) (oi := ⟨some 13, .move (.tmp 0), 44, "memory.go:34", #[], none⟩) rfl (by kernel_rfl) (by kernel_rfl) (by kernel_rfl) (fun _ _ _ h => h) (Or.inl ⟨by rfl, _⟩) (by assumption) _
      rotate_left
      · (intro wS hSw; (try dsimp only at hSw); go_simp; try with_reducible rfl)
      try simp only [Act.put, nA, nB, nC]
      refine' wpAnyH_take (i := 2) (oi := ⟨some 14, .move (.tmp 4), 3, "memory.go:34", #[], none⟩) rfl (by kernel_rfl) (by kernel_rfl) (by kernel_rfl) (fun _ _ _ h => h) (Or.inl ⟨by rfl, _⟩) (by assumption) _
      rotate_left
      · (intro wS hSw; (try dsimp only at hSw); go_simp; try with_reducible rfl)
      try simp only [Act.put, nA, nB, nC]
      refine' wpAnyH_take (i := 3) (oi := ⟨some 15, .indexAddr 44 (.tmp 13) (.tmp 14), 0, "memory.go:34", #[⟨1, .data⟩, ⟨2, .data⟩], none⟩) rfl (by kernel_rfl) (by kernel_rfl) (by kernel_rfl) (fun _ _ _ h => h) (Or.inl ⟨by rfl, _⟩) (by assumption) _
      rotate_left
      · (intro wS hSw; (try dsimp only at hSw); go_simp; try with_reducible rfl)
      try simp only [Act.put, nA, nB, nC]
      refine' wpAnyH_take (i := 4) (oi := ⟨some 16, .fieldAddr 64 (.tmp 15) 0, 0, "memory.go:34", #[⟨3, .data⟩], none⟩) rfl (by kernel_rfl) (by kernel_rfl) (by kernel_rfl) (fun _ _ _ h => h) (Or.inl ⟨by rfl, _⟩) (by assumption) _
      rotate_left
      · (intro wS hSw; (try dsimp only at hSw); go_simp; try with_reducible rfl)
      try simp only [Act.put, nA, nB, nC]
      refine' wpAnyH_take (i := 5) (oi := ⟨some 17, .load 27 (.tmp 16), 27, "memory.go:34", #[⟨4, .data⟩], none⟩) rfl (by kernel_rfl) (by kernel_rfl) (by kernel_rfl) (fun _ _ _ h => h) (Or.inl ⟨by rfl, _⟩) (by assumption) _
      rotate_left
      · (intro wS hSw; (try dsimp only at hSw); go_simp; try with_reducible rfl)
      try simp only [Act.put, nA, nB, nC]
      refine' wpAnyH_take (i := 6) (oi := ⟨some 18, .move (.tmp 0), 44, "memory.go:34", #[], none⟩) rfl (by kernel_rfl) (by kernel_rfl) (by kernel_rfl) (fun _ _ _ h => h) (Or.inl ⟨by rfl, _⟩) (by assumption) _
      rotate_left
      · (intro wS hSw; (try dsimp only at hSw); go_simp; try with_reducible rfl)
      try simp only [Act.put, nA, nB, nC]
      refine' wpAnyH_take (i := 7) (oi := ⟨some 19, .move (.tmp 4), 3, "memory.go:34", #[], none⟩) rfl (by kernel_rfl) (by kernel_rfl) (by kernel_rfl) (fun _ _ _ h => h) (Or.inl ⟨by rfl, _⟩) (by assumption) _
      rotate_left
      · (intro wS hSw; (try dsimp only at hSw); go_simp; try with_reducible rfl)
      try simp only [Act.put, nA, nB, nC]
      refine' wpAnyH_take (i := 8) (oi := ⟨some 20, .indexAddr 44 (.tmp 18) (.tmp 19), 0, "memory.go:34", #[⟨6, .data⟩, ⟨7, .data⟩], none⟩) rfl (by kernel_rfl) (by kernel_rfl) (by kernel_rfl) (fun _ _ _ h => h) (Or.inl ⟨by rfl, _⟩) (by assumption) _
      rotate_left
      · (intro wS hSw; (try dsimp only at hSw); go_simp; try with_reducible rfl)
      try simp only [Act.put, nA, nB, nC]
      refine' wpAnyH_take (i := 9) (oi := ⟨some 21, .fieldAddr 64 (.tmp 20) 1, 0, "memory.go:34", #[⟨8, .data⟩], none⟩) rfl (by kernel_rfl) (by kernel_rfl) (by kernel_rfl) (fun _ _ _ h => h) (Or.inl ⟨by rfl, _⟩) (by assumption) _
      rotate_left
      · (intro wS hSw; (try dsimp only at hSw); go_simp; try with_reducible rfl)
      try simp only [Act.put, nA, nB, nC]
      refine' wpAnyH_take (i := 10) (oi := ⟨some 22, .load 28 (.tmp 21), 28, "memory.go:34", #[⟨9, .data⟩], none⟩) rfl (by kernel_rfl) (by kernel_rfl) (by kernel_rfl) (fun _ _ _ h => h) (Or.inl ⟨by rfl, _⟩) (by assumption) _
      rotate_left
      · (intro wS hSw; (try dsimp only at hSw); go_simp; try with_reducible rfl)
      try simp only [Act.put, nA, nB, nC]
      refine wpAnyH_ready (rs := [11]) (by kernel_rfl) (by simp) ?_
      refine AllReadyH.cons (o := ⟨some 23, .call ⟨.value (.func 22), #[.tmp 22], #[28]⟩, 28, "memory.go:34", #[⟨10, .data⟩], none⟩) rfl (fun K hK => ?_) AllReadyH.nil
      go_simp
      (refine HLN.out.mono ?_; rintro e w3 ⟨u, rfl, l3, b3⟩; obtain ⟨uad, un, uc, hue⟩ := l3.form; subst hue)
      refine hK.out _ _ ?_ (fun hHeld => ?_)
      · exact ⟨(b3.cell (p := ⟨b1, o1 + k * 2, none⟩) hb1).trans hHeld.1, (b3.cell (p := ⟨b1, o1 + k * 2 + 1, none⟩) hb1).trans hHeld.2⟩
      clear hK K
      try simp only [Act.put, nA, nB, nC]
      have L3 : Hid (LentN w3 N (.slice uad un uc) ys) := l3.mono hzr
      have b3' : Below wr.heap.size wr w3 := (Below.refl _ _).drew.trans b3
      have hz3 : wr.heap.size ≤ w3.heap.size := b3'.size
      have O3 := Lib.hid (HO.out.below b3' (fun g hg => (HO.out.lt g hg).2))
      have LB3 := Lib.hid (HL.out.below b3')
      have B3 : Hid (Below N w w3) := HB.out.trans (b3'.mono hzr)
      clear l3 b3 b3' HLN
      refine' wpAnyH_take (i := 12) (oi := ⟨some 24, .build 64 #[(0, .tmp 17), (1, .tmp 23)], 64, "memory.go:34", #[⟨5, .data⟩, ⟨11, .data⟩], none⟩) rfl (by kernel_rfl) (by kernel_rfl) (by kernel_rfl) (fun _ _ _ h => h) (Or.inl ⟨by rfl, _⟩) (by assumption) _
      rotate_left
      · (intro wS hSw; (try dsimp only at hSw); go_simp; try with_reducible rfl)
      try simp only [Act.put, nA, nB, nC]
      have ba : ∀ (o : Obj), Below w3.heap.size w3 (w3.alloc o) := fun o => (Below.refl _ _).alloc (Nat.le_refl _) _
      have hb3 : b1 < w3.heap.size := by omega
      refine wpAnyH_ready (rs := [13]) (by kernel_rfl) (by simp) ?_
      refine AllReadyH.cons (o := ⟨some 25, .buildSlice 44 1 #[(0, .tmp 24)], 44, "memory.go:34", #[⟨12, .data⟩], none⟩) rfl (fun K hK => ?_) AllReadyH.nil
      go_simp
      refine hK.out _ _ ?_ (fun hHeld => ?_)
      · exact ⟨((ba _).cell (p := ⟨b1, o1 + k * 2, none⟩) hb3).trans hHeld.1, ((ba _).cell (p := ⟨b1, o1 + k * 2 + 1, none⟩) hb3).trans hHeld.2⟩
      clear hK K
      try simp only [Act.put, nA, nB, nC]
      obtain ⟨wa, hwa⟩ : ∃ W, w3.alloc (.cells #[.int .u32 (pg : Int), .slice uad un uc] 64) = W := ⟨_, rfl⟩
      have ba' : Below w3.heap.size w3 wa := by rw [← hwa]; exact ba _
      have ha : wa.heap[w3.heap.size]? = some (.cells (bpair (pg, .slice uad un uc)).toArray 64 (0, 0)) := by rw [← hwa]; exact heap_alloc_new w3 _
      have Oa := O3.out.below ba' (fun g hg => (O3.out.lt g hg).2)
      have La := L3.out.below ba'
      have LBa := LB3.out.below ba'
      have Ba := B3.out.trans (ba'.mono (by omega))
      have hza : N ≤ wa.heap.size := by have := ba'.size; omega
      have hbl : (bs.length + 1) * 32 ≤ 140737488355328 := by obtain ⟨hh, _⟩ := HL.out; rw [List.length_take] at hh; have := hz.out; omega
      rw [hwa] at hHeld ⊢
      refine wpAnyH_ready (rs := [14]) (by kernel_rfl) (by simp) ?_
      refine AllReadyH.cons (o := ⟨some 26, .call ⟨.builtin .append, #[.tmp 12, .tmp 25], #[44, 44]⟩, 44, "memory.go:34", #[⟨0, .data⟩, ⟨13, .data⟩, ⟨11, .chain⟩], none⟩) rfl (fun K hK => ?_) AllReadyH.nil
      refine step_of rfl (wp_appC2 wa (pg, .slice uad un uc) rfl _ _ rfl N (.slice va vn vc) bs rfl Oa w3.heap.size 1 rfl ha hbl hza ?_); intro v5 w5 O5 M5 F5; obtain ⟨ad5, cp5, hv5, hy1, hy2, hy3⟩ := O5.shape; clear hy1 hy2 hy3; rw [List.length_append, List.length_singleton] at hv5; subst hv5
      refine hK.out _ _ ?_ (fun hHeld => ?_)
      · exact ⟨(M5.heapc (by omega) (fun e => by have := (Oa.lt b1 e).1; omega)).trans hHeld.1, (M5.heapc (by omega) (fun e => by have := (Oa.lt b1 e).1; omega)).trans hHeld.2⟩
      clear hK K
      try simp only [Act.put, nA, nB, nC]
      refine' wpAnyH_take (i := 15) (oi := ⟨some 3, .assign (.tmp 26), 44, "memory.go:34", #[⟨14, .data⟩, ⟨14, .chain⟩, ⟨0, .phase⟩, ⟨1, .phase⟩, ⟨2, .phase⟩, ⟨3, .phase⟩, ⟨4, .phase⟩, ⟨5, .phase⟩, ⟨6, .phase⟩, ⟨7, .phase⟩, ⟨8, .phase⟩, ⟨9, .phase⟩, ⟨10, .phase⟩, ⟨11, .phase⟩, ⟨12, .phase⟩, ⟨13, .phase⟩, ⟨14, .phase⟩], none⟩) rfl (by kernel_rfl) (by kernel_rfl) (by kernel_rfl) (fun _ _ _ h => h) (Or.inl ⟨by rfl, _⟩) (by assumption) _
      rotate_left
      · (intro wS hSw; (try dsimp only at hSw); go_simp; try with_reducible rfl)
      try simp only [Act.put, nA, nB, nC]
      refine wpAnyH_done (by kernel_rfl) ?_ _
      have HO5 := Lib.hid O5
      have HB5 : Hid (Below N w w5) := Ba.trans (M5.below (n := N) (fun j hj e => by have := (Oa.lt j e).1; omega) (by omega))
      have hz5 : N ≤ w5.heap.size := Nat.le_trans hza M5.size
      have HL5 : Hid (LentB w5 N (bs ++ [(pg, .slice uad un uc)]) (cs.take k9)) := by
        show LentB _ _ _ _
        rw [T1.out]
        exact LBa.snoc (c := (pg, ys)) La Oa M5
      clear O5 M5 F5 Oa La LBa Ba ba' ha ba hwa L3 O3 LB3 B3 HO HL HB hHeld f1 f2 hza hzr T1 hbl
      go_wp2_with fail
      exact ⟨⟨k9, ad5, bs.length + 1, cp5, _, hk3, HO5, HL5, HB5, hz5, rfl, rfl⟩, by simp only [intOf, Int.toNat_natCast]; exact hk4⟩
    case neg =>
      have ik : ¬ (k : Int) < (nc : Int) := by omega
      have HL2 : Hid (LentB wr N bs cs) := by
        have h := HL.out
        have ht : cs.take k = cs := List.take_of_length_le (by rw [HNC.out]; omega)
        rw [ht] at h
        exact h
      have hbs : bs.length = nc := by obtain ⟨hh, _⟩ := HL2.out; rw [hh]; exact HNC.out
      have HBS := Lib.hid hbs
      have HO0 : Hid (OwnC wr N (.slice va vn vc) (bs ++ marksC 0)) := by show OwnC _ _ _ _; have e : marksC 0 = [] := rfl; rw [e, List.append_nil]; exact HO.out
      clear hlt HL hbs HO hk
      go_upto_region 7 with fail
      clear ik
      go_loopw [3, 5] (fun lv iv wr2 => ∃ (k : Nat) (va : Option Addr) (vn vc : Nat), k ≤ 70 ∧ Hid (OwnC wr2 N (.slice va vn vc) (bs ++ marksC k)) ∧ Hid (LentB wr2 N bs cs) ∧ Hid (Below N w wr2) ∧ N ≤ wr2.heap.size ∧ lv = .slice va vn vc ∧ iv = .int .i64 (k : Int)) (fun _ iv _ => 70 - (intOf iv).toNat)
      case atStart => exact ⟨0, va, vn, vc, Nat.zero_le _, HO0, HL2, HB, hzr, rfl, rfl⟩
      case round =>
        clear HO0 HL2 HB hzr
        obtain ⟨k, va, vn, vc, hk, HO, HL, HB, hzr, rfl, rfl⟩ := hrel
        by_cases hlt : k < 70
        case pos =>
          have ik : (k : Int) < 70 := by omega
          obtain ⟨y, hy⟩ : ∃ y, 800000 + k = y := ⟨_, rfl⟩
          have ey : (800000 : Int) + (k : Int) = (y : Int) := by omega
          have ey2 : IntKind.i64.wrap (y : Int) = (y : Int) := IntWalk.i64_in _ (by omega)
          have ey3 : IntKind.u32.wrap (y : Int) = (y : Int) := IntWalk.u32_in (y : Int) (by omega)
          obtain ⟨k2, hk2⟩ : ∃ k2 : Nat, k2 = k + 1 := ⟨_, rfl⟩
          have ew1 : (k : Int) + 1 = (k2 : Int) := by omega
          have ew2 : IntKind.i64.wrap (k2 : Int) = (k2 : Int) := IntWalk.i64_in _ (by omega)
          have hk3 : k2 ≤ 70 := by omega
          have hk4 : 70 - k2 < 70 - k := by omega
          have HM : Hid (marksC k2 = marksC k ++ [(y, .slice none 0 0)]) := by show _ = _; rw [hk2, ← hy]; exact marksC_succ k
          clear hk2 hy hlt
          go_upto_region 9 with fail
          with_reducible refine wp_region_list ?_
          (with_reducible refine wpList_plain rfl ?_); intro K hK; go_simp; (with_reducible refine hK _ _ ?_); clear hK K; try simp only [Act.put, nA, nB, nC]
          (with_reducible refine wpList_plain rfl ?_); intro K hK; go_simp; (with_reducible refine hK _ _ ?_); clear hK K; try simp only [Act.put, nA, nB, nC]
          (with_reducible refine wpList_plain rfl ?_); intro K hK; go_simp; (with_reducible refine hK _ _ ?_); clear hK K; try simp only [Act.put, nA, nB, nC]
          (with_reducible refine wpList_plain rfl ?_); intro K hK; go_simp; (with_reducible refine hK _ _ ?_); clear hK K; try simp only [Act.put, nA, nB, nC]
          (with_reducible refine wpList_plain rfl ?_); intro K hK; go_simp; (with_reducible refine hK _ _ ?_); clear hK K; try simp only [Act.put, nA, nB, nC]
          (with_reducible refine wpList_plain rfl ?_); intro K hK; go_simp; (with_reducible refine hK _ _ ?_); clear hK K; try simp only [Act.put, nA, nB, nC]
          obtain ⟨wa, hwa⟩ : ∃ W, wr.alloc (.cells #[.int .u32 (y : Int), .slice none 0 0] 64) = W := ⟨_, rfl⟩
          have ba' : Below wr.heap.size wr wa := by rw [← hwa]; exact (Below.refl _ _).alloc (Nat.le_refl _) _
          have ha : wa.heap[wr.heap.size]? = some (.cells (bpair (y, .slice none 0 0)).toArray 64 (0, 0)) := by rw [← hwa]; exact heap_alloc_new wr _
          have Oa := HO.out.below ba' (fun g hg => (HO.out.lt g hg).2)
          have LBa := HL.out.below ba'
          have Ba := HB.out.trans (ba'.mono hzr)
          have hza : N ≤ wa.heap.size := by have := ba'.size; omega
          have hbl : ((bs ++ marksC k).length + 1) * 32 ≤ 140737488355328 := by rw [List.length_append, marksC_len]; have := hz.out; have := HBS.out; have := HNC.out; omega
          rw [hwa]
          with_reducible refine wpList_plain rfl ?_
          intro K hK
          refine wp_appC2 wa (y, .slice none 0 0) rfl _ _ rfl N (.slice va vn vc) (bs ++ marksC k) rfl Oa wr.heap.size 1 rfl ha hbl hza ?_
          intro v5 w5 O5 M5 F5
          refine hK _ _ ?_
          clear hK K
          rw [List.append_assoc, ← HM.out] at O5
          obtain ⟨ad5, cp5, hv5, hy1, hy2, hy3⟩ := O5.shape
          clear hy1 hy2 hy3
          obtain ⟨n5, hn5⟩ : ∃ n, (bs ++ marksC k2).length = n := ⟨_, rfl⟩
          rw [hn5] at hv5
          subst hv5
          clear hn5
          (try simp only [Act.put, nA, nB, nC])
          (with_reducible refine wpList_plain rfl ?_); intro K hK; go_simp; (with_reducible refine hK _ _ ?_); clear hK K; try simp only [Act.put, nA, nB, nC]
          have HO5 := Lib.hid O5
          have HB5 : Hid (Below N w w5) := Ba.trans (M5.below (n := N) (fun j hj e => by have := (Oa.lt j e).1; omega) (by omega))
          have hz5 : N ≤ w5.heap.size := Nat.le_trans hza M5.size
          have HL5 : Hid (LentB w5 N bs cs) := ⟨LBa.1, fun i hi => ⟨(LBa.2 i hi).1, (LBa.2 i hi).2.mod M5 (fun j hj hs => (LBa.2 i hi).2.ne Oa j hj hs)⟩⟩
          clear O5 M5 F5 Oa LBa Ba ba' ha hwa HO HL HB hza hzr HM hbl ey ey2 ey3
          go_wp2_with fail
          exact ⟨⟨k2, ad5, n5, cp5, hk3, HO5, HL5, HB5, hz5, rfl, rfl⟩, by simp only [intOf, Int.toNat_natCast]; exact hk4⟩
        case neg =>
          have ik : ¬ (k : Int) < 70 := by omega
          obtain rfl : k = 70 := by omega
          clear hlt hk
          obtain ⟨ad3, cp3, hv3, hq1, hq2, hq3⟩ := HO.out.shape
          obtain ⟨g3, hg3⟩ := hq3 (by rw [List.length_append, marksC_len]; omega)
          subst hg3
          cases hv3
          rw [List.length_append, marksC_len] at hq1
          have hle : nc ≤ vc := by have := HBS.out; omega
          clear hq3
          go_upto_region 10 with fail
          with_reducible refine wp_region_list ?_
          (with_reducible refine wpList_plain rfl ?_); intro K hK; go_simp; (with_reducible refine hK _ _ ?_); clear hK K; try simp only [Act.put, nA, nB, nC]
          (with_reducible refine wpList_plain rfl ?_); intro K hK; go_simp; (with_reducible refine hK _ _ ?_); clear hK K; try simp only [Act.put, nA, nB, nC]
          (with_reducible refine wpList_plain rfl ?_); intro K hK; go_simp; (with_reducible refine hK _ _ ?_); clear hK K; try simp only [Act.put, nA, nB, nC]
          (with_reducible refine wpList_plain rfl ?_); intro K hK; go_simp; (with_reducible refine hK _ _ ?_); clear hK K; try simp only [Act.put, nA, nB, nC]
          (with_reducible refine wpList_plain rfl ?_); intro K hK; go_simp; (with_reducible refine hK _ _ ?_); clear hK K; try simp only [Act.put, nA, nB, nC]
          have hle2 : (bs ++ marksC 70).length = cs.length + 70 := by rw [List.length_append, marksC_len]; have := HBS.out; have := HNC.out; omega
          have HF : Hid (LentC wr N (.slice (some ⟨g3, 0, none⟩) nc vc) cs) := by
            refine ⟨g3, vc, bs, by rw [HNC.out], ?_, HL.out⟩
            have h := HO.out
            rw [hle2] at h
            exact h
          clear hle hle2 hq1 hq2 HO HL
          go_wp2_with fail
          go_ret
          exact ⟨_, rfl, HF.out, HB.out⟩
end Go.Proofs.Ytkngmnfgdlnddaa

namespace Go.Proofs.Ytkngmnfgdlnddaa
open Go.RowKit Go.Lib Hw Go.Maps
set_option linter.unusedSimpArgs false
set_option linter.unusedVariables false

theorem Dealt.nil (w : World) (N : Nat) (lv : Value) : Dealt w N lv [] [] := ⟨rfl, fun i hi => by simp at hi, fun i j hi => by simp at hi⟩
theorem Dealt.below {w w' : World} {N : Nat} {lv : Value} {bs : List (Nat × Value)} {cs : List (Nat × List Nat)} (h : Dealt w N lv bs cs) (hb : Below w.heap.size w w') : Dealt w' N lv bs cs := by
  obtain ⟨h0, h1, h2⟩ := h
  exact ⟨h0, fun i hi => ⟨(h1 i hi).1, (h1 i hi).2.1.below hb (fun g hg => ((h1 i hi).2.1.lt g hg).2), (h1 i hi).2.2⟩, h2⟩
theorem Dealt.mono {w : World} {N M : Nat} {lv : Value} {bs : List (Nat × Value)} {cs : List (Nat × List Nat)} (h : Dealt w N lv bs cs) (hM : M ≤ N) : Dealt w M lv bs cs := by
  obtain ⟨h0, h1, h2⟩ := h
  exact ⟨h0, fun i hi => ⟨(h1 i hi).1, (h1 i hi).2.1.mono hM, (h1 i hi).2.2⟩, h2⟩
theorem Dealt.snoc {wr w3 wa w5 : World} {N : Nat} {lv lv5 u : Value} {bs bs' : List (Nat × Value)} {cs : List (Nat × List Nat)} {pg : Nat} {ys : List Nat} (hd : Dealt wr N lv bs cs) (hz : N ≤ wr.heap.size) (hO : OwnC wr N lv bs') (b3 : Below wr.heap.size wr w3) (hu : OwnO w3 wr.heap.size u ys) (ba : Below w3.heap.size w3 wa) (M5 : Mod (fun k => lv.ownBlock = some k) wa w5) (F5 : From wa lv lv5) : Dealt w5 N lv5 (bs ++ [(pg, u)]) (cs ++ [(pg, ys)]) := by
  obtain ⟨h0, h1, h2⟩ := hd
  have hz3 := b3.size
  have hza := ba.size
  have hl := fun g hg => (hO.lt g hg).2
  have old : ∀ i (hi : i < cs.length), (bs[i]).1 = cs[i].1 ∧ OwnO w5 N (bs[i]).2 cs[i].2 ∧ ∀ g, (bs[i]).2.ownBlock = some g → lv5.ownBlock ≠ some g := fun i hi => by
    refine ⟨(h1 i hi).1, ?_, fun g hg e => ?_⟩
    · have o1 := (h1 i hi).2.1
      have o3 := o1.below b3 (fun g hg => (o1.lt g hg).2)
      have oa := o3.below ba (fun g hg => (o3.lt g hg).2)
      exact oa.mod M5 (fun k hk e => (h1 i hi).2.2 k hk e)
    · rcases F5 g e with h | h
      · exact (h1 i hi).2.2 g hg h
      · have := ((h1 i hi).2.1.lt g hg).2; omega
  have new : OwnO w5 N u ys ∧ ∀ g, u.ownBlock = some g → lv5.ownBlock ≠ some g := by
    have nb : ∀ g, u.ownBlock = some g → lv.ownBlock ≠ some g := fun g hg e => by have := hl g e; have := (hu.lt g hg).1; omega
    refine ⟨?_, fun g hg e => ?_⟩
    · have oa := hu.below ba (fun g hg => (hu.lt g hg).2)
      exact (oa.mod M5 (fun k hk e => nb k hk e)).mono hz
    · rcases F5 g e with h | h
      · exact nb g hg h
      · have := (hu.lt g hg).2; omega
  have eL : ∀ i (hi : i < cs.length), (bs ++ [(pg, u)])[i]'(by simp; omega) = bs[i] := fun i hi => List.getElem_append_left (by omega)
  have eR : (bs ++ [(pg, u)])[cs.length]'(by simp; omega) = (pg, u) := by
    rw [List.getElem_append_right (by omega)]; simp [h0]
  have cL : ∀ i (hi : i < cs.length), (cs ++ [(pg, ys)])[i]'(by simp; omega) = cs[i] := fun i hi => List.getElem_append_left hi
  have cR : (cs ++ [(pg, ys)])[cs.length]'(by simp) = (pg, ys) := by simp
  refine ⟨by simp [h0], fun i hi => ?_, fun i j hi hj hij g hg => ?_⟩
  · by_cases e : i < cs.length
    · rw [eL i e, cL i e]; exact old i e
    · have e2 : i = cs.length := by rw [List.length_append, List.length_singleton] at hi; omega
      subst e2
      rw [eR, cR]
      exact ⟨rfl, new⟩
  · rw [List.length_append, List.length_singleton] at hi hj
    have ei : i < cs.length := by omega
    rw [eL i ei] at hg
    by_cases e : j < cs.length
    · rw [eL j e]; exact h2 i j ei e hij g hg
    · have e2 : j = cs.length := by omega
      subst e2
      rw [eR]
      intro hu2
      have := (hu.lt g hu2).1
      have := ((h1 i ei).2.1.lt g hg).2
      omega
theorem elem_C : Try.prog.elem 44 = 64 := by kernel_rfl
theorem size_C (w : World) : (sizeOf 64).run Try.prog w = .ok 2 w := by kernel_rfl
theorem slice_tailC {w : World} {ad : Option Addr} {n c : Nat} {cs : List (Nat × List Nat)} (h : CRow w (.slice ad n c) cs) (k : Nat) (hk : k ≤ n) :
    ∃ ad' : Option Addr, (∀ W, (Instr.slice 44 (.slice ad n c) (some (.int .i64 (k : Int))) none none).run Try.prog W = .ok (.slice ad' (n - k) (c - k)) W) ∧ CRow w (.slice ad' (n - k) (c - k)) (cs.drop k) := by
  obtain ⟨hp, ad2, c2, hv, h1, h2, h3⟩ := h
  cases hv
  refine ⟨if c = k then ad else ad.map (·.add (k * 2)), fun W => ?_, fun d hd => hp d (List.mem_of_mem_drop hd), _, c - k, by rw [List.length_drop], by rw [List.length_drop]; omega, by omega, fun h0 => ?_⟩
  · rw [run_slice_l (P := Try.prog) W 44 ad cs.length c (by rw [elem_C]; exact Try.underlying44) .i64 k (by omega) (by omega), elem_C, size_C]
    simp [Result.andThen, sliced]
  · rw [List.length_drop] at h0
    obtain ⟨b, o, rfl, hlt, hc⟩ := h3 (by omega)
    have hadd : ∀ j, (⟨b, o, none⟩ : Addr).add j = ⟨b, o + j, none⟩ := fun j => by unfold Addr.add; split <;> simp_all
    refine ⟨b, o + k * 2, ?_, hlt, fun i hi => ?_⟩
    · rw [if_neg (by omega)]; simp [hadd]
    · rw [List.length_drop] at hi
      obtain ⟨nv, g1, g2⟩ := hc (k + i) (by omega)
      refine ⟨nv, ?_, ?_⟩
      · rw [List.getElem_drop]
        have e : o + k * 2 + i * 2 = o + (k + i) * 2 := by omega
        rw [e]; exact g1
      · rw [List.getElem_drop]; exact g2
end Go.Proofs.Ytkngmnfgdlnddaa

namespace Go.Proofs.Ytkngmnfgdlnddaa
open Go.RowKit Go.Lib Hw Go.Maps
set_option linter.unusedSimpArgs false
set_option linter.unusedVariables false

/-- how many batches are left out -/
def clampN (op : Int) (n : Nat) : Nat := (max 0 (min op (n : Int))).toNat
def aftL (cs : List (Nat × List Nat)) (op : Int) (ls : List (Nat × List Nat)) : List (Nat × List Nat) := ls ++ cs.drop (clampN op cs.length)
theorem clampN_le (op : Int) (n : Nat) : clampN op n ≤ n := by unfold clampN; omega
theorem clampN_eq (op : Int) (n : Nat) : ((clampN op n : Nat) : Int) = max 0 (min op (n : Int)) := by unfold clampN; omega
theorem getElem?_two {x y v : Value} : ∀ {k : Nat}, (#[x, y] : Array Value)[k]? = some v → (k = 0 ∧ v = x) ∨ (k = 1 ∧ v = y)
  | 0, h => .inl ⟨rfl, (Option.some.inj h).symm⟩
  | 1, h => .inr ⟨rfl, (Option.some.inj h).symm⟩
  | k + 2, h => by cases h
set_option maxRecDepth 5000 in
set_option maxHeartbeats 8000000 in
theorem After_any (lv chv tv : Value) (ls cs : List (Nat × List Nat)) (op : Int) (pg : Int) (w : World) (hl : Hid (CRow w lv ls)) (hc : Hid (CRow w chv cs)) (hz : Hid ((ls.length + cs.length) * 32 ≤ 140737488355328)) (hz2 : Hid (∀ c ∈ ls ++ cs, c.2.length * 4 ≤ 140737488355328)) :
    Calls Try.prog 43 #[chv, .agg #[tv, lv, .int .i64 op, .int .u32 pg]] w fun e w' => ∃ v, e = .returned v ∧ ∃ bs, OwnC w' w.heap.size v bs ∧ Dealt w' w.heap.size v bs (aftL cs op ls) ∧ Below w.heap.size w w' := by
  obtain ⟨lad, lc, hlv, hx1⟩ := hl.out.form
  obtain ⟨cad, cc, hcv, hx2⟩ := hc.out.form
  clear hx1
  subst hlv hcv
  obtain ⟨N, hN⟩ : ∃ N, w.heap.size = N := ⟨_, rfl⟩
  have HN := Lib.hid hN
  rw [hN]
  clear hN
  obtain ⟨nc, hnc⟩ : ∃ k, cs.length = k := ⟨_, rfl⟩
  have HNC := Lib.hid hnc
  obtain ⟨nl, hnl⟩ : ∃ k, ls.length = k := ⟨_, rfl⟩
  have HNL := Lib.hid hnl
  obtain ⟨k0, hk0⟩ : ∃ k, clampN op nc = k := ⟨_, rfl⟩
  have hk1 : k0 ≤ nc := by rw [← hk0]; exact clampN_le op nc
  have ek : max 0 (min op (nc : Int)) = (k0 : Int) := by rw [← hk0]; exact (clampN_eq op nc).symm
  have HAF : Hid (aftL cs op ls = ls ++ cs.drop k0) := by show _ = _; unfold aftL; rw [hnc, hk0]
  rw [hnc] at hc hx2 ⊢
  rw [hnl] at hl ⊢
  obtain ⟨tad, hsl, htl⟩ := slice_tailC hc.out k0 hk1
  have HTL := Lib.hid htl
  clear hnc hnl hk0 htl
  go_enter Try.func43, Try.ntmps43
  go_upto_region 0 with fail
  with_reducible refine wp_region_list ?_
  refine wpList_boxB rfl _ _ rfl N HN.out #[tv, .slice lad nl lc, .int .i64 op, .int .u32 pg] rfl ?_
  intro w1 e1 b1 z1
  (try simp only [Act.put, nA, nB, nC])
  (with_reducible refine wpList_plain rfl ?_); intro K hK; go_simp; (with_reducible refine hK _ _ ?_); clear hK K; try simp only [Act.put, nA, nB, nC]
  have d1 := heap_cell e1 (o := 1)
  have d2 := heap_cell e1 (o := 2)
  go_upto_region 1 with fail
  with_reducible refine wp_region_list ?_
  (with_reducible refine wpList_plain rfl ?_); intro K hK; go_simp; (with_reducible refine hK _ _ ?_); clear hK K; try simp only [Act.put, nA, nB, nC]
  (with_reducible refine wpList_plain rfl ?_); intro K hK; go_simp; (with_reducible refine hK _ _ ?_); clear hK K; try simp only [Act.put, nA, nB, nC]
  (with_reducible refine wpList_plain rfl ?_); intro K hK; go_simp; (with_reducible refine hK _ _ ?_); clear hK K; try simp only [Act.put, nA, nB, nC]
  (with_reducible refine wpList_plain rfl ?_); intro K hK; go_simp; (with_reducible refine hK _ _ ?_); clear hK K; try simp only [Act.put, nA, nB, nC]
  (with_reducible refine wpList_plain rfl ?_); intro K hK; go_simp; (with_reducible refine hK _ _ ?_); clear hK K; try simp only [Act.put, nA, nB, nC]
  (with_reducible refine wpList_plain rfl ?_); intro K hK; go_simp; (with_reducible refine hK _ _ ?_); clear hK K; try simp only [Act.put, nA, nB, nC]
  (with_reducible refine wpList_plain rfl ?_); intro K hK; go_simp; (with_reducible refine hK _ _ ?_); clear hK K; try simp only [Act.put, nA, nB, nC]
  go_upto_region 3 with fail
  clear ek d2
  have hN1 : N < w1.drew.heap.size := heap_lt e1
  refine wp_region_held_drew (S := fun W => W.cell? ⟨N, 1, none⟩ = some (.slice lad nl lc)) (by kernel_rfl) d1 (fun hHeld => ?_)
  refine' wpAnyH_take (i := 0) (oi := ⟨some 17, .fieldAddr 48 (.tmp 3) 1, 0, "free.go:237", #[], none⟩) rfl (by kernel_rfl) (by kernel_rfl) (by kernel_rfl) (fun _ _ _ h => h) (Or.inl ⟨by rfl, _⟩) (by assumption) _
  rotate_left
  · (intro wS hSw; (try dsimp only at hSw); go_simp; try with_reducible rfl)
  try simp only [Act.put, nA, nB, nC]
  refine' wpAnyH_take (i := 1) (oi := ⟨some 18, .load 44 (.tmp 17), 44, "free.go:237", #[⟨0, .data⟩], none⟩) rfl (by kernel_rfl) (by kernel_rfl) (by kernel_rfl) (fun _ _ _ h => h) (Or.inl ⟨by rfl, _⟩) (by assumption) _
  rotate_left
  · (intro wS hSw; (try dsimp only at hSw); go_simp; try with_reducible rfl)
  try simp only [Act.put, nA, nB, nC]
  refine' wpAnyH_take (i := 2) (oi := ⟨some 19, .move (.tmp 0), 44, "free.go:237", #[], none⟩) rfl (by kernel_rfl) (by kernel_rfl) (by kernel_rfl) (fun _ _ _ h => h) (Or.inl ⟨by rfl, _⟩) (by assumption) _
  rotate_left
  · (intro wS hSw; (try dsimp only at hSw); go_simp; try with_reducible rfl)
  try simp only [Act.put, nA, nB, nC]
  refine' wpAnyH_take (i := 3) (oi := ⟨some 20, .move (.tmp 5), 3, "free.go:237", #[], none⟩) rfl (by kernel_rfl) (by kernel_rfl) (by kernel_rfl) (fun _ _ _ h => h) (Or.inl ⟨by rfl, _⟩) (by assumption) _
  rotate_left
  · (intro wS hSw; (try dsimp only at hSw); go_simp; try with_reducible rfl)
  try simp only [Act.put, nA, nB, nC]
  refine' wpAnyH_take (i := 4) (oi := ⟨some 21, .slice 44 (.tmp 19) (some (.tmp 20)) none none, 44, "free.go:237", #[⟨2, .data⟩, ⟨3, .data⟩], none⟩) rfl (by kernel_rfl) (by kernel_rfl) (by kernel_rfl) (fun _ _ _ h => h) (Or.inl ⟨by rfl, _⟩) (by assumption) _
  rotate_left
  · (intro wS hSw; (try dsimp only at hSw); go_simp; try with_reducible rfl)
  try simp only [Act.put, nA, nB, nC]
  refine' wpAnyH_take (i := 7) (oi := ⟨some 24, .move (.const (.int .i64 0)), 3, "free.go:237", #[], none⟩) rfl (by kernel_rfl) (by kernel_rfl) (by kernel_rfl) (fun _ _ _ h => h) (Or.inl ⟨by rfl, _⟩) (by assumption) _
  rotate_left
  · (intro wS hSw; (try dsimp only at hSw); go_simp; try with_reducible rfl)
  try simp only [Act.put, nA, nB, nC]
  have ba : ∀ (o : Obj), Below w1.drew.heap.size w1.drew (w1.drew.alloc o) := fun o => (Below.refl _ _).alloc (Nat.le_refl _) _
  refine wpAnyH_ready (rs := [5]) (by kernel_rfl) (by simp) ?_
  refine AllReadyH.cons (o := ⟨some 22, .buildSlice 57 2 #[(0, .tmp 18), (1, .tmp 21)], 57, "free.go:237", #[⟨1, .data⟩, ⟨4, .data⟩], none⟩) rfl (fun K hK => ?_) AllReadyH.nil
  go_simp
  refine hK.out _ _ ?_ (fun hHeld => ?_)
  · exact ((ba _).cell (p := ⟨N, 1, none⟩) hN1).trans hHeld
  clear hK K
  try simp only [Act.put, nA, nB, nC]
  refine' wpAnyH_take (i := 6) (oi := ⟨some 23, .call ⟨.builtin .len, #[.tmp 22], #[57]⟩, 3, "free.go:237", #[⟨5, .data⟩], none⟩) rfl (by kernel_rfl) (by kernel_rfl) (by kernel_rfl) (fun _ _ _ h => h) (Or.inl ⟨by rfl, _⟩) (by assumption) _
  rotate_left
  · (intro wS hSw; (try dsimp only at hSw); go_simp; try with_reducible rfl)
  try simp only [Act.put, nA, nB, nC]
  refine wpAnyH_done (by kernel_rfl) ?_ _
  obtain ⟨w2, hw2⟩ : ∃ W, (w1.alloc (.cells #[.slice lad nl lc, .slice tad (nc - k0) (cc - k0)] 44)).drew = W := ⟨_, rfl⟩
  obtain ⟨M, hM⟩ : ∃ M, M = N + 2 := ⟨_, rfl⟩
  have b2 : Below w1.heap.size w1 w2 := by rw [← hw2]; exact ((Below.refl _ _).alloc (Nat.le_refl _) _).drew
  have z2 : w2.heap.size = M := by rw [← hw2]; show (w1.alloc _).heap.size = M; rw [World.size_alloc]; omega
  have R2 : Hid (w2.heap[N + 1]? = some (.cells #[.slice lad nl lc, .slice tad (nc - k0) (cc - k0)] 44 (0, 0))) := by
    have h := heap_alloc_new w1 (.cells #[.slice lad nl lc, .slice tad (nc - k0) (cc - k0)] 44)
    rw [z1] at h
    rw [← hw2]
    exact h
  have B2 : Hid (Below N w w2) := b1.trans (b2.mono (by omega))
  have CL : Hid (CRow w2 (.slice lad nl lc) ls) := hl.out.below (by rw [HN.out]; exact B2.out)
  have CT : Hid (CRow w2 (.slice tad (nc - k0) (cc - k0)) (cs.drop k0)) := HTL.out.below (by rw [HN.out]; exact B2.out)
  have Z2 := Lib.hid z2
  have HM := Lib.hid hM
  obtain ⟨pf, hp0, hp1, hp2⟩ : ∃ pf : Nat → List (Nat × List Nat), pf 0 = [] ∧ pf 1 = ls ∧ pf 2 = ls ++ cs.drop k0 := ⟨fun k => if k = 0 then [] else if k = 1 then ls else ls ++ cs.drop k0, rfl, rfl, rfl⟩
  have PF : Hid (∀ j, j < 2 → ∃ ad n c xs, (#[.slice lad nl lc, .slice tad (nc - k0) (cc - k0)] : Array Value)[j]? = some (.slice ad n c) ∧ xs.length = n ∧ CRow w2 (.slice ad n c) xs ∧ pf (j + 1) = pf j ++ xs ∧ (∀ d ∈ xs, d.2.length * 4 ≤ 140737488355328) ∧ ((pf j).length + xs.length) * 32 ≤ 140737488355328) := fun j hj => by
    have h1 := hz.out
    have h2 := hz2.out
    have h3 := HNC.out
    have h4 := HNL.out
    match j, hj with
    | 0, _ => exact ⟨lad, nl, lc, ls, rfl, h4, CL.out, by rw [hp1, hp0]; rfl, fun d hd => h2 d (List.mem_append_left _ hd), by rw [hp0]; simp only [List.length_nil]; omega⟩
    | 1, _ => exact ⟨tad, nc - k0, cc - k0, cs.drop k0, rfl, by rw [List.length_drop, h3], CT.out, by rw [hp2, hp1], fun d hd => h2 d (List.mem_append_right _ (List.mem_of_mem_drop hd)), by rw [hp1, List.length_drop]; omega⟩
  have P0 := Lib.hid hp0
  have P2 : Hid (aftL cs op ls = pf 2) := by show _ = _; rw [hp2, HAF.out]
  rw [hw2]
  clear hw2 z1 b2 b1 e1 hM z2 d1 hN1 hHeld ba hsl hp0 hp1 hp2 CL CT HAF hz hz2 hl hc hx2 HNC HNL HTL hk1
  go_upto_region 4 with fail
  go_loopw [6, 24] (fun lv iv wr => ∃ (j : Nat) (va : Option Addr) (vn vc : Nat) (bs : List (Nat × Value)), j ≤ 2 ∧ Hid (OwnC wr M (.slice va vn vc) bs) ∧ Hid (Dealt wr M (.slice va vn vc) bs (pf j)) ∧ Hid (Below M w2 wr) ∧ M ≤ wr.heap.size ∧ lv = .slice va vn vc ∧ iv = .int .i64 (j : Int)) (fun _ iv _ => 2 - (intOf iv).toNat)
  case atStart => exact ⟨0, none, 0, 0, [], Nat.zero_le _, OwnC.nil _ _, by rw [P0.out]; exact Dealt.nil _ _ _, Below.refl _ _, by have := Z2.out; omega, rfl, rfl⟩
  case round =>
    obtain ⟨j, va, vn, vc, bs, hj, HO, HD, HB, hzr, rfl, rfl⟩ := hrel
    by_cases hlt : j < 2
    case pos =>
      have ij : (j : Int) < 2 := by omega
      obtain ⟨xad, xn, xc, xs, hx1, hx2, hx3, hx4, hx5, hx6⟩ := PF.out j hlt
      have XN := Lib.hid hx2
      have XR := Lib.hid hx3
      have XP := Lib.hid hx4
      have XZ := Lib.hid hx5
      have XL := Lib.hid hx6
      have f1 : wr.cell? ⟨N + 1, j, none⟩ = some (.slice xad xn xc) := by
        rw [heap_cell (heap_below R2.out HB.out (by have := HM.out; omega))]
        exact hx1
      obtain ⟨j2, hj2⟩ : ∃ j2 : Nat, j2 = j + 1 := ⟨_, rfl⟩
      have ew1 : (j : Int) + 1 = (j2 : Int) := by omega
      have ew2 : IntKind.i64.wrap (j2 : Int) = (j2 : Int) := IntWalk.i64_in _ (by omega)
      have hj3 : j2 ≤ 2 := by omega
      have hj4 : 2 - j2 < 2 - j := by omega
      rw [← hj2] at hx4
      have XP := Lib.hid hx4
      have hxn : xn ≤ 9223372036854775807 := by obtain ⟨_, _, e, h⟩ := hx3.form; have := (Value.slice.inj e).2.1; omega
      clear hx1 hx2 hx3 hx4 hx5 hx6 hj2 hlt
      have HJ := Lib.hid hj
      have HE1 := Lib.hid ew1
      have HD0 : Hid (Dealt wr M (.slice va vn vc) bs (pf j ++ xs.take 0)) := by show Dealt _ _ _ _ _; rw [List.take_zero, List.append_nil]; exact HD.out
      clear hj HD
      go_upto_region 7 with fail
      clear f1 ew2
      go_loopw [6, 30] (fun lv iv wr2 => ∃ (i : Nat) (va : Option Addr) (vn vc : Nat) (bs : List (Nat × Value)), i ≤ xn ∧ Hid (OwnC wr2 M (.slice va vn vc) bs) ∧ Hid (Dealt wr2 M (.slice va vn vc) bs (pf j ++ xs.take i)) ∧ Hid (Below M w2 wr2) ∧ M ≤ wr2.heap.size ∧ lv = .slice va vn vc ∧ iv = .int .i64 (i : Int)) (fun _ iv _ => xn - (intOf iv).toNat)
      case atStart => exact ⟨0, va, vn, vc, bs, Nat.zero_le _, HO, HD0, HB, hzr, rfl, rfl⟩
      case round =>
        clear HO HD0 HB hzr
        obtain ⟨i, va, vn, vc, bs, hi, HO, HD, HB, hzr, rfl, rfl⟩ := hrel
        by_cases hli : i < xn
        case pos =>
          have ii : (i : Int) < (xn : Int) := by omega
          have hix : i < xs.length := by have := XN.out; omega
          have hzc := XZ.out _ (List.getElem_mem hix)
          obtain ⟨vb, vo, nad, nn, e1, r1, u1, pp1⟩ := XR.out.at hix
          subst e1
          have t1 : xs.take (i + 1) = xs.take i ++ [xs[i]] := List.take_succ_eq_append_getElem hix
          obtain ⟨⟨pg, ys⟩, hx0⟩ : ∃ x, xs[i] = x := ⟨_, rfl⟩
          rw [hx0] at r1 u1 pp1 t1 hzc
          simp only at r1 u1 pp1 hzc
          have hvb : vb < M := by rw [← Z2.out]; exact World.block_lt_of_cell? w2 ⟨vb, vo + i * 2 + 0, none⟩ (r1 0 _ rfl)
          have HR := Lib.hid (range_block r1 (HB.out.block vb hvb))
          have HU := Lib.hid u1
          obtain ⟨ny, hny⟩ : ∃ n, ys.length = n := ⟨_, rfl⟩
          have HNY := Lib.hid hny
          rw [hny] at HR HU
          obtain ⟨i9, hi9⟩ : ∃ k9 : Nat, k9 = i + 1 := ⟨_, rfl⟩
          have ex1 : (i : Int) + 1 = (i9 : Int) := by omega
          have ex2 : IntKind.i64.wrap (i9 : Int) = (i9 : Int) := IntWalk.i64_in _ (by omega)
          have hi3 : i9 ≤ xn := by omega
          have hi4 : xn - i9 < xn - i := by omega
          rw [← hi9] at t1
          have T1 := Lib.hid t1
          have HZC := Lib.hid hzc
          clear hi9 t1 hx0 r1 u1 hny hli pp1 hzc hix
          go_upto_region 8 with fail
          with_reducible refine wp_region_list ?_
          (with_reducible refine wpList_plain rfl ?_); intro K hK; go_simp; (with_reducible refine hK _ _ ?_); clear hK K; try simp only [Act.put, nA, nB, nC]
          refine wpList_load_mid rfl 64 _ rfl vb (vo + i * 2) rfl [uN pg, .slice nad ny nn] _ HR.out Try.underlying64 rfl info_B ?_
          (try simp only [Act.put, nA, nB, nC])
          obtain ⟨bb, hbb⟩ : ∃ b, wr.heap.size = b := ⟨_, rfl⟩
          refine wpList_allocB rfl 64 rfl bb hbb (.agg #[.int .u32 0, .slice none 0 0]) (fun _ => by kernel_rfl) ?_
          intro w3 e3 b3 z3
          (try simp only [Act.put, nA, nB, nC])
          refine wpList_storeB rfl 64 _ _ rfl bb #[.int .u32 (pg : Int), .slice nad ny nn] rfl rfl 64 _ e3 info_B rfl (by simp [Value.oneCell']) ?_
          intro w4 e4 m4
          (try simp only [Act.put, nA, nB, nC])
          have hb4 : Below wr.heap.size wr w4 := by rw [hbb]; exact b3.trans (m4.below (n := bb) (fun k hk e => by omega) (by omega))
          have c0 := heap_cell e4 (o := 0)
          have c1 := heap_cell e4 (o := 1)
          have hz4 : bb < w4.heap.size := heap_lt e4
          have O4 := Lib.hid (HO.out.below hb4 (fun g hg => (HO.out.lt g hg).2))
          have D4 := Lib.hid (HD.out.below hb4)
          have B4 : Hid (Below M w2 w4) := HB.out.trans (hb4.mono hzr)
          have hzr4 : M ≤ w4.heap.size := by omega
          have HCL := Lib.hid (Clone_own (.slice nad ny nn) ys w4.drew (((HU.out.below (by rw [Z2.out]; exact B4.out)).below ((Below.refl _ _).drew))) HZC.out)
          have hnb : ∀ g, (Value.slice va vn vc).ownBlock = some g → g ≠ bb := fun g hg => by have := (HO.out.lt g hg).2; omega
          clear e3 b3 z3 e4 m4 hb4 HO HD HB hbb HR HU HZC hzr
          go_upto_region 9 with fail
          refine wp_region_held_drew (S := fun W => W.cell? ⟨bb, 0, none⟩ = some (.int .u32 (pg : Int)) ∧ W.cell? ⟨bb, 1, none⟩ = some (.slice nad ny nn)) (by kernel_rfl) ⟨c0, c1⟩ (fun hHeld => ?_)
          refine' wpAnyH_take (i := 0) (oi := ⟨some 34, .move (.tmp 6), 44, "free.go:239", #[], none⟩) rfl (by kernel_rfl) (by kernel_rfl) (by kernel_rfl) (fun _ _ _ h => h) (Or.inl ⟨by rfl, _⟩) (by assumption) _
          rotate_left
          · (intro wS hSw; (try dsimp only at hSw); go_simp; try with_reducible rfl)
          try simp only [Act.put, nA, nB, nC]
          refine' wpAnyH_take (i := 1) (oi := ⟨some 35, .fieldAddr 64 (.tmp 10) 0, 0, "free.go:239", #[], none⟩) rfl (by kernel_rfl) (by kernel_rfl) (by kernel_rfl) (fun _ _ _ h => h) (Or.inl ⟨by rfl, _⟩) (by assumption) _
          rotate_left
          · (intro wS hSw; (try dsimp only at hSw); go_simp; try with_reducible rfl)
          try simp only [Act.put, nA, nB, nC]
          refine' wpAnyH_take (i := 2) (oi := ⟨some 36, .load 27 (.tmp 35), 27, "free.go:239", #[⟨1, .data⟩], none⟩) rfl (by kernel_rfl) (by kernel_rfl) (by kernel_rfl) (fun _ _ _ h => h) (Or.inl ⟨by rfl, _⟩) (by assumption) _
          rotate_left
          · (intro wS hSw; (try dsimp only at hSw); go_simp; try with_reducible rfl)
          try simp only [Act.put, nA, nB, nC]
          refine' wpAnyH_take (i := 3) (oi := ⟨some 37, .fieldAddr 64 (.tmp 10) 1, 0, "free.go:239", #[], none⟩) rfl (by kernel_rfl) (by kernel_rfl) (by kernel_rfl) (fun _ _ _ h => h) (Or.inl ⟨by rfl, _⟩) (by assumption) _
          rotate_left
          · (intro wS hSw; (try dsimp only at hSw); go_simp; try with_reducible rfl)
          try simp only [Act.put, nA, nB, nC]
          refine' wpAnyH_take (i := 4) (oi := ⟨some 38, .load 28 (.tmp 37), 28, "free.go:239", #[⟨3, .data⟩], none⟩) rfl (by kernel_rfl) (by kernel_rfl) (by kernel_rfl) (fun _ _ _ h => h) (Or.inl ⟨by rfl, _⟩) (by assumption) _
          rotate_left
          · (intro wS hSw; (try dsimp only at hSw); go_simp; try with_reducible rfl)
          try simp only [Act.put, nA, nB, nC]
          refine wpAnyH_ready (rs := [5]) (by kernel_rfl) (by simp) ?_
          refine AllReadyH.cons (o := ⟨some 39, .call ⟨.value (.func 76), #[.tmp 38], #[28]⟩, 28, "free.go:239", #[⟨4, .data⟩], none⟩) rfl (fun K hK => ?_) AllReadyH.nil
          go_simp
          (refine HCL.out.mono ?_; rintro e w5 ⟨u, rfl, o5, b5⟩; obtain ⟨uad, uc, hue, hq1, hq2, hq3⟩ := o5.shape; obtain ⟨un, hun⟩ : ∃ n, ys.length = n := ⟨_, rfl⟩; rw [hun] at hue; clear hq1 hq2 hq3 hun; subst hue)
          refine hK.out _ _ ?_ (fun hHeld => ?_)
          · exact ⟨(b5.cell (p := ⟨bb, 0, none⟩) hz4).trans hHeld.1, (b5.cell (p := ⟨bb, 1, none⟩) hz4).trans hHeld.2⟩
          clear hK K
          try simp only [Act.put, nA, nB, nC]
          have bw5 : Below w4.heap.size w4 w5 := (Below.refl _ _).drew.trans b5
          have hz5 : w4.heap.size ≤ w5.heap.size := bw5.size
          refine' wpAnyH_take (i := 6) (oi := ⟨some 40, .build 64 #[(0, .tmp 36), (1, .tmp 39)], 64, "free.go:239", #[⟨2, .data⟩, ⟨5, .data⟩], none⟩) rfl (by kernel_rfl) (by kernel_rfl) (by kernel_rfl) (fun _ _ _ h => h) (Or.inl ⟨by rfl, _⟩) (by assumption) _
          rotate_left
          · (intro wS hSw; (try dsimp only at hSw); go_simp; try with_reducible rfl)
          try simp only [Act.put, nA, nB, nC]
          have ba : ∀ (o : Obj), Below w5.heap.size w5 (w5.alloc o) := fun o => (Below.refl _ _).alloc (Nat.le_refl _) _
          have hb5 : bb < w5.heap.size := by omega
          refine wpAnyH_ready (rs := [7]) (by kernel_rfl) (by simp) ?_
          refine AllReadyH.cons (o := ⟨some 41, .buildSlice 44 1 #[(0, .tmp 40)], 44, "free.go:239", #[⟨6, .data⟩], none⟩) rfl (fun K hK => ?_) AllReadyH.nil
          go_simp
          refine hK.out _ _ ?_ (fun hHeld => ?_)
          · exact ⟨((ba _).cell (p := ⟨bb, 0, none⟩) hb5).trans hHeld.1, ((ba _).cell (p := ⟨bb, 1, none⟩) hb5).trans hHeld.2⟩
          clear hK K
          try simp only [Act.put, nA, nB, nC]
          obtain ⟨wa, hwa⟩ : ∃ W, w5.alloc (.cells #[.int .u32 (pg : Int), .slice uad un uc] 64) = W := ⟨_, rfl⟩
          have ba' : Below w5.heap.size w5 wa := by rw [← hwa]; exact ba _
          have ha : wa.heap[w5.heap.size]? = some (.cells (bpair (pg, .slice uad un uc)).toArray 64 (0, 0)) := by rw [← hwa]; exact heap_alloc_new w5 _
          have O5 := O4.out.below bw5 (fun g hg => (O4.out.lt g hg).2)
          have Oa := O5.below ba' (fun g hg => (O5.lt g hg).2)
          have Ba := B4.out.trans ((bw5.trans (ba'.mono bw5.size)).mono hzr4)
          have hza : M ≤ wa.heap.size := by have := ba'.size; omega
          have hbl : (bs.length + 1) * 32 ≤ 140737488355328 := by obtain ⟨hh, _⟩ := D4.out; rw [List.length_append, List.length_take] at hh; have := XL.out; have := XN.out; omega
          have hba : bb < wa.heap.size := by have := ba'.size; omega
          rw [hwa] at hHeld ⊢
          refine wpAnyH_ready (rs := [8]) (by kernel_rfl) (by simp) ?_
          refine AllReadyH.cons (o := ⟨some 42, .call ⟨.builtin .append, #[.tmp 34, .tmp 41], #[44, 44]⟩, 44, "free.go:239", #[⟨0, .data⟩, ⟨7, .data⟩, ⟨5, .chain⟩], none⟩) rfl (fun K hK => ?_) AllReadyH.nil
          refine step_of rfl (wp_appC2 wa (pg, .slice uad un uc) rfl _ _ rfl M (.slice va vn vc) bs rfl Oa w5.heap.size 1 rfl ha hbl hza ?_); intro v6 w6 O6 M6 F6; obtain ⟨ad6, cp6, hv6, hy1, hy2, hy3⟩ := O6.shape; clear hy1 hy2 hy3; rw [List.length_append, List.length_singleton] at hv6; subst hv6
          refine hK.out _ _ ?_ (fun hHeld => ?_)
          · exact ⟨(M6.heapc hba (fun e => hnb bb e rfl)).trans hHeld.1, (M6.heapc hba (fun e => hnb bb e rfl)).trans hHeld.2⟩
          clear hK K
          try simp only [Act.put, nA, nB, nC]
          refine' wpAnyH_take (i := 9) (oi := ⟨some 6, .assign (.tmp 42), 44, "free.go:239", #[⟨8, .data⟩, ⟨8, .chain⟩, ⟨0, .phase⟩, ⟨1, .phase⟩, ⟨2, .phase⟩, ⟨3, .phase⟩, ⟨4, .phase⟩, ⟨5, .phase⟩, ⟨6, .phase⟩, ⟨7, .phase⟩, ⟨8, .phase⟩], none⟩) rfl (by kernel_rfl) (by kernel_rfl) (by kernel_rfl) (fun _ _ _ h => h) (Or.inl ⟨by rfl, _⟩) (by assumption) _
          rotate_left
          · (intro wS hSw; (try dsimp only at hSw); go_simp; try with_reducible rfl)
          try simp only [Act.put, nA, nB, nC]
          refine wpAnyH_done (by kernel_rfl) ?_ _
          have HO6 := Lib.hid O6
          have HB6 : Hid (Below M w2 w6) := Ba.trans (M6.below (n := M) (fun j hj e => by have := (Oa.lt j e).1; omega) (by omega))
          have hz6 : M ≤ w6.heap.size := Nat.le_trans hza M6.size
          have HD6 : Hid (Dealt w6 M (.slice ad6 (bs.length + 1) cp6) (bs ++ [(pg, .slice uad un uc)]) (pf j ++ xs.take i9)) := by
            show Dealt _ _ _ _ _
            rw [T1.out, ← List.append_assoc]
            exact D4.out.snoc hzr4 O4.out bw5 o5 ba' M6 F6
          clear hnb hba O6 M6 F6 O5 Oa Ba ba' ha ba hwa O4 D4 B4 hHeld c0 c1 hza hzr4 T1 hbl b5 bw5 o5 HCL
          go_wp2_with fail
          exact ⟨⟨i9, ad6, bs.length + 1, cp6, _, hi3, HO6, HD6, HB6, hz6, rfl, rfl⟩, by simp only [intOf, Int.toNat_natCast]; exact hi4⟩
        case neg =>
          have ii : ¬ (i : Int) < (xn : Int) := by omega
          have HD2 : Hid (Dealt wr M (.slice va vn vc) bs (pf j2)) := by
            have h := HD.out
            have ht : xs.take i = xs := List.take_of_length_le (by rw [XN.out]; omega)
            rw [ht, ← XP.out] at h
            exact h
          have ew1 := HE1.out
          have ew2 : IntKind.i64.wrap (j2 : Int) = (j2 : Int) := IntWalk.i64_in _ (by omega)
          clear hli HD hi
          go_wp2_with fail
          exact ⟨⟨j2, va, vn, vc, bs, hj3, HO, HD2, HB, hzr, rfl, rfl⟩, by simp only [intOf, Int.toNat_natCast]; exact hj4⟩
    case neg =>
      have ij : ¬ (j : Int) < 2 := by omega
      obtain rfl : j = 2 := by omega
      have HF : Hid (OwnC wr N (.slice va vn vc) bs ∧ Dealt wr N (.slice va vn vc) bs (aftL cs op ls) ∧ Below N w wr) := by
        refine ⟨HO.out.mono (by have := HM.out; omega), ?_, B2.out.trans (HB.out.mono (by have := HM.out; omega))⟩
        rw [P2.out]
        exact HD.out.mono (by have := HM.out; omega)
      clear hlt hj HO HD HB hzr
      go_wp2_with fail
      go_ret
      exact ⟨_, rfl, bs, HF.out.1, HF.out.2.1, HF.out.2.2⟩
end Go.Proofs.Ytkngmnfgdlnddaa

