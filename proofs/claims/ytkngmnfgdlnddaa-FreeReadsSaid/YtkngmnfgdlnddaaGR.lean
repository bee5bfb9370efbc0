/-
  The lists of numbers of batches. apart of lists that share no memory, told without labels.
-/
import Derived.Test.YtkngmnfgdlnddaaGP
set_option linter.unusedSimpArgs false
set_option linter.unusedVariables false
namespace Go.Proofs.Ytkngmnfgdlnddaa
open Go.RowKit Go.Lib Hw Go.Maps
set_option linter.unusedSimpArgs false
set_option linter.unusedVariables false

set_option maxRecDepth 5000 in
set_option maxHeartbeats 4000000 in
theorem inner_any (v : Value) (bs : List (Nat × Value)) (w : World) (hv : Hid (ReadR 2 w v bs.length (brow bs))) (h1 : Hid (∀ b ∈ bs, ∃ ad n c, b.2 = .slice ad n c)) (hz : Hid (bs.length * 24 ≤ 140737488355328)) :
    Calls Try.prog 45 #[v] w fun e w' => ∃ u, e = .returned u ∧ OwnR 28 1 w' w.heap.size u bs.length (bs.map (·.2)) ∧ Below w.heap.size w w' := by
  obtain ⟨ad, cap, hv1, hn63⟩ := hv.out.form
  subst hv1
  obtain ⟨N, hN⟩ : ∃ N, w.heap.size = N := ⟨_, rfl⟩
  have HN := Lib.hid hN
  rw [hN]
  clear hN
  obtain ⟨n, hn⟩ : ∃ n, bs.length = n := ⟨_, rfl⟩
  have HL := Lib.hid hn
  rw [hn] at hv hz hn63 ⊢
  clear hn
  go_enter Try.func45, Try.ntmps45
  go_upto_region 3 with fail
  go_loopw [3, 4] (fun mv iv wr => ∃ (i : Nat) (mad : Option Addr) (mc : Nat), i ≤ n ∧ Hid (OwnR 28 1 wr N (.slice mad i mc) i ((bs.map (·.2)).take i)) ∧ Hid (Below N w wr) ∧ N ≤ wr.heap.size ∧ mv = .slice mad i mc ∧ iv = .int .i64 (i : Int)) (fun _ iv _ => n - (intOf iv).toNat)
  case atStart => exact ⟨0, none, 0, Nat.zero_le _, OwnR.nil _ _ _ _, Below.refl _ _, by have := HN.out; omega, rfl, rfl⟩
  case round =>
    obtain ⟨i, mad, mc, hi, HO, HB, hzr, rfl, rfl⟩ := hrel
    by_cases hlt : i < n
    case pos =>
      have ii : (i : Int) < (n : Int) := by omega
      have hix : i < bs.length := by have := HL.out; omega
      obtain ⟨i9, hi9⟩ : ∃ k9 : Nat, k9 = i + 1 := ⟨_, rfl⟩
      have ew1 : (i : Int) + 1 = (i9 : Int) := by omega
      have ew2 : IntKind.i64.wrap (i9 : Int) = (i9 : Int) := IntWalk.i64_in _ (by omega)
      have hi3 : i9 ≤ n := by omega
      have hi4 : n - i9 < n - i := by omega
      have HI9 := Lib.hid hi9
      have hrd : ReadR 2 wr (.slice ad n cap) n (brow bs) := hv.out.below (by rw [HN.out]; exact HB.out)
      obtain ⟨g, o, hga, hgl, hgc⟩ := hrd.at (by omega)
      subst hga
      have hb2 := (brow_at bs i hix).2
      have hlen : i * 2 + 1 < (brow bs).length := by rw [brow_len]; omega
      rw [List.getElem?_eq_getElem hlen] at hb2
      have hc := hgc (i * 2 + 1) hlen
      rw [Option.some.inj hb2] at hc
      obtain ⟨bad, bn, bc, hbe⟩ := h1.out _ (List.getElem_mem hix)
      rw [hbe] at hc
      have f1 : wr.cell? ⟨g, o + i * 2 + 1, none⟩ = some (.slice bad bn bc) := hc
      have T1 : Hid ((bs.map (·.2)).take i9 = (bs.map (·.2)).take i ++ [.slice bad bn bc]) := by
        show _ = _
        rw [HI9.out, List.take_succ_eq_append_getElem (by rw [List.length_map]; exact hix), List.getElem_map, hbe]
      clear hi9 hlt hix hrd hgl hgc hb2 hlen hc hbe
      go_upto_region 5 with fail
      with_reducible refine wp_region_list ?_
      (with_reducible refine wpList_plain rfl ?_); intro K hK; go_simp; (with_reducible refine hK _ _ ?_); clear hK K; try simp only [Act.put, nA, nB, nC]
      (with_reducible refine wpList_plain rfl ?_); intro K hK; go_simp; (with_reducible refine hK _ _ ?_); clear hK K; try simp only [Act.put, nA, nB, nC]
      (with_reducible refine wpList_plain rfl ?_); intro K hK; go_simp; (with_reducible refine hK _ _ ?_); clear hK K; try simp only [Act.put, nA, nB, nC]
      (with_reducible refine wpList_plain rfl ?_); intro K hK; go_simp; (with_reducible refine hK _ _ ?_); clear hK K; try simp only [Act.put, nA, nB, nC]
      (with_reducible refine wpList_plain rfl ?_); intro K hK; go_simp; (with_reducible refine hK _ _ ?_); clear hK K; try simp only [Act.put, nA, nB, nC]
      (with_reducible refine wpList_plain rfl ?_); intro K hK; go_simp; (with_reducible refine hK _ _ ?_); clear hK K; try simp only [Act.put, nA, nB, nC]
      (with_reducible refine wpList_plain rfl ?_); intro K hK; go_simp; (with_reducible refine hK _ _ ?_); clear hK K; try simp only [Act.put, nA, nB, nC]
      obtain ⟨wa, hwa⟩ : ∃ W, wr.alloc (.cells #[.slice bad bn bc] 28) = W := ⟨_, rfl⟩
      have ba : Below wr.heap.size wr wa := by rw [← hwa]; exact (Below.refl _ _).alloc (Nat.le_refl _) _
      have ha : wa.heap[wr.heap.size]? = some (.cells #[.slice bad bn bc] 28 (0, 0)) := by rw [← hwa]; exact heap_alloc_new wr _
      obtain ⟨ti, hti, tz0, tz1, tz2⟩ := info_parts info_V
      have hra := HO.out.below ba
      have hsz : (i + 1) * 24 ≤ 140737488355328 := by have := hz.out; omega
      have hzw : N ≤ wa.heap.size := by have := ba.size; omega
      rw [hwa]
      refine wpList_appR 42 28 ti _ 1 24 Try.underlying42 hti tz0 tz1 tz2 rfl (by decide) wa rfl _ _ rfl N _ _ _ rfl hra _ rfl 1 [.slice bad bn bc] (src_laid _ _ Try.underlying42 1 wa [.slice bad bn bc] rfl (by simp [Value.oneCell']) _ wr.heap.size ha) hsz hzw ?_
      intro v5 w5 o5 g5
      rw [← T1.out, ← HI9.out] at o5
      obtain ⟨mad5, mc5, hv5, hy5⟩ := o5.form
      subst hv5
      (try simp only [Act.put, nA, nB, nC])
      (with_reducible refine wpList_plain rfl ?_); intro K hK; go_simp; (with_reducible refine hK _ _ ?_); clear hK K; try simp only [Act.put, nA, nB, nC]
      have HO5 := Lib.hid o5
      have HB5 : Hid (Below N w w5) := by
        refine HB.out.trans ((ba.mono hzr).trans ?_)
        rcases g5 with ⟨ad5, cap5, e1, e2, m5⟩ | ⟨b5, _⟩
        · exact m5.below (n := N) (fun q hq hs => by have := (hra.lt q hs).1; omega) hzw
        · exact b5.mono hzw
      have hz5 : N ≤ w5.heap.size := by have := HB5.out.size; have := HN.out; omega
      clear o5 g5 hy5 hra ha ba hwa hsz hzw HO HB hti tz0 tz1 tz2 f1 T1
      go_wp2_with fail
      exact ⟨⟨i9, mad5, mc5, hi3, HO5, HB5, hz5, rfl, rfl⟩, by simp only [intOf, Int.toNat_natCast]; exact hi4⟩
    case neg =>
      have ii : ¬ (i : Int) < (n : Int) := by omega
      obtain rfl : n = i := by omega
      have HF : Hid (OwnR 28 1 wr N (.slice mad n mc) n (bs.map (·.2))) := by
        have h := HO.out
        rw [List.take_of_length_le (by rw [List.length_map, HL.out]; exact Nat.le_refl _)] at h
        exact h
      clear hlt hi HO
      go_wp2_with fail
      go_ret
      exact ⟨_, rfl, HF.out, HB.out⟩
end Go.Proofs.Ytkngmnfgdlnddaa

namespace Go.Proofs.Ytkngmnfgdlnddaa
open Go.RowKit Go.Lib Hw Go.Maps
set_option linter.unusedSimpArgs false
set_option linter.unusedVariables false

/-- no two of some values share a block -/
def Sep (zs : List Value) : Prop := ∀ i j (hi : i < zs.length) (hj : j < zs.length), i < j → ∀ g, zs[i].ownBlock = some g → zs[j].ownBlock ≠ some g
def labF (zs : List Value) (g : Nat) : Nat := match (List.range zs.length).find? (fun j => match zs[j]? with | some z => decide (z.ownBlock = some g) | none => false) with | some j => j + 1 | none => 0
theorem lab_exists (zs : List Value) (h : Sep zs) : ∃ lab : Nat → Nat, (∀ j (hj : j < zs.length) g, zs[j].ownBlock = some g → lab g = j + 1) ∧ ∀ g, (∀ z ∈ zs, z.ownBlock ≠ some g) → lab g = 0 := by
  refine ⟨labF zs, fun j hj g hg => ?_, fun g hg => ?_⟩
  · cases hf : (List.range zs.length).find? (fun j => match zs[j]? with | some z => decide (z.ownBlock = some g) | none => false) with
    | none =>
      have h1 := List.find?_eq_none.1 hf j (List.mem_range.2 hj)
      rw [List.getElem?_eq_getElem hj] at h1
      simp [hg] at h1
    | some k =>
      have h1 := List.find?_some hf
      have hk : k < zs.length := List.mem_range.1 (List.mem_of_find?_eq_some hf)
      rw [List.getElem?_eq_getElem hk] at h1
      have h2 := of_decide_eq_true h1
      unfold labF
      rw [hf]
      show k + 1 = j + 1
      rcases Nat.lt_trichotomy k j with h3 | h3 | h3
      · exact absurd hg (h k j hk hj h3 g h2)
      · rw [h3]
      · exact absurd h2 (h j k hj hk h3 g hg)
  · cases hf : (List.range zs.length).find? (fun j => match zs[j]? with | some z => decide (z.ownBlock = some g) | none => false) with
    | none => unfold labF; rw [hf]
    | some k =>
      have h1 := List.find?_some hf
      have hk : k < zs.length := List.mem_range.1 (List.mem_of_find?_eq_some hf)
      rw [List.getElem?_eq_getElem hk] at h1
      exact absurd (of_decide_eq_true h1) (hg _ (List.getElem_mem hk))
theorem apart_ownF (l c : Value) (vs us : List Value) (ln lb : Nat → Nat) (w : World) (hvl : ReadR 1 w l vs.length vs) (hcl : ReadR 1 w c us.length us)
    (hs : Sep (vs ++ us)) (hl0 : ∀ g, l.ownBlock = some g → ∀ z ∈ vs ++ us, z.ownBlock ≠ some g) (hc0 : ∀ g, c.ownBlock = some g → ∀ z ∈ vs ++ us, z.ownBlock ≠ some g)
    (hv : ∀ j (h : j < vs.length), ∃ cs, OwnR 27 1 w 0 vs[j] (ln j) cs) (hu : ∀ j (h : j < us.length), ∃ cs, OwnR 64 2 w 0 us[j] (lb j) cs)
    (hz1 : ∀ j, j < vs.length → ln j ≤ 35184372088000) (hz2 : ∀ j, j < us.length → lb j ≤ 4398046511000) (hz3 : vs.length ≤ 5864062014000) (hz4 : us.length ≤ 5864062014000) :
    Calls Try.prog 28 #[l, c] w fun e w' => e = .returned (.bool true) ∧ Mod (fun g => ∃ z ∈ vs ++ us, z.ownBlock = some g) w w' := by
  obtain ⟨lab, hlab, hlab0⟩ := lab_exists (vs ++ us) hs
  have hvs : ∀ j (h : j < vs.length) g, vs[j].ownBlock = some g → lab g = j + 1 := fun j h g hg => hlab j (by rw [List.length_append]; omega) g (by rw [List.getElem_append_left h]; exact hg)
  have hus : ∀ j (h : j < us.length) g, us[j].ownBlock = some g → lab g = vs.length + j + 1 := fun j h g hg => hlab (vs.length + j) (by rw [List.length_append]; omega) g (by rw [List.getElem_append_right (by omega)]; simpa using hg)
  have hlt : ∀ z ∈ vs ++ us, ∀ g, z.ownBlock = some g → g < w.heap.size := fun z hz g hg => by
    rcases List.mem_append.1 hz with h | h
    · obtain ⟨j, hj, rfl⟩ := List.mem_iff_getElem.1 h
      obtain ⟨cs, h1⟩ := hv j hj
      exact (h1.lt g hg).2
    · obtain ⟨j, hj, rfl⟩ := List.mem_iff_getElem.1 h
      obtain ⟨cs, h1⟩ := hu j hj
      exact (h1.lt g hg).2
  refine (apart_any lab l c vs.length us.length vs us ln lb w hvl hcl (fun g hg => hlab0 g (hl0 g hg)) (fun g hg => hlab0 g (hc0 g hg)) hv hu (fun j h g hg => ?_) (fun j h g hg => ?_) (fun j h => ?_) (fun j h => ?_) ?_ ?_ (fun g hg => hlab0 g (fun z hz e => by have := hlt z hz g e; omega))).mono ?_
  · exact ⟨hlt _ (List.mem_append_left _ (List.getElem_mem h)) g hg, by rw [hvs j h g hg]; omega⟩
  · exact ⟨hlt _ (List.mem_append_right _ (List.getElem_mem h)) g hg, by rw [hus j h g hg]; omega⟩
  · have := hz1 j h; omega
  · have := hz2 j h; omega
  · exact Lib.hid (by omega)
  · exact Lib.hid (by omega)
  · rintro e w' ⟨he, m⟩
    refine ⟨he, m.mono (fun q _ hq => ?_)⟩
    by_cases h : ∃ z ∈ vs ++ us, z.ownBlock = some q
    · exact h
    · exact absurd (hlab0 q (fun z hz e => h ⟨z, hz, e⟩)) hq
theorem apart_own (l c : Value) (vs us : List Value) (w : World) (hvl : ReadR 1 w l vs.length vs) (hcl : ReadR 1 w c us.length us)
    (hs : Sep (vs ++ us)) (hl0 : ∀ g, l.ownBlock = some g → ∀ z ∈ vs ++ us, z.ownBlock ≠ some g) (hc0 : ∀ g, c.ownBlock = some g → ∀ z ∈ vs ++ us, z.ownBlock ≠ some g)
    (hv : ∀ z ∈ vs, ∃ n cs, n ≤ 35184372088000 ∧ OwnR 27 1 w 0 z n cs) (hu : ∀ z ∈ us, ∃ n cs, n ≤ 4398046511000 ∧ OwnR 64 2 w 0 z n cs)
    (hz3 : vs.length ≤ 5864062014000) (hz4 : us.length ≤ 5864062014000) :
    Calls Try.prog 28 #[l, c] w fun e w' => e = .returned (.bool true) ∧ Mod (fun g => ∃ z ∈ vs ++ us, z.ownBlock = some g) w w' := by
  have e1 : ∀ j, ∃ n, ∀ (h : j < vs.length), n ≤ 35184372088000 ∧ ∃ cs, OwnR 27 1 w 0 vs[j] n cs := fun j => by
    by_cases h : j < vs.length
    · obtain ⟨n, cs, h1, h2⟩ := hv _ (List.getElem_mem h)
      exact ⟨n, fun _ => ⟨h1, cs, h2⟩⟩
    · exact ⟨0, fun h2 => absurd h2 h⟩
  have e2 : ∀ j, ∃ n, ∀ (h : j < us.length), n ≤ 4398046511000 ∧ ∃ cs, OwnR 64 2 w 0 us[j] n cs := fun j => by
    by_cases h : j < us.length
    · obtain ⟨n, cs, h1, h2⟩ := hu _ (List.getElem_mem h)
      exact ⟨n, fun _ => ⟨h1, cs, h2⟩⟩
    · exact ⟨0, fun h2 => absurd h2 h⟩
  exact apart_ownF l c vs us (fun j => Classical.choose (e1 j)) (fun j => Classical.choose (e2 j)) w hvl hcl hs hl0 hc0 (fun j h => (Classical.choose_spec (e1 j) h).2) (fun j h => (Classical.choose_spec (e2 j) h).2) (fun j h => (Classical.choose_spec (e1 j) h).1) (fun j h => (Classical.choose_spec (e2 j) h).1) hz3 hz4
theorem Dealt.ownR {w : World} {N L : Nat} {lv : Value} {bs : List (Nat × Value)} {cs : List (Nat × List Nat)} (h : Dealt w N lv bs cs) (hb : ∀ c ∈ cs, c.2.length ≤ L) : ∀ z ∈ bs.map (·.2), ∃ n cs', n ≤ L ∧ OwnR 27 1 w 0 z n cs' := fun z hz => by
  obtain ⟨b, hb2, rfl⟩ := List.mem_map.1 hz
  obtain ⟨j, hj, rfl⟩ := List.mem_iff_getElem.1 hb2
  have hj2 : j < cs.length := by have := h.1; omega
  exact ⟨_, _, hb _ (List.getElem_mem hj2), ((h.2.1 j hj2).2.1.toR).mono (Nat.zero_le _)⟩
theorem Dealt.lt {w : World} {N : Nat} {lv : Value} {bs : List (Nat × Value)} {cs : List (Nat × List Nat)} (h : Dealt w N lv bs cs) : ∀ z ∈ bs.map (·.2), ∀ g, z.ownBlock = some g → N ≤ g ∧ g < w.heap.size := fun z hz g hg => by
  obtain ⟨b, hb2, rfl⟩ := List.mem_map.1 hz
  obtain ⟨j, hj, rfl⟩ := List.mem_iff_getElem.1 hb2
  exact (h.2.1 j (by have := h.1; omega)).2.1.lt g hg
theorem Dealt.form {w : World} {N : Nat} {lv : Value} {bs : List (Nat × Value)} {cs : List (Nat × List Nat)} (h : Dealt w N lv bs cs) : ∀ b ∈ bs, ∃ ad n c, b.2 = .slice ad n c := fun b hb => by
  obtain ⟨j, hj, rfl⟩ := List.mem_iff_getElem.1 hb
  obtain ⟨ad, cp, e, _⟩ := (h.2.1 j (by have := h.1; omega)).2.1.shape
  exact ⟨_, _, _, e⟩
theorem Dealt.one {w : World} {N : Nat} {lv : Value} {bs : List (Nat × Value)} {cs : List (Nat × List Nat)} (h : Dealt w N lv bs cs) : ∀ u ∈ bs.map (·.2), u.oneCell' = true := fun u hu => by
  obtain ⟨b, hb, rfl⟩ := List.mem_map.1 hu
  obtain ⟨ad, n, c, e⟩ := h.form b hb
  rw [e]
  simp [Value.oneCell']
theorem readR_pair (W : World) (g : Nat) (va vb : Value) (t : TypeId) (h : W.heap[g]? = some (.cells #[va, vb] t (0, 0))) : ReadR 1 W (.slice (some ⟨g, 0, none⟩) 2 2) 2 [va, vb] := by
  refine ⟨rfl, _, 2, rfl, by decide, fun _ => ⟨g, 0, rfl, heap_lt h, fun i hi => ?_⟩⟩
  rw [heap_cell h]
  match i, hi with
  | 0, _ => rfl
  | 1, _ => rfl
/-- a row of any one-cell elements as what is appended -/
theorem src_read (tyS ty : TypeId) (ht : Try.prog.underlying tyS = some (.slice ty)) (sz : Nat) {W : World} {v : Value} {n : Nat} {cs : List Value} (h : ReadR sz W v n cs) (h1 : ∀ u ∈ cs, u.oneCell' = true) : Src Try.prog sz tyS v n cs W := by
  obtain ⟨h0, ad, c, rfl, h2, h3⟩ := h
  rcases Nat.eq_zero_or_pos n with e | e
  · subst e
    have e2 : cs = [] := List.eq_nil_of_length_eq_zero (by rw [h0]; simp)
    subst e2
    cases ad with
    | none => exact Src.ofNil _ ht c
    | some A => exact Src.ofSlice _ ht A 0 c [] (by simp) (fun j u hu => by simp at hu) (fun u hu => by simp at hu)
  · obtain ⟨b, o, rfl, _, hc⟩ := h3 e
    refine Src.ofSlice _ ht ⟨b, o, none⟩ n c cs h0 (fun j u hu => ?_) h1
    obtain ⟨hj, rfl⟩ := List.getElem?_eq_some_iff.1 hu
    have hadd : (⟨b, o, none⟩ : Addr).add j = ⟨b, o + j, none⟩ := Addr.add_lit _ _ _
    rw [hadd]
    exact hc j hj
theorem wp_appR (tyS ty : TypeId) (i : TypeInfo) (z : Value) (sz bytes : Nat) (ht : Try.prog.underlying tyS = some (.slice ty)) (hi : Try.prog.info? ty = some i) (hz0 : i.zero = some z) (hz1 : i.size = sz) (hz2 : i.bytes = bytes) (hzs : z.cells.size = sz) (hby : 1 ≤ bytes)
    {o : Oper} {a : Act} {K : Act → World → Prop} {Q : Exit → Act → World → Prop} (W : World) (s y : Operand)
    (ho : o.op = .call { callee := .builtin .append, args := #[s, y], argTypes := #[tyS, tyS] })
    (B : Nat) (v : Value) (n : Nat) (cs : List Value) (hs : a.eval s = v) (hown : OwnR ty sz W B v n cs) (yv : Value) (hy : a.eval y = yv) (m : Nat) (ns : List Value) (hsrc : Src Try.prog sz tyS yv m ns W)
    (hlen : (n + m) * bytes ≤ 140737488355328) (hB : B ≤ W.heap.size)
    (h : ∀ v' w', OwnR ty sz w' B v' (n + m) (cs ++ ns) → Grew W v n m v' w' → K (a.put o.dst v') w') :
    o.wp Try.prog a W K Q := by
  obtain ⟨v', w', hr, h1, h2⟩ := run_appR tyS ty i z sz bytes ht hi hz0 hz1 hz2 hzs hby W B v n cs hown yv m ns o.type hsrc hlen hB
  unfold Oper.wp execOp
  simp only [ho, resolve, invoke, builtin, Sem.run_bind, Sem.run_pure, Result.andThen_ok, List.map_toArray, List.map_cons, List.map_nil, hs, hy, hr]
  exact h v' w' h1 h2
/-- the lists of two chains of the call's own share no memory -/
theorem sep_two {w : World} {lv1 lv2 : Value} {b1 b2 b1' b2' : List (Nat × Value)} {c1 c2 : List (Nat × List Nat)} {N1 N2 : Nat} (h1 : Dealt w N1 lv1 b1 c1) (o1 : OwnC w N1 lv1 b1') (h2 : Dealt w N2 lv2 b2 c2) (o2 : OwnC w N2 lv2 b2') (hz1 : ∀ z ∈ lv1 :: b1.map (·.2), ∀ g, z.ownBlock = some g → g < N2) : Sep ((b1.map (·.2) ++ b2.map (·.2)) ++ [lv1, lv2]) := by
  have hb1 := h1.1
  have hb2 := h2.1
  have lo2 : ∀ z ∈ lv2 :: b2.map (·.2), ∀ g, z.ownBlock = some g → N2 ≤ g := fun z hz g hg => by
    rcases List.mem_cons.1 hz with rfl | hz
    · exact (o2.lt g hg).1
    · obtain ⟨b, hb, rfl⟩ := List.mem_map.1 hz
      obtain ⟨j, hj, rfl⟩ := List.mem_iff_getElem.1 hb
      exact ((h2.2.1 j (by omega)).2.1.lt g hg).1
  have e1 : (b1.map (·.2)).length = c1.length := by rw [List.length_map]; exact hb1
  have e2 : (b2.map (·.2)).length = c2.length := by rw [List.length_map]; exact hb2
  -- a value by its place
  have at1 : ∀ i (h : i < c1.length) (h' : i < ((b1.map (·.2) ++ b2.map (·.2)) ++ [lv1, lv2]).length), ((b1.map (·.2) ++ b2.map (·.2)) ++ [lv1, lv2])[i] = (b1[i]).2 := fun i h h' => by
    rw [List.getElem_append_left (by rw [List.length_append]; omega), List.getElem_append_left (by omega), List.getElem_map]
  have at2 : ∀ i (h : i < c2.length) (h' : c1.length + i < ((b1.map (·.2) ++ b2.map (·.2)) ++ [lv1, lv2]).length), ((b1.map (·.2) ++ b2.map (·.2)) ++ [lv1, lv2])[c1.length + i] = (b2[i]).2 := fun i h h' => by
    rw [List.getElem_append_left (by rw [List.length_append]; omega), List.getElem_append_right (by omega), List.getElem_map]
    simp [e1]
  have at3 : ∀ (h' : c1.length + c2.length < ((b1.map (·.2) ++ b2.map (·.2)) ++ [lv1, lv2]).length), ((b1.map (·.2) ++ b2.map (·.2)) ++ [lv1, lv2])[c1.length + c2.length] = lv1 := fun h' => by
    rw [List.getElem_append_right (by rw [List.length_append]; omega)]
    simp [e1, e2]
  have at4 : ∀ (h' : c1.length + c2.length + 1 < ((b1.map (·.2) ++ b2.map (·.2)) ++ [lv1, lv2]).length), ((b1.map (·.2) ++ b2.map (·.2)) ++ [lv1, lv2])[c1.length + c2.length + 1] = lv2 := fun h' => by
    rw [List.getElem_append_right (by rw [List.length_append]; omega)]
    simp [e1, e2]
  intro i j hi hj hij g hgi hgj
  have hlen : ((b1.map (·.2) ++ b2.map (·.2)) ++ [lv1, lv2]).length = c1.length + c2.length + 2 := by rw [List.length_append, List.length_append, e1, e2]; rfl
  have kind : ∀ k (hk : k < ((b1.map (·.2) ++ b2.map (·.2)) ++ [lv1, lv2]).length), k < c1.length ∨ (∃ m, m < c2.length ∧ k = c1.length + m) ∨ k = c1.length + c2.length ∨ k = c1.length + c2.length + 1 := fun k hk => by
    by_cases h3 : k < c1.length
    · exact .inl h3
    · by_cases h4 : k < c1.length + c2.length
      · exact .inr (.inl ⟨k - c1.length, by omega, by omega⟩)
      · omega
  have lowOf : ∀ k (hk : k < c1.length), (b1[k]).2 ∈ lv1 :: b1.map (·.2) := fun k hk => List.mem_cons_of_mem _ (List.mem_map.2 ⟨_, List.getElem_mem _, rfl⟩)
  have hiOf : ∀ k (hk : k < c2.length), (b2[k]).2 ∈ lv2 :: b2.map (·.2) := fun k hk => List.mem_cons_of_mem _ (List.mem_map.2 ⟨_, List.getElem_mem _, rfl⟩)
  have L1 : ∀ z, z ∈ lv1 :: b1.map (·.2) → z.ownBlock = some g → g < N2 := fun z hz hg => hz1 z hz g hg
  have L2 : ∀ z, z ∈ lv2 :: b2.map (·.2) → z.ownBlock = some g → N2 ≤ g := fun z hz hg => lo2 z hz g hg
  rcases kind i hi with hi1 | ⟨m, hm, rfl⟩ | rfl | rfl
  · rw [at1 i hi1 hi] at hgi
    rcases kind j hj with hj1 | ⟨n, hn, rfl⟩ | rfl | rfl
    · rw [at1 j hj1 hj] at hgj
      exact h1.2.2 i j hi1 hj1 hij g hgi hgj
    · rw [at2 n hn hj] at hgj
      have := L1 _ (lowOf i hi1) hgi; have := L2 _ (hiOf n hn) hgj; omega
    · rw [at3 hj] at hgj
      exact (h1.2.1 i hi1).2.2 g hgi hgj
    · rw [at4 hj] at hgj
      have := L1 _ (lowOf i hi1) hgi; have := L2 _ (List.mem_cons_self ..) hgj; omega
  · rw [at2 m hm hi] at hgi
    rcases kind j hj with hj1 | ⟨n, hn, rfl⟩ | rfl | rfl
    · omega
    · rw [at2 n hn hj] at hgj
      exact h2.2.2 m n hm hn (by omega) g hgi hgj
    · rw [at3 hj] at hgj
      have := L2 _ (hiOf m hm) hgi; have := L1 _ (List.mem_cons_self ..) hgj; omega
    · rw [at4 hj] at hgj
      exact (h2.2.1 m hm).2.2 g hgi hgj
  · rcases kind j hj with hj1 | ⟨n, hn, rfl⟩ | rfl | rfl
    · omega
    · omega
    · omega
    · rw [at3 hi] at hgi
      rw [at4 hj] at hgj
      have := L1 _ (List.mem_cons_self ..) hgi; have := L2 _ (List.mem_cons_self ..) hgj; omega
  · rcases kind j hj with hj1 | ⟨n, hn, rfl⟩ | rfl | rfl <;> omega
end Go.Proofs.Ytkngmnfgdlnddaa

