/-
  Counts of numbers as maps; the walk of set's closure. The walk of set, over numbers that stand once. The plain law of what a plan takes; a number in a list, told by the same world. The plain law of FreeLost: what is owned, listed, taken and released is the same ahead of a commit and behind it.
-/
import Derived.Test.YtkngmnfgdlnddaaGJ
import Derived.Test.YtkngmnfgdlnddaaGI
set_option linter.unusedSimpArgs false
set_option linter.unusedVariables false
namespace Go.Proofs.Ytkngmnfgdlnddaa
open Go.RowKit Go.Lib Hw Go.Maps
set_option linter.unusedSimpArgs false
set_option linter.unusedVariables false

/-- a map that tells a count of each number -/
def CntM (w : World) (b n : Nat) (m : Nat → Nat) : Prop :=
  ∃ D : DataW Unit, w.ownsMap Try.prog 27 (plainElem Try.prog 3) b n D ∧ (IsMap D ∧ Maps.size D = n) ∧ ∀ x : Nat, x < 4294967296 → D.atKey (.int .u32 (x : Int)) (.lit (.int .i64 0)) = .lit (.int .i64 (m x : Int)) ∧ has D (.int .u32 (x : Int)) = decide (0 < m x)
theorem CntM.made (w : World) : CntM (w.alloc (.map #[] 0)) w.heap.size 0 (fun _ => 0) :=
  ⟨.map [], World.ownsMap_made w _ _ _, ⟨isMap_empty, rfl⟩, fun x hx => ⟨rfl, rfl⟩⟩
theorem CntM.lt {w : World} {b n : Nat} {m : Nat → Nat} (h : CntM w b n m) : b < w.heap.size := by
  obtain ⟨D, h1, _⟩ := h
  exact h1.lt
theorem CntM.heap {w w' : World} {b n : Nat} {m : Nat → Nat} (h : CntM w b n m) (e : w'.heap[b]? = w.heap[b]?) : CntM w' b n m := by
  obtain ⟨D, ⟨es, clock, hb, r⟩, h2⟩ := h
  exact ⟨D, ⟨es, clock, e.trans hb, r⟩, h2⟩
theorem CntM.mod {w w' : World} {S : Nat → Prop} {b n : Nat} {m : Nat → Nat} (h : CntM w b n m) (hm : Mod S w w') (hS : ¬ S b) : CntM w' b n m := h.heap (hm.block b h.lt hS)
theorem CntM.below {w w' : World} {b n : Nat} {m : Nat → Nat} (h : CntM w b n m) (hb : Below w.heap.size w w') : CntM w' b n m := h.heap (hb.block b h.lt)
theorem CntM.congr {w : World} {b n : Nat} {m m' : Nat → Nat} (h : CntM w b n m) (e : ∀ x, x < 4294967296 → m x = m' x) : CntM w b n m' := by
  obtain ⟨D, h1, h2, h3⟩ := h
  exact ⟨D, h1, h2, fun x hx => by rw [← e x hx]; exact h3 x hx⟩
/-- m[x] -/
theorem CntM.look {w : World} {b n : Nat} {m : Nat → Nat} (h : CntM w b n m) (y : Nat) (hy : y < 4294967296) : (Instr.lookup 60 (.map (some b)) (.int .u32 (y : Int)) false).run Try.prog w = .ok (.int .i64 (m y : Int)) w := by
  obtain ⟨D, h1, h2, h3⟩ := h
  obtain ⟨c, hrun, hat, _⟩ := h1.lookup_int keyed_u Try.underlying60 Try.underlying3 (zero_i w) (key_u y hy)
  rw [(h3 y hy).1] at hat
  have e2 : (m y : Int) = c := (Lit.int.inj (DataW.lit.inj hat)).2
  rw [e2]
  exact hrun
/-- m[x] = v -/
theorem wpList_putN {ops : Array Oper} {rest : List Oper} {o : Oper} {a : Act} {w : World} {Q : Exit → Act → World → Prop} (hg : o.guard = none) (p x v : Operand) (hop : o.op = Op.mapUpdate 60 p x v) {b n : Nat} {m : Nat → Nat} (h : CntM w b n m) (hn : n < 9223372036854775807) (hm : a.eval p = .map (some b)) (y : Nat) (hy : y < 4294967296) (hx : a.eval x = .int .u32 (y : Int)) (hv : a.eval v = .int .i64 1) (hy0 : m y = 0)
    (hK : ∀ w', CntM w' b (n + 1) (fun z => if z = y then 1 else m z) → Mod (fun k => k = b) w w' → wpList Try.prog ops Q rest (a.put o.dst undef) w') : wpList Try.prog ops Q (o :: rest) a w := by
  obtain ⟨D, h1, h2, h3⟩ := h
  refine wpList_mapUpdate_own w hg p x v 60 hop 27 3 keyed_u Try.underlying60 _ b n D hm h1 (by unfold maxLen; omega) _ _ _ hx hv (key_u y hy) _ [] (plainElem_int Try.underlying3 (by decide)) (fun w' r1 r2 => ?_)
  have hno : has D (.int .u32 (y : Int)) = false := by rw [(h3 y hy).2, hy0]; rfl
  refine hK w' ⟨_, r1, ⟨h2.1.put _ _, by rw [size_put (h1.tidy keyed_u), hno, h2.2]; rfl⟩, fun z hz => ?_⟩ (Mod.grown r2 (fun k e => (Option.some.inj e).symm))
  show _ = DataW.lit (.int .i64 ((if z = y then 1 else m z : Nat) : Int)) ∧ _ = decide (0 < (if z = y then 1 else m z))
  by_cases e : z = y
  · subst e
    rw [if_pos rfl]
    exact ⟨atKey_put_same h2.1 (keyed_u.key (key_u z hz)) _ _, has_put_same h2.1 (keyed_u.key (key_u z hz)) _⟩
  · rw [if_neg e, ← (h3 z hz).1, ← (h3 z hz).2]
    exact ⟨atKey_put_other (lit_ne e) _ _, has_put_other (lit_ne e) _⟩
set_option maxHeartbeats 1000000 in
theorem count_any (w : World) (b mb ob n : Nat) (m : Nat → Nat) (no : Nat) (h : Hid (CntM w b n m)) (hn : n < 9223372036854775807) (hno : no < 4294967296) (hm0 : m no = 0) (hmb : Hid (w.heap[mb]? = some (.cells #[.map (some b)] 60 (0, 0)))) (hob : Hid (w.heap[ob]? = some (.cells #[.bool true] 4 (0, 0)))) (hne : b ≠ ob) (hne2 : b ≠ mb) :
    Calls Try.prog 74 #[.int .u32 (no : Int), .pointer (some ⟨mb, 0, none⟩), .pointer (some ⟨ob, 0, none⟩)] w fun e w' => CntM w' b (n + 1) (fun z => if z = no then 1 else m z) ∧ Mod (fun k => k = b ∨ k = ob) w w' ∧ w'.heap[ob]? = some (.cells #[.bool true] 4 (0, 0)) ∧ e = .returned (.tuple #[]) := by
  have c0 := heap_cell hmb.out (o := 0)
  have l0 := h.out.look no hno
  rw [hm0] at l0
  go_enter Try.func74, Try.ntmps74
  go_upto_region 0 with fail
  with_reducible refine wp_region_list ?_
  (with_reducible refine wpList_plain rfl ?_); intro K hK; go_simp; (with_reducible refine hK _ _ ?_); clear hK K; try simp only [Act.put, nA, nB, nC]
  (with_reducible refine wpList_plain rfl ?_); intro K hK; go_simp; (with_reducible refine hK _ _ ?_); clear hK K; try simp only [Act.put, nA, nB, nC]
  (with_reducible refine wpList_plain rfl ?_); intro K hK; go_simp; (with_reducible refine hK _ _ ?_); clear hK K; try simp only [Act.put, nA, nB, nC]
  (with_reducible refine wpList_plain rfl ?_); intro K hK; go_simp; (with_reducible refine hK _ _ ?_); clear hK K; try simp only [Act.put, nA, nB, nC]
  refine wpList_putN rfl _ _ _ rfl h.out hn rfl no hno rfl rfl hm0 (fun w2 h2 m2 => ?_)
  (try simp only [Act.put, nA, nB, nC])
  have H2 := Lib.hid h2
  have H3 := Lib.hid h2
  have M2 := Lib.hid m2
  have MB2 := Lib.hid (m2.heap hmb.out (fun e => hne2 e.symm))
  have OB2 := Lib.hid (m2.heap hob.out (fun e => hne e.symm))
  clear h2 m2 c0 l0
  have c1 := heap_cell OB2.out (o := 0)
  have f1 := heap_free OB2.out 0
  have c0 := heap_cell MB2.out (o := 0)
  have l2 := H2.out.look no hno
  rw [if_pos rfl] at l2
  clear h hmb hob H2
  go_upto_region 1 with fail
  with_reducible refine wp_region_list ?_
  (with_reducible refine wpList_plain rfl ?_); intro K hK; go_simp; (with_reducible refine hK _ _ ?_); clear hK K; try simp only [Act.put, nA, nB, nC]
  (with_reducible refine wpList_plain rfl ?_); intro K hK; go_simp; (with_reducible refine hK _ _ ?_); clear hK K; try simp only [Act.put, nA, nB, nC]
  (with_reducible refine wpList_step ?_); intro K hK; rw [if_pos (by rfl)]; go_simp; (with_reducible refine hK _ _ ?_); clear hK K; try simp only [Act.put, nA, nB, nC]
  (with_reducible refine wpList_step ?_); intro K hK; rw [if_pos (by rfl)]; go_simp; (with_reducible refine hK _ _ ?_); clear hK K; try simp only [Act.put, nA, nB, nC]
  (with_reducible refine wpList_step ?_); intro K hK; rw [if_pos (by rfl)]; go_simp; (with_reducible refine hK _ _ ?_); clear hK K; try simp only [Act.put, nA, nB, nC]
  (with_reducible refine wpList_step ?_); intro K hK; rw [if_pos (by rfl)]; go_simp; (with_reducible refine hK _ _ ?_); clear hK K; try simp only [Act.put, nA, nB, nC]
  (with_reducible refine wpList_plain rfl ?_); intro K hK; go_simp; (with_reducible refine hK _ _ ?_); clear hK K; try simp only [Act.put, nA, nB, nC]
  (with_reducible refine wpList_plain rfl ?_); intro K hK; go_simp; (with_reducible refine hK _ _ ?_); clear hK K; try simp only [Act.put, nA, nB, nC]
  have H4 : Hid (w2.heap[ob]? = some (.cells #[.bool true] 4 (0, 0))) := OB2.out
  have hh : (w2.setCell ⟨ob, 0, none⟩ (.bool true)).heap[ob]? = some (.cells #[.bool true] 4 (0, 0)) := heap_set (o := 0) OB2.out (.bool true)
  have mm := Mod.set (S := fun k => k = ob) (o := 0) w2 rfl (.bool true)
  have HC := H3.out.mod mm hne
  have HM : Mod (fun k => k = b ∨ k = ob) w (w2.setCell ⟨ob, 0, none⟩ (.bool true)) := (M2.out.mono (fun k _ e => .inl e)).then (mm.mono (fun k _ e => .inr e))
  have HHH := Lib.hid hh
  have HCC := Lib.hid HC
  have HMM := Lib.hid HM
  clear hh mm HC HM c0 c1 f1 l2 H3 M2 MB2 OB2 H4
  go_wp2_with fail
  go_end0
  exact ⟨HCC.out, HMM.out, HHH.out, rfl⟩
/-- one more number, counted -/
def oneF (acc : List Nat) (z : Nat) : Nat := if acc.contains z then 1 else 0
theorem CntM.cons {w : World} {b n y : Nat} {acc : List Nat} (h : CntM w b n (fun z => if z = y then 1 else oneF acc z)) : CntM w b n (oneF (acc ++ [y])) := h.congr (fun x _ => by
  unfold oneF
  by_cases e : x = y
  · subst e; simp
  · by_cases h2 : x ∈ acc <;> simp [e, h2])
theorem oneF_no {acc : List Nat} {y : Nat} (h : y ∉ acc) : oneF acc y = 0 := by
  unfold oneF
  rw [if_neg (by simpa using h)]
/-- the maps and cells that set keeps -/
structure SI (w : World) (N g mb ob : Nat) (acc : List Nat) (wr : World) : Prop where
  c : CntM wr g acc.length (oneF acc)
  m : wr.heap[mb]? = some (.cells #[.map (some g)] 60 (0, 0))
  o : wr.heap[ob]? = some (.cells #[.bool true] 4 (0, 0))
  b : Below N w wr
  h : N ≤ g ∧ N ≤ mb ∧ N ≤ ob ∧ g ≠ mb ∧ g ≠ ob ∧ mb ≠ ob
theorem SI.put {w wr w' : World} {N g mb ob y : Nat} {acc : List Nat} (h : SI w N g mb ob acc wr) (hc : CntM w' g (acc.length + 1) (fun z => if z = y then 1 else oneF acc z)) (hm : Mod (fun k => k = g ∨ k = ob) wr w') (ho : w'.heap[ob]? = some (.cells #[.bool true] 4 (0, 0))) : SI w N g mb ob (acc ++ [y]) w' := by
  refine ⟨?_, hm.heap h.m (fun e => ?_), ho, h.b.trans (hm.below (n := N) (fun k hk e => ?_) ?_), h.h⟩
  · rw [List.length_append, List.length_singleton]
    exact hc.cons
  · rcases e with e | e
    · exact h.h.2.2.2.1 e.symm
    · exact h.h.2.2.2.2.2 e
  · have := h.h
    rcases e with e | e <;> omega
  · have := h.c.lt
    have := h.h
    omega
end Go.Proofs.Ytkngmnfgdlnddaa

namespace Go.Proofs.Ytkngmnfgdlnddaa
open Go.RowKit Go.Lib Hw Go.Maps
set_option linter.unusedSimpArgs false
set_option linter.unusedVariables false

theorem nd_mid {L acc rest : List Nat} {y : Nat} (h : L.Nodup) (hl : L.length < 9223372036854775807) (e : L = acc ++ y :: rest) : oneF acc y = 0 ∧ acc.length < 9223372036854775807 := by
  subst e
  refine ⟨oneF_no (fun hm => (List.nodup_append.1 h).2.2 y hm y (List.mem_cons_self ..) rfl), ?_⟩
  rw [List.length_append] at hl
  omega
theorem mid1 (A B X ys t d : List Nat) (p y : Nat) (h : ys = t ++ y :: d) : (A ++ (p :: ys ++ B)) ++ X = (A ++ (p :: t)) ++ y :: (d ++ B ++ X) := by subst h; simp
theorem mid2 (A X t d : List Nat) (y : Nat) (h : X = t ++ y :: d) : A ++ X = (A ++ t) ++ y :: d := by subst h; simp
set_option maxRecDepth 5000 in
set_option maxHeartbeats 8000000 in
theorem set_any (v xv : Value) (b mo mc : Nat) (cs : List (Nat × List Nat)) (xs : List Nat) (w : World) (hv : Hid (CRow w v cs)) (hx : Hid (URow w xv xs)) (hmx : Hid (w.cell? ⟨mo, 0, none⟩ = some xv)) (hnd : Hid ((flat cs ++ xs).Nodup)) (hln : Hid ((flat cs ++ xs).length < 9223372036854775807)) :
    Calls Try.prog 36 #[v, .slice (some ⟨mo, 0, none⟩) 1 mc] w fun e w' => ∃ g, e = .returned (.tuple #[.map (some g), .bool true]) ∧ w.heap.size ≤ g ∧ CntM w' g (flat cs ++ xs).length (oneF (flat cs ++ xs)) ∧ Below w.heap.size w w' := by
  obtain ⟨cad, cc, hcv, hx1⟩ := hv.out.form
  obtain ⟨xad, xc, hxv, hx2, hx3⟩ := hx.out.form
  clear hx1 hx2 hx3
  subst hcv hxv
  obtain ⟨N, hN⟩ : ∃ N, w.heap.size = N := ⟨_, rfl⟩
  have HN := Lib.hid hN
  have hmm := @run_makeMap Try.prog
  obtain ⟨nc, hnc⟩ : ∃ k, cs.length = k := ⟨_, rfl⟩
  obtain ⟨nx, hnx⟩ : ∃ k, xs.length = k := ⟨_, rfl⟩
  have HNC := Lib.hid hnc
  have HNX := Lib.hid hnx
  rw [hN]
  rw [hnc] at hv ⊢
  rw [hnx] at hx hmx
  clear hnc hnx hN
  go_enter Try.func36, Try.ntmps36
  go_upto_region 1 with fail
  with_reducible refine wp_region_list ?_
  (with_reducible refine wpList_plain rfl ?_); intro K hK; go_simp; (with_reducible refine hK _ _ ?_); clear hK K; try simp only [Act.put, nA, nB, nC]
  (with_reducible refine wpList_plain rfl ?_); intro K hK; go_simp; (with_reducible refine hK _ _ ?_); clear hK K; try simp only [Act.put, nA, nB, nC]
  (with_reducible refine wpList_plain rfl ?_); intro K hK; go_simp; (with_reducible refine hK _ _ ?_); clear hK K; try simp only [Act.put, nA, nB, nC]
  rw [HN.out]
  obtain ⟨w2, hw2⟩ : ∃ W, (w.alloc (.map #[] 0)).alloc (.cells #[.map (some N)] 60) = W := ⟨_, rfl⟩
  have z2 : w2.heap.size = N + 2 := by rw [← hw2]; simp only [World.size_alloc]; have := HN.out; omega
  have c2 : CntM w2 N 0 (fun _ => 0) := by
    have h1 := CntM.made w
    rw [HN.out] at h1
    rw [← hw2]
    exact h1.mod (Mod.of (fun _ => False) ((Below.refl _ _).alloc (Nat.le_refl _) _)) (fun h => h)
  have v2 : w2.heap[N + 1]? = some (.cells #[.map (some N)] 60 (0, 0)) := by
    have h1 := heap_alloc_new (w.alloc (.map #[] 0)) (.cells #[.map (some N)] 60)
    rw [World.size_alloc, HN.out] at h1
    rw [← hw2]
    exact h1
  have b2 : Below N w w2 := by rw [← hw2, ← HN.out]; exact ((Below.refl _ _).alloc (Nat.le_refl _) _).alloc (by simp only [World.size_alloc]; omega) _
  rw [hw2]
  clear hw2 hmm
  go_upto_region 2 with fail
  with_reducible refine wp_region_list ?_
  (with_reducible refine wpList_plain rfl ?_); intro K hK; go_simp; (with_reducible refine hK _ _ ?_); clear hK K; try simp only [Act.put, nA, nB, nC]
  (with_reducible refine wpList_plain rfl ?_); intro K hK; go_simp; (with_reducible refine hK _ _ ?_); clear hK K; try simp only [Act.put, nA, nB, nC]
  obtain ⟨w3, hw3⟩ : ∃ W, w2.alloc (.cells #[.bool true] 4) = W := ⟨_, rfl⟩
  have b3 : Below w2.heap.size w2 w3 := by rw [← hw3]; exact (Below.refl _ _).alloc (Nat.le_refl _) _
  have o3 : w3.heap[N + 2]? = some (.cells #[.bool true] 4 (0, 0)) := by
    have h1 := heap_alloc_new w2 (.cells #[.bool true] 4)
    rw [z2] at h1
    rw [← hw3]
    exact h1
  have S3 : Hid (SI w N N (N + 1) (N + 2) (flat (cs.take 0)) w3) := ⟨(c2.below b3).congr (fun x _ => by simp [oneF, flat]), heap_below v2 b3 (by omega), o3, b2.trans (b3.mono (by omega)), by omega, by omega, by omega, by omega, by omega, by omega⟩
  rw [hw3]
  clear hw3 z2 c2 v2 b2 b3 o3
  have hmf : ∀ (fn : Fn) (first cap : Array Value) (w : World), (Instr.makeFunc fn first cap).run Try.prog w = .ok (.func fn first cap) w := fun _ _ _ _ => rfl
  go_upto_region 5 with fail
  clear hmf
  go_loopw [9] (fun iv wr => ∃ (k : Nat), k ≤ nc ∧ Hid (SI w N N (N + 1) (N + 2) (flat (cs.take k)) wr) ∧ iv = .int .i64 (k : Int)) (fun iv _ => nc - (intOf iv).toNat)
  case atStart => exact ⟨0, Nat.zero_le _, S3, rfl⟩
  case round =>
    obtain ⟨k, hk, HS, rfl⟩ := hrel
    by_cases hlt : k < nc
    case pos =>
      have ik : (k : Int) < (nc : Int) := by omega
      have hkx : k < cs.length := by have := HNC.out; omega
      obtain ⟨b1, o1, nad, nc2, e1, r1, u1, pp1⟩ := hv.out.at hkx
      subst e1
      have hfl : flat cs = flat (cs.take k) ++ ((cs[k].1 :: cs[k].2) ++ flat (cs.drop (k + 1))) := by rw [flat_split cs k, flat_drop hkx]
      have hfs : flat (cs.take (k + 1)) = flat (cs.take k) ++ (cs[k].1 :: cs[k].2) := flat_take_succ hkx
      obtain ⟨⟨pg, ys⟩, hx0⟩ : ∃ x, cs[k] = x := ⟨_, rfl⟩
      rw [hx0] at r1 u1 pp1 hfl hfs
      simp only at r1 u1 pp1 hfl hfs
      have HFL := Lib.hid hfl
      have HFS := Lib.hid hfs
      have hbn : b1 < N := by rw [← HN.out]; exact World.block_lt_of_cell? w ⟨b1, o1 + k * 2 + 0, none⟩ (r1 0 _ rfl)
      have f1 := range_block r1 (HS.out.b.block b1 hbn) 0 _ rfl
      unfold uN at f1
      rw [Nat.add_zero] at f1
      obtain ⟨ny, hny⟩ : ∃ n, ys.length = n := ⟨_, rfl⟩
      have HNY := Lib.hid hny
      have R1 := Lib.hid r1
      have HU := Lib.hid u1
      rw [hny] at HU R1
      clear hfl hfs hx0 r1 u1 hny hkx hlt
      obtain ⟨k9, hk9⟩ : ∃ k9 : Nat, k9 = k + 1 := ⟨_, rfl⟩
      have ew1 : (k : Int) + 1 = (k9 : Int) := by omega
      have ew2 : IntKind.i64.wrap (k9 : Int) = (k9 : Int) := IntWalk.i64_in _ (by obtain ⟨_, _, h2, h3⟩ := hv.out.form; have := HNC.out; omega)
      have hk3 : k9 ≤ nc := by omega
      have hk4 : nc - k9 < nc - k := by omega
      have HK9 := Lib.hid hk9
      clear hk9
      have hmid := nd_mid (acc := flat (cs.take k)) (y := pg) (rest := ys ++ flat (cs.drop (k + 1)) ++ xs) hnd.out hln.out (by rw [HFL.out]; simp)
      have HCN := Lib.hid (count_any wr N (N + 1) (N + 2) (flat (cs.take k)).length (oneF (flat (cs.take k))) pg HS.out.c hmid.2 pp1 hmid.1 HS.out.m HS.out.o (by omega) (by omega))
      clear hmid
      go_upto_region 7 with fail
      with_reducible refine wp_region_list ?_
      (with_reducible refine wpList_plain rfl ?_); intro K hK; go_simp; (with_reducible refine hK _ _ ?_); clear hK K; try simp only [Act.put, nA, nB, nC]
      (with_reducible refine wpList_plain rfl ?_); intro K hK; go_simp; (with_reducible refine hK _ _ ?_); clear hK K; try simp only [Act.put, nA, nB, nC]
      (with_reducible refine wpList_plain rfl ?_); intro K hK; go_simp; (with_reducible refine hK _ _ ?_); clear hK K; try simp only [Act.put, nA, nB, nC]
      (with_reducible refine wpList_plain rfl ?_); intro K hK; go_simp; (with_reducible refine hK _ _ ?_); clear hK K; try simp only [Act.put, nA, nB, nC]
      (with_reducible refine wpList_plain rfl ?_); intro K hK; go_simp; (with_reducible refine hK _ _ ?_); clear hK K; try simp only [Act.put, nA, nB, nC]
      (with_reducible refine wpList_plain rfl ?_); intro K hK; go_simp; (with_reducible refine hK _ _ ?_); clear hK K; try simp only [Act.put, nA, nB, nC]
      with_reducible refine wpList_plain rfl ?_
      intro K hK
      go_simp
      (go_at_call 74; refine HCN.out.mono ?_; rintro e w4 ⟨q1, q2, q3, rfl⟩)
      first | with_reducible refine hK _ _ ?_ | refine hK _ _ ?_
      clear hK K
      (try simp only [Act.put, nA, nB, nC])
      have S4 : Hid (SI w N N (N + 1) (N + 2) (flat (cs.take k) ++ (pg :: ys.take 0)) w4) := by rw [List.take_zero]; exact HS.out.put q1 q2 q3
      clear q1 q2 q3 HCN f1
      go_upto_region 9 with fail
      go_loopw [10] (fun iv wr3 => ∃ (i : Nat), i ≤ ny ∧ Hid (SI w N N (N + 1) (N + 2) (flat (cs.take k) ++ (pg :: ys.take i)) wr3) ∧ iv = .int .i64 (i : Int)) (fun iv _ => ny - (intOf iv).toNat)
      case atStart => exact ⟨0, Nat.zero_le _, S4, rfl⟩
      case round =>
        obtain ⟨i, hi, HT, rfl⟩ := hrel
        have f2 := range_block R1.out (HT.out.b.block b1 hbn) 1 _ rfl
        by_cases hlt : i < ny
        case neg =>
          have ii : ¬ (i : Int) < (ny : Int) := by omega
          have ST : Hid (SI w N N (N + 1) (N + 2) (flat (cs.take k9)) wr) := by
            have h := HT.out
            have ht : ys.take i = ys := List.take_of_length_le (by rw [HNY.out]; omega)
            rw [ht, ← HFS.out, ← HK9.out] at h
            exact h
          clear hlt
          go_wp2_with fail
          exact ⟨⟨k9, hk3, ST, rfl⟩, by simp only [intOf, Int.toNat_natCast]; exact hk4⟩
        case pos =>
          have ii : (i : Int) < (ny : Int) := by omega
          have hix : i < ys.length := by have := HNY.out; omega
          obtain ⟨a1, c1, e1, _, g1⟩ := (HU.out.below (by rw [HN.out]; exact HT.out.b)).form
          obtain ⟨b3, o3, e3, hc3⟩ := g1 (by omega)
          have e4 := (Value.slice.inj e1).1
          rw [e3] at e4
          subst e4
          have h1 := hc3 i hix
          have hx4 : ys[i] < 4294967296 := HU.out.1 _ (List.getElem_mem hix)
          have hyd : ys = ys.take i ++ ys[i] :: ys.drop (i + 1) := by rw [← List.drop_eq_getElem_cons hix, List.take_append_drop]
          have hyt : ys.take (i + 1) = ys.take i ++ [ys[i]] := List.take_succ_eq_append_getElem hix
          obtain ⟨y, hy⟩ : ∃ y, ys[i] = y := ⟨_, rfl⟩
          rw [hy] at h1 hx4 hyd hyt
          unfold uN at h1
          have hmid := nd_mid (acc := flat (cs.take k) ++ (pg :: ys.take i)) (y := y) (rest := ys.drop (i + 1) ++ flat (cs.drop (k + 1)) ++ xs) hnd.out hln.out (by rw [HFL.out]; exact mid1 _ _ _ _ _ _ _ _ hyd)
          have HYT := Lib.hid hyt
          obtain ⟨i9, hi9⟩ : ∃ i9 : Nat, i9 = i + 1 := ⟨_, rfl⟩
          have iw1 : (i : Int) + 1 = (i9 : Int) := by omega
          have iw2 : IntKind.i64.wrap (i9 : Int) = (i9 : Int) := IntWalk.i64_in _ (by obtain ⟨_, _, _, h2, _⟩ := HU.out.form; omega)
          have hi3 : i9 ≤ ny := by omega
          have hi4 : ny - i9 < ny - i := by omega
          have HI9 := Lib.hid hi9
          have HCN := Lib.hid (count_any wr N (N + 1) (N + 2) (flat (cs.take k) ++ (pg :: ys.take i)).length (oneF (flat (cs.take k) ++ (pg :: ys.take i))) y HT.out.c hmid.2 hx4 hmid.1 HT.out.m HT.out.o (by omega) (by omega))
          clear hmid hyd hyt hy hi9 hc3 e1 e3 g1 hix hlt
          go_upto_region 11 with fail
          with_reducible refine wp_region_list ?_
          (with_reducible refine wpList_plain rfl ?_); intro K hK; go_simp; (with_reducible refine hK _ _ ?_); clear hK K; try simp only [Act.put, nA, nB, nC]
          (with_reducible refine wpList_plain rfl ?_); intro K hK; go_simp; (with_reducible refine hK _ _ ?_); clear hK K; try simp only [Act.put, nA, nB, nC]
          (with_reducible refine wpList_plain rfl ?_); intro K hK; go_simp; (with_reducible refine hK _ _ ?_); clear hK K; try simp only [Act.put, nA, nB, nC]
          (with_reducible refine wpList_plain rfl ?_); intro K hK; go_simp; (with_reducible refine hK _ _ ?_); clear hK K; try simp only [Act.put, nA, nB, nC]
          (with_reducible refine wpList_plain rfl ?_); intro K hK; go_simp; (with_reducible refine hK _ _ ?_); clear hK K; try simp only [Act.put, nA, nB, nC]
          (with_reducible refine wpList_plain rfl ?_); intro K hK; go_simp; (with_reducible refine hK _ _ ?_); clear hK K; try simp only [Act.put, nA, nB, nC]
          (with_reducible refine wpList_plain rfl ?_); intro K hK; go_simp; (with_reducible refine hK _ _ ?_); clear hK K; try simp only [Act.put, nA, nB, nC]
          (with_reducible refine wpList_plain rfl ?_); intro K hK; go_simp; (with_reducible refine hK _ _ ?_); clear hK K; try simp only [Act.put, nA, nB, nC]
          (with_reducible refine wpList_plain rfl ?_); intro K hK; go_simp; (with_reducible refine hK _ _ ?_); clear hK K; try simp only [Act.put, nA, nB, nC]
          with_reducible refine wpList_plain rfl ?_
          intro K hK
          go_simp
          (go_at_call 74; refine HCN.out.mono ?_; rintro e w5 ⟨q1, q2, q3, rfl⟩)
          first | with_reducible refine hK _ _ ?_ | refine hK _ _ ?_
          clear hK K
          (try simp only [Act.put, nA, nB, nC])
          have S5 : Hid (SI w N N (N + 1) (N + 2) (flat (cs.take k) ++ (pg :: ys.take i9)) w5) := by
            have h := HT.out.put q1 q2 q3
            rw [HI9.out, HYT.out]
            show SI _ _ _ _ _ _ _
            simpa using h
          clear q1 q2 q3 HCN f2 h1 HT
          go_wp2_with fail
          exact ⟨⟨i9, hi3, S5, rfl⟩, by simp only [intOf, Int.toNat_natCast]; exact hi4⟩
    case neg =>
      have ik : ¬ (k : Int) < (nc : Int) := by omega
      have SF : Hid (SI w N N (N + 1) (N + 2) (flat cs ++ xs.take 0) wr) := by
        have h := HS.out
        have ht : cs.take k = cs := List.take_of_length_le (by rw [HNC.out]; omega)
        rw [ht] at h
        show SI _ _ _ _ _ _ _
        rw [List.take_zero, List.append_nil]
        exact h
      have hmn : mo < N := by rw [← HN.out]; exact World.block_lt_of_cell? w ⟨mo, 0, none⟩ hmx.out
      clear hlt HS S3
      go_upto_region 13 with fail
      clear ik hk
      go_loopw [11] (fun iv wr2 => ((iv = .int .i64 0 ∧ Hid (SI w N N (N + 1) (N + 2) (flat cs ++ xs.take 0) wr2)) ∨ (iv = .int .i64 1 ∧ Hid (SI w N N (N + 1) (N + 2) (flat cs ++ xs) wr2)))) (fun iv _ => 1 - (intOf iv).toNat)
      case atStart => exact .inl ⟨rfl, SF⟩
      case round =>
        rcases hrel with ⟨rfl, HS⟩ | ⟨rfl, HS⟩
        · have m0 := (HS.out.b.cell (p := ⟨mo, 0, none⟩) hmn).trans hmx.out
          have HM0 := Lib.hid m0
          go_upto_region 16 with fail
          clear m0
          go_loopw [12] (fun iv wr3 => ∃ (i : Nat), i ≤ nx ∧ Hid (SI w N N (N + 1) (N + 2) (flat cs ++ xs.take i) wr3) ∧ iv = .int .i64 (i : Int)) (fun iv _ => nx - (intOf iv).toNat)
          case atStart => exact ⟨0, Nat.zero_le _, HS, rfl⟩
          case round =>
            obtain ⟨i, hi, HT, rfl⟩ := hrel
            have m0 := (HT.out.b.cell (p := ⟨mo, 0, none⟩) hmn).trans hmx.out
            by_cases hlt : i < nx
            case neg =>
              have ii : ¬ (i : Int) < (nx : Int) := by omega
              have ST : Hid (SI w N N (N + 1) (N + 2) (flat cs ++ xs) wr) := by
                have h := HT.out
                have ht : xs.take i = xs := List.take_of_length_le (by rw [HNX.out]; omega)
                rw [ht] at h
                exact h
              clear hlt
              go_wp2_with fail
              exact ⟨.inr ⟨rfl, ST⟩, by simp [intOf]⟩
            case pos =>
              have ii : (i : Int) < (nx : Int) := by omega
              have hix : i < xs.length := by have := HNX.out; omega
              obtain ⟨a1, c1, e1, _, g1⟩ := (hx.out.below (by rw [HN.out]; exact HT.out.b)).form
              obtain ⟨b3, o3, e3, hc3⟩ := g1 (by omega)
              have e4 := (Value.slice.inj e1).1
              rw [e3] at e4
              subst e4
              have h1 := hc3 i hix
              have hx4 : xs[i] < 4294967296 := hx.out.1 _ (List.getElem_mem hix)
              have hyd : xs = xs.take i ++ xs[i] :: xs.drop (i + 1) := by rw [← List.drop_eq_getElem_cons hix, List.take_append_drop]
              have hyt : xs.take (i + 1) = xs.take i ++ [xs[i]] := List.take_succ_eq_append_getElem hix
              obtain ⟨y, hy⟩ : ∃ y, xs[i] = y := ⟨_, rfl⟩
              rw [hy] at h1 hx4 hyd hyt
              unfold uN at h1
              have hmid := nd_mid (acc := flat cs ++ xs.take i) (y := y) (rest := xs.drop (i + 1)) hnd.out hln.out (mid2 _ _ _ _ _ hyd)
              have HYT := Lib.hid hyt
              obtain ⟨i9, hi9⟩ : ∃ i9 : Nat, i9 = i + 1 := ⟨_, rfl⟩
              have iw1 : (i : Int) + 1 = (i9 : Int) := by omega
              have iw2 : IntKind.i64.wrap (i9 : Int) = (i9 : Int) := IntWalk.i64_in _ (by obtain ⟨_, _, _, h2, _⟩ := hx.out.form; omega)
              have hi3 : i9 ≤ nx := by omega
              have hi4 : nx - i9 < nx - i := by omega
              have HI9 := Lib.hid hi9
              have HCN := Lib.hid (count_any wr N (N + 1) (N + 2) (flat cs ++ xs.take i).length (oneF (flat cs ++ xs.take i)) y HT.out.c hmid.2 hx4 hmid.1 HT.out.m HT.out.o (by omega) (by omega))
              clear hmid hyd hyt hy hi9 hc3 e1 e3 g1 hix hlt
              go_upto_region 18 with fail
              with_reducible refine wp_region_list ?_
              (with_reducible refine wpList_plain rfl ?_); intro K hK; go_simp; (with_reducible refine hK _ _ ?_); clear hK K; try simp only [Act.put, nA, nB, nC]
              (with_reducible refine wpList_plain rfl ?_); intro K hK; go_simp; (with_reducible refine hK _ _ ?_); clear hK K; try simp only [Act.put, nA, nB, nC]
              (with_reducible refine wpList_plain rfl ?_); intro K hK; go_simp; (with_reducible refine hK _ _ ?_); clear hK K; try simp only [Act.put, nA, nB, nC]
              (with_reducible refine wpList_plain rfl ?_); intro K hK; go_simp; (with_reducible refine hK _ _ ?_); clear hK K; try simp only [Act.put, nA, nB, nC]
              (with_reducible refine wpList_plain rfl ?_); intro K hK; go_simp; (with_reducible refine hK _ _ ?_); clear hK K; try simp only [Act.put, nA, nB, nC]
              (with_reducible refine wpList_plain rfl ?_); intro K hK; go_simp; (with_reducible refine hK _ _ ?_); clear hK K; try simp only [Act.put, nA, nB, nC]
              (with_reducible refine wpList_plain rfl ?_); intro K hK; go_simp; (with_reducible refine hK _ _ ?_); clear hK K; try simp only [Act.put, nA, nB, nC]
              (with_reducible refine wpList_plain rfl ?_); intro K hK; go_simp; (with_reducible refine hK _ _ ?_); clear hK K; try simp only [Act.put, nA, nB, nC]
              with_reducible refine wpList_plain rfl ?_
              intro K hK
              go_simp
              (go_at_call 74; refine HCN.out.mono ?_; rintro e w5 ⟨q1, q2, q3, rfl⟩)
              first | with_reducible refine hK _ _ ?_ | refine hK _ _ ?_
              clear hK K
              (try simp only [Act.put, nA, nB, nC])
              have S5 : Hid (SI w N N (N + 1) (N + 2) (flat cs ++ xs.take i9) w5) := by
                have h := HT.out.put q1 q2 q3
                rw [HI9.out, HYT.out]
                show SI _ _ _ _ _ _ _
                simpa using h
              clear q1 q2 q3 HCN m0 h1 HT
              go_wp2_with fail
              exact ⟨⟨i9, hi3, S5, rfl⟩, by simp only [intOf, Int.toNat_natCast]; exact hi4⟩
        · have cm := heap_cell HS.out.m (o := 0)
          have co := heap_cell HS.out.o (o := 0)
          go_upto_region 19 with fail
          go_quiet (fail)
          have SF2 : Hid (SI w N N (N + 1) (N + 2) (flat cs ++ xs) wr) := HS
          clear cm co
          go_wp2_with fail
          exact bodyPost_ret (v := .tuple #[.map (some N), .bool true]) (by simp [results, Try.results36, go_sem]) rfl ⟨N, rfl, Nat.le_refl _, SF2.out.c, SF2.out.b.trans ((below_dN wr nq).mono (by have := SF2.out.c.lt; omega))⟩
end Go.Proofs.Ytkngmnfgdlnddaa

namespace Go.Proofs.Ytkngmnfgdlnddaa
open Go.RowKit Go.Lib Hw Go.Maps
set_option linter.unusedSimpArgs false
set_option linter.unusedVariables false

/-- the list pages are apart -/
structure NW (P p0 : Nat) (chain : List (Nat × List Nat)) (t : LSt) : Prop where
  nd : t.lists.Nodup
  cl : ∀ z, t.s.C z = true → z ∉ t.lists
  hi : ∀ x ∈ t.lists, x < P ∨ p0 ≤ x
  fl : ∀ x ∈ t.lists, x < P → x ∈ flat (chain.take t.opened)
theorem stepL_nw {left held : Nat → Bool} {most P p0 : Nat} {chain : List (Nat × List Nat)} {rel : List Nat} {t t2 : LSt} (hP : P ≤ p0) (hg : Good P chain rel) (hl : LW left held P p0 most chain rel t) (h : NW P p0 chain t) (hs : stepL left held most P chain t = some t2) : NW P p0 chain t2 := by
  have hlo := hl.lo
  unfold stepL at hs
  cases hC : setL P t.s.C with
  | cons x r =>
    rw [hC] at hs
    cases hs
    have hx : x < P ∧ t.s.C x = true := setL_mem.1 (by rw [hC]; exact List.mem_cons_self ..)
    refine ⟨List.nodup_append.2 ⟨h.nd, by simp, fun a ha b hb e => ?_⟩, fun z hz hm => ?_, fun y hy => ?_, fun y hy hp => ?_⟩
    · rw [List.mem_singleton.1 hb] at e
      exact h.cl x hx.2 (e ▸ ha)
    · have h1 := Bool.and_eq_true_iff.1 hz
      rcases List.mem_append.1 hm with hm | hm
      · exact h.cl z h1.1 hm
      · rw [List.mem_singleton.1 hm] at h1
        simp at h1
    · rcases List.mem_append.1 hy with hy | hy
      · exact h.hi y hy
      · rw [List.mem_singleton.1 hy]; exact .inl hx.1
    · rcases List.mem_append.1 hy with hy | hy
      · exact h.fl y hy hp
      · rw [List.mem_singleton.1 hy]; exact (hl.sinv.2 x hx.2).2
  | nil =>
    rw [hC] at hs
    cases hc : chain[t.opened]? with
    | some c =>
      rw [hc] at hs
      cases hs
      obtain ⟨hj, hc2⟩ := List.getElem?_eq_some_iff.1 hc
      subst hc2
      obtain ⟨_, hb⟩ := hg.batch hj
      refine ⟨h.nd, fun z hz hm => ?_, h.hi, fun y hy hp => ?_⟩
      · simp only [openB, Bool.or_eq_true, Bool.and_eq_true, List.contains_iff_mem] at hz
        rcases hz with h1 | h1
        · exact h.cl z h1 hm
        · have h2 := hb z (List.mem_cons_of_mem _ h1.1)
          exact h2.2.2 (h.fl z hm h2.1)
      · show y ∈ flat (chain.take (t.opened + 1))
        rw [flat_take_succ hj]
        exact List.mem_append_left _ (h.fl y hy hp)
    | none =>
      rw [hc] at hs
      by_cases hp : t.pages < most
      · dsimp only at hs
        rw [if_pos hp] at hs
        cases hs
        refine ⟨List.nodup_append.2 ⟨h.nd, by simp, fun a ha b hb e => ?_⟩, fun z hz hm => ?_, fun y hy => ?_, fun y hy hp => ?_⟩
        · rw [List.mem_singleton.1 hb] at e
          have := (hl.ls a ha).1
          omega
        · rcases List.mem_append.1 hm with hm | hm
          · exact h.cl z hz hm
          · have h1 := (hl.sinv.2 z hz).2
            have h2 : z ∈ flat chain := by rw [flat_split chain t.opened]; exact List.mem_append_left _ h1
            have h3 := hg.2 z (List.mem_append_left _ h2)
            have := List.mem_singleton.1 hm
            omega
        · rcases List.mem_append.1 hy with hy | hy
          · exact h.hi y hy
          · rw [List.mem_singleton.1 hy]; exact .inr hlo
        · rcases List.mem_append.1 hy with hy | hy
          · exact h.fl y hy hp
          · have := List.mem_singleton.1 hy
            omega
      · dsimp only at hs
        rw [if_neg hp] at hs
        cases hs
theorem PMade.nw {a b : Int} {chain : List (Nat × List Nat)} {pages most : Nat} {held rel : List Nat} {trees : Int} {p : PlanV} {s : TS} {t : LSt} (h : PMade a b chain pages held trees rel most p s t) : NW pages s.pages chain t := by
  have f := h.facts
  exact (listG_ind (fun u => LW s.left (heldS held) pages s.pages most chain rel u ∧ NW pages s.pages chain u) (fun u u2 hu _ hs => ⟨stepL_lw f.tok.lo hu.1 hs, stepL_nw f.tok.lo f.good hu.1 hu.2 hs⟩) _ _ _ ⟨lw_start f.tok.op f.tok.hi, ⟨List.nodup_nil, fun z _ hm => by simp at hm, fun x hx => by simp at hx, fun x hx => by simp at hx⟩⟩ h.lt).2
theorem owned_plain {a b : Int} {chain : List (Nat × List Nat)} {pages most : Nat} {held rel : List Nat} {trees : Int} {p : PlanV} (h : planF a b chain pages held trees rel most = .inr p) :
    (p.trees.length : Int) = trees ∧ pages ≤ p.pages ∧ p.pages ≤ most ∧ p.opened ≤ chain.length ∧ (p.trees ++ p.lists.map (·.1)).Nodup ∧ (∀ x ∈ p.trees ++ p.lists.map (·.1), x < p.pages ∧ (x < pages → leftS chain x = true ∧ held.contains x = false ∧ rel.contains x = false)) ∧ Good pages chain rel ∧ pages ≤ 65536 := by
  obtain ⟨s, t, hm⟩ := planF_inr h
  have f := hm.facts
  have nw := hm.nw
  have ha := hm.arg
  unfold argB at ha
  simp only [Bool.and_eq_true, decide_eq_true_eq] at ha
  have e1 : p.lists.map (·.1) = t.lists := by rw [hm.eq]; exact dealL_fst _ _ _
  have e2 : p.trees = s.trees := by rw [hm.eq]
  have e3 : p.opened = t.opened := by rw [hm.eq]
  have e4 : p.pages = t.pages := by rw [hm.eq]
  have hlen := treesF_len _ _ _ hm.st
  have hlo := f.lw.lo
  have hsl := f.tok.lo
  rw [e1, e2, e3, e4]
  have hrel : ∀ x, leftS chain x = true → rel.contains x = false := fun x hx => by
    rw [Bool.eq_false_iff]
    intro hc
    exact (List.nodup_append.1 f.good.1).2.2 x (left_mem hx) x (List.contains_iff_mem.1 hc) rfl
  refine ⟨by rw [hlen]; have := ha.2.2.2.2.2; simp; omega, by omega, f.lw.hi, f.lw.op, List.nodup_append.2 ⟨f.tok.inv.1.1, nw.nd, fun x hx y hy e => ?_⟩, fun x hx => ?_, f.good, by have := f.pm; have := f.m6; omega⟩
  · subst e
    rcases nw.hi x hy with h1 | h1
    · have h2 := f.lw.lm x hy h1
      unfold mayF at h2
      exact ((f.tw.lf x).1 (Bool.and_eq_true_iff.1 h2).1).2 hx
    · have := f.tok.inv.1.2 x hx
      omega
  · rcases List.mem_append.1 hx with hx | hx
    · refine ⟨by have := f.tok.inv.1.2 x hx; omega, fun hp => ?_⟩
      obtain ⟨h1, h2⟩ := f.tw.tr x hx hp
      exact ⟨h1, h2, hrel x h1⟩
    · refine ⟨(f.lw.ls x hx).1, fun hp => ?_⟩
      have h2 := f.lw.lm x hx hp
      unfold mayF at h2
      have h3 := Bool.and_eq_true_iff.1 h2
      have h4 := ((f.tw.lf x).1 h3.1).1
      exact ⟨h4, by have := h3.2; unfold heldS at this; simpa using this, hrel x h4⟩
set_option maxHeartbeats 4000000 in
theorem has_same (v : Value) (xs : List Nat) (x : Nat) (w : World) (hv : Hid (URow w v xs)) : Calls Try.prog 37 #[v, .int .u32 (x : Int)] w (fun e w' => e = .returned (.bool (xs.contains x)) ∧ w' = w) := by
  obtain ⟨ad, c, hv1, hl, hx1⟩ := hv.out.form
  clear hx1
  subst hv1
  obtain ⟨R, hR⟩ : ∃ R, (fun (e : Ending) (w' : World) => e = .returned (.bool (xs.contains x)) ∧ w' = w) = R := ⟨_, rfl⟩
  have HNo : Hid (∀ W, xs.contains x = false → W = w → R (.returned (.bool false)) W) := fun W h1 h2 => by
    rw [← hR]
    exact ⟨by rw [h1], h2⟩
  have HYes : Hid (∀ W, xs.contains x = true → W = w → R (.returned (.bool true)) W) := fun W h1 h2 => by
    rw [← hR]
    exact ⟨by rw [h1], h2⟩
  rw [hR]
  clear hR
  obtain ⟨n, hn⟩ : ∃ n, xs.length = n := ⟨_, rfl⟩
  have HN := Lib.hid hn
  rw [hn] at hv hl ⊢
  clear hn
  go_enter Try.func37, Try.ntmps37
  go_upto_region 2 with fail
  go_loopw [5] (fun iv wr => ∃ (k : Nat), k ≤ n ∧ Hid ((xs.take k).contains x = false) ∧ Hid (wr = w) ∧ iv = .int .i64 (k : Int)) (fun iv _ => n - (intOf iv).toNat)
  case atStart => exact ⟨0, Nat.zero_le _, by show _ = _; rw [List.take_zero]; rfl, rfl, rfl⟩
  case round =>
    obtain ⟨k, hk, HT, HB, rfl⟩ := hrel
    by_cases hlt : k < n
    case neg =>
      have ik : ¬ (k : Int) < (n : Int) := by omega
      have hR := HNo.out wr (by
        have h := HT.out
        rw [List.take_of_length_le (by rw [HN.out]; omega)] at h
        exact h) HB.out
      have HR := Lib.hid hR
      clear hR
      go_wp2_with fail
      exact HR.out
    case pos =>
      have ik : (k : Int) < (n : Int) := by omega
      have hkx : k < xs.length := by rw [HN.out]; exact hlt
      obtain ⟨a1, c1, e1, _, g1⟩ := (by have := hv.out; rw [← HB.out] at this; exact this : URow wr _ xs).form
      obtain ⟨b1, o1, e2, hc1⟩ := g1 (by omega)
      have e3 := (Value.slice.inj e1).1
      rw [e2] at e3
      subst e3
      have h1 := hc1 k hkx
      have t1 := List.take_succ_eq_append_getElem hkx
      obtain ⟨y, hy⟩ : ∃ y, xs[k] = y := ⟨_, rfl⟩
      have HY : Hid (y ∈ xs) := by show y ∈ xs; rw [← hy]; exact List.getElem_mem hkx
      rw [hy] at h1 t1
      unfold uN at h1
      have T1 := Lib.hid t1
      clear t1 hy hc1 e1 e2 g1 hkx
      by_cases hxy : y = x
      case neg =>
        have en : decide ((y : Int) = (x : Int)) = false := decide_eq_false (by omega)
        have en2 : ((y : Int) == (x : Int)) = false := by simp; omega
        have HT2 : Hid ((xs.take (k + 1)).contains x = false) := by
          show _ = _
          have h := HT.out
          rw [T1.out]
          rw [Bool.eq_false_iff] at h ⊢
          intro hc
          rcases List.mem_append.1 (List.contains_iff_mem.1 hc) with h2 | h2
          · exact h (List.contains_iff_mem.2 h2)
          · exact hxy (List.mem_singleton.1 h2).symm
        have HB2 : Hid (wr = w) := HB.out
        go_wp2_with fail
        exact ⟨⟨k + 1, by omega, HT2, HB2, by go_num⟩, by simp [intOf]; omega⟩
      case pos =>
        subst hxy
        have en : ((y : Int) == (y : Int)) = true := by simp
        have hR := HYes.out wr (List.contains_iff_mem.2 HY.out) (HB.out)
        have HR := Lib.hid hR
        clear hR
        go_wp2_with fail
        exact HR.out
end Go.Proofs.Ytkngmnfgdlnddaa

namespace Go.Proofs.Ytkngmnfgdlnddaa
open Go.RowKit Go.Lib Hw Go.Maps
set_option linter.unusedSimpArgs false
set_option linter.unusedVariables false

/-- the list pages' state: what is loose -/
structure JW (left : Nat → Bool) (P p0 o0 : Nat) (chain : List (Nat × List Nat)) (rel : List Nat) (t : LSt) : Prop where
  L : ∀ z, t.s.L z = true ↔ ((z ∈ rel ∨ z ∈ (chain.take t.opened).map (·.1) ∨ (left z = true ∧ ∃ c ∈ chain.take t.opened, z ∈ c.2)) ∧ z ∉ t.lists)
  c : ∀ x, p0 ≤ x → x < t.pages → x ∈ t.lists
  o : o0 ≤ t.opened
theorem take_mem {cs : List (Nat × List Nat)} {j : Nat} {c : Nat × List Nat} (h : c ∈ cs.take j) : c ∈ cs := List.mem_of_mem_take h
theorem flat_mem {cs : List (Nat × List Nat)} {z : Nat} : z ∈ flat cs ↔ z ∈ cs.map (·.1) ∨ ∃ c ∈ cs, z ∈ c.2 := by
  unfold flat
  rw [List.mem_flatMap]
  simp only [List.mem_cons, List.mem_map]
  constructor
  · rintro ⟨c, hc, rfl | h⟩
    · exact .inl ⟨c, hc, rfl⟩
    · exact .inr ⟨c, hc, h⟩
  · rintro (⟨c, hc, rfl⟩ | ⟨c, hc, h⟩)
    · exact ⟨c, hc, .inl rfl⟩
    · exact ⟨c, hc, .inr h⟩
theorem stepL_jw {left held : Nat → Bool} {most P p0 o0 : Nat} {chain : List (Nat × List Nat)} {rel : List Nat} {t t2 : LSt} (hP : P ≤ p0) (hg : Good P chain rel) (hlP : ∀ z, left z = true → z < P) (hl : LW left held P p0 most chain rel t) (hn : NW P p0 chain t) (h : JW left P p0 o0 chain rel t) (hs : stepL left held most P chain t = some t2) : JW left P p0 o0 chain rel t2 := by
  have hlo := hl.lo
  have inP : ∀ z, (z ∈ rel ∨ z ∈ (chain.take t.opened).map (·.1) ∨ (left z = true ∧ ∃ c ∈ chain.take t.opened, z ∈ c.2)) → z < P := by
    rintro z (h1 | h1 | h1)
    · exact hg.2 z (List.mem_append_right _ h1)
    · refine hg.2 z (List.mem_append_left _ (flat_mem.2 (.inl ?_)))
      obtain ⟨c, hc, e⟩ := List.mem_map.1 h1
      exact List.mem_map.2 ⟨c, take_mem hc, e⟩
    · exact hlP z h1.1
  unfold stepL at hs
  cases hC : setL P t.s.C with
  | cons x r =>
    rw [hC] at hs
    cases hs
    refine ⟨fun z => ?_, fun y h1 h2 => List.mem_append_left _ (h.c y h1 h2), h.o⟩
    simp only [dropS, Bool.and_eq_true, Bool.not_eq_true', decide_eq_false_iff_not, List.mem_append, List.mem_singleton, not_or]
    rw [h.L z]
    exact and_assoc
  | nil =>
    rw [hC] at hs
    cases hc : chain[t.opened]? with
    | some c =>
      rw [hc] at hs
      cases hs
      obtain ⟨hj, hc2⟩ := List.getElem?_eq_some_iff.1 hc
      subst hc2
      obtain ⟨_, hb⟩ := hg.batch hj
      refine ⟨fun z => ?_, h.c, by have := h.o; show o0 ≤ t.opened + 1; omega⟩
      have hfr : ∀ z, z ∈ chain[t.opened].1 :: chain[t.opened].2 → z ∉ t.lists := fun z hz hm => by
        have h2 := hb z hz
        exact h2.2.2 (hn.fl z hm h2.1)
      show (openB left held t.s chain[t.opened]).L z = true ↔ _
      rw [show (LSt.mk (openB left held t.s chain[t.opened]) (t.opened + 1) t.pages t.lists).opened = t.opened + 1 from rfl, List.take_succ_eq_append_getElem hj]
      simp only [openB, Bool.or_eq_true, Bool.and_eq_true, decide_eq_true_eq, List.contains_iff_mem, List.map_append, List.mem_append, List.map_cons, List.map_nil, List.mem_singleton]
      rw [h.L z]
      constructor
      · rintro (⟨h1 | h1 | ⟨h1, c, h2, h3⟩, h4⟩ | h1 | ⟨h1, h2⟩)
        · exact ⟨.inl h1, h4⟩
        · exact ⟨.inr (.inl (.inl h1)), h4⟩
        · exact ⟨.inr (.inr ⟨h1, c, .inl h2, h3⟩), h4⟩
        · exact ⟨.inr (.inl (.inr h1)), hfr z (h1 ▸ List.mem_cons_self ..)⟩
        · exact ⟨.inr (.inr ⟨h2, _, .inr rfl, h1⟩), hfr z (List.mem_cons_of_mem _ h1)⟩
      · rintro ⟨h1 | (h1 | h1) | ⟨h1, c, h2 | h2, h3⟩, h4⟩
        · exact .inl ⟨.inl h1, h4⟩
        · exact .inl ⟨.inr (.inl h1), h4⟩
        · exact .inr (.inl h1)
        · exact .inl ⟨.inr (.inr ⟨h1, c, h2, h3⟩), h4⟩
        · subst h2; exact .inr (.inr ⟨h3, h1⟩)
    | none =>
      rw [hc] at hs
      by_cases hp : t.pages < most
      · dsimp only at hs
        rw [if_pos hp] at hs
        cases hs
        refine ⟨fun z => ?_, fun y h1 h2 => ?_, h.o⟩
        · simp only [List.mem_append, List.mem_singleton, not_or]
          rw [h.L z]
          constructor
          · rintro ⟨h1, h2⟩
            exact ⟨h1, h2, fun e => by have := inP z h1; omega⟩
          · rintro ⟨h1, h2, _⟩
            exact ⟨h1, h2⟩
        · have h2' : y < t.pages + 1 := h2
          by_cases e : y = t.pages
          · subst e; exact List.mem_append_right _ (List.mem_singleton.2 rfl)
          · exact List.mem_append_left _ (h.c y h1 (by omega))
      · dsimp only at hs
        rw [if_neg hp] at hs
        cases hs
/-- with fuel enough all that is loose is dealt out -/
theorem listG_done {left held : Nat → Bool} {most n P p0 : Nat} {chain : List (Nat × List Nat)} {rel : List Nat} (hn : 1 ≤ n) (hP : P ≤ p0) : ∀ (k : Nat) (t t2 : LSt), LW left held P p0 most chain rel t → muL P chain t ≤ k → listG left held most n P chain k t = some t2 → moreL n P t2 = false
  | 0, t, t2, _, hm, e => by unfold muL at hm; omega
  | k + 1, t, t2, hl, hm, e => by
    rw [listG] at e
    by_cases hmo : moreL n P t = true
    · rw [if_pos hmo] at e
      cases hs : stepL left held most P chain t with
      | none => rw [hs] at e; cases e
      | some t3 =>
        rw [hs] at e
        refine listG_done hn hP k t3 t2 (stepL_lw hP hl hs) ?_ e
        have hlt := more_lt hmo hn
        have hop := hl.op
        unfold stepL at hs
        cases hC : setL P t.s.C with
        | cons x r =>
          rw [hC] at hs
          cases hs
          unfold muL at hm ⊢
          simp only [List.length_append, List.length_singleton]
          omega
        | nil =>
          rw [hC] at hs
          cases hc : chain[t.opened]? with
          | some c =>
            rw [hc] at hs
            cases hs
            obtain ⟨hj, _⟩ := List.getElem?_eq_some_iff.1 hc
            unfold muL at hm ⊢
            simp only
            omega
          | none =>
            rw [hc] at hs
            by_cases hp : t.pages < most
            · dsimp only at hs
              rw [if_pos hp] at hs
              cases hs
              unfold muL at hm ⊢
              simp only [List.length_append, List.length_singleton]
              omega
            · dsimp only at hs
              rw [if_neg hp] at hs
              cases hs
    · rw [if_neg hmo] at e
      cases e
      simpa using hmo
/-- the trees took the end's numbers in their order -/
theorem treeF_gap {held : Nat → Bool} {most p0 : Nat} {chain : List (Nat × List Nat)} {s s2 : TS} (h : ∀ x, p0 ≤ x → x < s.pages → x ∈ s.trees) (ht : treeF held most chain s = some s2) : ∀ x, p0 ≤ x → x < s2.pages → x ∈ s2.trees := by
  unfold treeF at ht
  split at ht
  · cases ht
    intro x h1 h2
    exact List.mem_append_left _ (h x h1 h2)
  · split at ht
    · cases ht
      intro x h1 h2
      have h2' : x < s.pages + 1 := h2
      by_cases e : x = s.pages
      · subst e; exact List.mem_append_right _ (List.mem_singleton.2 rfl)
      · exact List.mem_append_left _ (h x h1 (by omega))
    · cases ht
/-- all that is dealt -/
theorem flat_dealL (n : Nat) : ∀ (ps xs : List Nat), xs.length ≤ ps.length * n → (flat (dealL n xs ps)).Perm (ps ++ xs)
  | [], xs, h => by
    have : xs = [] := List.eq_nil_of_length_eq_zero (by simpa using h)
    subst this
    exact List.Perm.refl _
  | p :: r, xs, h => by
    rw [dealL]
    have ih := flat_dealL n r (xs.drop n) (by rw [List.length_drop]; rw [List.length_cons, Nat.succ_mul] at h; omega)
    show ((p :: xs.take n) ++ flat (dealL n (xs.drop n) r)).Perm _
    rw [List.cons_append, List.cons_append]
    refine List.Perm.cons p ?_
    have h1 : (xs.take n ++ flat (dealL n (xs.drop n) r)).Perm (xs.take n ++ (r ++ xs.drop n)) := List.Perm.append_left _ ih
    refine h1.trans ?_
    have h2 : (xs.take n ++ (r ++ xs.drop n)).Perm (r ++ (xs.take n ++ xs.drop n)) := by
      rw [← List.append_assoc, ← List.append_assoc]
      exact List.Perm.append_right _ List.perm_append_comm
    rw [List.take_append_drop] at h2
    exact h2
theorem numsGo_all {pages : Nat} : ∀ (xs acc : List Nat), (xs ++ acc).Nodup → (∀ x ∈ xs, 2 ≤ x ∧ x < pages) → numsGo pages xs acc = some (xs.reverse ++ acc)
  | [], acc, _, _ => rfl
  | x :: r, acc, h, hr => by
    have h1 := List.nodup_cons.1 h
    have h2 := hr x (List.mem_cons_self ..)
    have h3 : x ∉ acc := fun hm => h1.1 (List.mem_append_right _ hm)
    have hf : freshB (fun z => acc.contains z) pages x = true := by
      unfold freshB
      simp only [Bool.and_eq_true, Bool.not_eq_true', decide_eq_true_eq]
      exact ⟨by rw [Bool.eq_false_iff]; intro hc; exact h3 (List.contains_iff_mem.1 hc), h2.1, h2.2⟩
    rw [numsGo, if_pos hf, numsGo_all r (x :: acc) ?_ (fun y hy => hr y (List.mem_cons_of_mem _ hy))]
    · simp
    · exact (List.perm_middle (a := x) (l₁ := r) (l₂ := acc)).nodup_iff.2 h
theorem seenGo_all {E : Int} {pages : Nat} : ∀ (cs : List (Nat × List Nat)) (acc : List Nat), (flat cs ++ acc).Nodup → (∀ x ∈ flat cs, 2 ≤ x ∧ x < pages) → (∀ c ∈ cs, (c.2.length : Int) ≤ E ∧ risB c.2 = true) → ∃ r, seenGo E pages cs acc = some r
  | [], acc, _, _, _ => ⟨acc, rfl⟩
  | c :: r, acc, h, hr, hf => by
    have e : flat (c :: r) = c.1 :: c.2 ++ flat r := rfl
    rw [e] at h hr
    have h0 : c.1 ∉ acc := fun hm => by
      have h1 := (List.nodup_append.1 h).2.2 c.1 (by simp) c.1 hm
      exact h1 rfl
    obtain ⟨f1, f2⟩ := hf c (List.mem_cons_self ..)
    have hb : batchOk E pages c acc = true := by
      unfold batchOk freshB
      simp only [Bool.and_eq_true, Bool.not_eq_true', decide_eq_true_eq]
      have := hr c.1 (by simp)
      exact ⟨⟨by rw [Bool.eq_false_iff]; intro hc; exact h0 (List.contains_iff_mem.1 hc), this.1, this.2⟩, f1, f2⟩
    have hp : (c.1 :: c.2 ++ flat r ++ acc).Perm (flat r ++ (c.2 ++ (c.1 :: acc))) := by
      rw [List.cons_append, List.cons_append]
      have p1 : (c.2 ++ flat r ++ acc).Perm (flat r ++ c.2 ++ acc) := List.Perm.append_right _ List.perm_append_comm
      refine (List.Perm.cons c.1 p1).trans ?_
      rw [← List.append_assoc]
      exact (List.perm_middle (a := c.1) (l₁ := flat r ++ c.2) (l₂ := acc)).symm
    have hnd := hp.nodup_iff.1 h
    rw [seenGo, if_pos hb, numsGo_all c.2 (c.1 :: acc) (List.nodup_append.1 hnd).2.1 (fun x hx => hr x (by simp [hx]))]
    refine seenGo_all r _ ?_ (fun x hx => hr x (by simp [hx])) (fun d hd => hf d (List.mem_cons_of_mem _ hd))
    refine ((List.Perm.append_left _ (List.Perm.append_right _ (List.reverse_perm c.2)))).nodup_iff.2 hnd
theorem risB_lt {xs : List Nat} (h : xs.Pairwise (· < ·)) : risB xs = true := (risB_iff xs).2 (fun i hi => List.pairwise_iff_getElem.1 h i (i + 1) (by omega) hi (by omega))
theorem lost_plain {a b : Int} {chain : List (Nat × List Nat)} {pages most : Nat} {held rel : List Nat} {trees : Int} {p : PlanV} (h : planF a b chain pages held trees rel most = .inr p) :
    (flat (aftL chain (p.opened : Int) p.lists) ++ p.trees).Nodup ∧ (flat chain ++ rel).Nodup ∧ (∀ z, z ∈ flat (aftL chain (p.opened : Int) p.lists) ++ p.trees ↔ z ∈ flat chain ++ rel ∨ (pages ≤ z ∧ z < p.pages)) ∧ (∀ z ∈ flat chain ++ rel, 2 ≤ z ∧ z < pages) ∧ pages ≤ p.pages ∧ p.pages ≤ 65536 ∧ chkI a b (aftL chain (p.opened : Int) p.lists) p.pages = 0 := by
  obtain ⟨s, t, hm⟩ := planF_inr h
  have f := hm.facts
  have ha := hm.arg
  unfold argB at ha
  simp only [Bool.and_eq_true, decide_eq_true_eq] at ha
  obtain ⟨hE1, hE2, hE3⟩ := ent_rng f.may
  have e0 : aftL chain (p.opened : Int) p.lists = dealL (entI a b).toNat (setL pages t.s.L) t.lists ++ chain.drop t.opened := by
    unfold aftL
    have hop := f.lw.op
    have hc : clampN (p.opened : Int) chain.length = t.opened := by
      have e : p.opened = t.opened := by rw [hm.eq]
      rw [e]; unfold clampN; omega
    rw [hc, hm.eq]
  have e2 : p.trees = s.trees := by rw [hm.eq]
  have e4 : p.pages = t.pages := by rw [hm.eq]
  have hlo := f.lw.lo
  have hhi := f.lw.hi
  have hsl := f.tok.lo
  have hm6 := f.m6
  have hlP : ∀ z, s.left z = true → z < pages := fun z hz => f.tw.lt z ((f.tw.lf z).1 hz).1
  have gap := treesF_ind (fun u : TS => ∀ x, pages ≤ x → x < u.pages → x ∈ u.trees) (fun u u2 hu ht => treeF_gap hu ht) _ _ _ (fun x h1 h2 => by have h2' : x < pages := h2; omega) hm.st
  obtain ⟨_, nw, jw⟩ := listG_ind (fun u => LW s.left (heldS held) pages s.pages most chain rel u ∧ NW pages s.pages chain u ∧ JW s.left pages s.pages s.opened chain rel u) (fun u u2 hu _ hs => ⟨stepL_lw f.tok.lo hu.1 hs, stepL_nw f.tok.lo f.good hu.1 hu.2.1 hs, stepL_jw f.tok.lo f.good hlP hu.1 hu.2.1 hu.2.2 hs⟩) _ _ _ ⟨lw_start f.tok.op f.tok.hi, ⟨List.nodup_nil, fun z _ hm => by simp at hm, fun x hx => by simp at hx, fun x hx => by simp at hx⟩, ⟨fun z => by rw [openN_L z _ f.tok.op]; simp, fun x h1 h2 => by have h2' : x < s.pages := h2; omega, Nat.le_refl _⟩⟩ hm.lt
  have hmore := listG_done hE1 f.tok.lo _ _ _ (lw_start f.tok.op f.tok.hi) (Nat.le_refl _) hm.lt
  have hdeal : (setL pages t.s.L).length ≤ t.lists.length * (entI a b).toNat := by
    unfold moreL at hmore
    have := of_decide_eq_false hmore
    omega
  have hpm := flat_dealL (entI a b).toNat t.lists (setL pages t.s.L) hdeal
  rw [e0, e2, e4]
  have efl : flat (dealL (entI a b).toNat (setL pages t.s.L) t.lists ++ chain.drop t.opened) = flat (dealL (entI a b).toNat (setL pages t.s.L) t.lists) ++ flat (chain.drop t.opened) := by unfold flat; rw [List.flatMap_append]
  rw [efl]
  have PA : (flat (dealL (entI a b).toNat (setL pages t.s.L) t.lists) ++ flat (chain.drop t.opened) ++ s.trees).Perm (t.lists ++ setL pages t.s.L ++ flat (chain.drop t.opened) ++ s.trees) := List.Perm.append_right _ (List.Perm.append_right _ hpm)
  have hgs := f.good.1
  have hgl := f.good.2
  have hsplit := flat_split chain t.opened
  have hdisj : ∀ z, z ∈ flat (chain.take t.opened) → z ∉ flat (chain.drop t.opened) := fun z h1 h2 => by
    rw [hsplit] at hgs
    exact (List.nodup_append.1 (List.nodup_append.1 hgs).1).2.2 z h1 z h2 rfl
  have hrel : ∀ z, z ∈ rel → z ∉ flat chain := fun z h1 h2 => (List.nodup_append.1 hgs).2.2 z h2 z h1 rfl
  have htk : ∀ z, z ∈ flat (chain.take t.opened) → z ∈ flat chain := fun z h => by rw [hsplit]; exact List.mem_append_left _ h
  have hdr : ∀ z, z ∈ flat (chain.drop t.opened) → z ∈ flat chain := fun z h => by rw [hsplit]; exact List.mem_append_right _ h
  have htr1 : ∀ z ∈ s.trees, z < pages → z ∈ flat (chain.take t.opened) := fun z h1 h2 => by
    obtain ⟨c, hc, hz⟩ := f.tw.tk z h1 h2
    refine flat_mem.2 (.inr ⟨c, ?_, hz⟩)
    have ho := jw.o
    have : chain.take s.opened = (chain.take t.opened).take s.opened := by rw [List.take_take, Nat.min_eq_left ho]
    rw [this] at hc
    exact List.mem_of_mem_take hc
  have htr2 : ∀ z ∈ s.trees, z < s.pages := fun z hz => f.tok.inv.1.2 z hz
  have hnumnot : ∀ z, z ∈ chain.map (·.1) → ∀ c ∈ chain, z ∉ c.2 := fun z hz c hc hm2 => by
    obtain ⟨d, hd, rfl⟩ := List.mem_map.1 hz
    obtain ⟨i, hi, hie⟩ := List.mem_iff_getElem.1 hd
    obtain ⟨j, hj, hje⟩ := List.mem_iff_getElem.1 hc
    subst hie hje
    obtain ⟨n1, n2⟩ := f.good.batch hi
    obtain ⟨m1, m2⟩ := f.good.batch hj
    rcases Nat.lt_trichotomy i j with hij | hij | hij
    · refine (m2 (chain[i]).1 (List.mem_cons_of_mem _ hm2)).2.2 ?_
      refine flat_mem.2 (.inl (List.mem_map.2 ⟨chain[i], ?_, rfl⟩))
      exact List.mem_take_iff_getElem.2 ⟨i, by omega, rfl⟩
    · subst hij
      exact (List.nodup_cons.1 n1).1 hm2
    · refine (n2 (chain[i]).1 (List.mem_cons_self ..)).2.2 ?_
      refine flat_mem.2 (.inr ⟨chain[j], ?_, hm2⟩)
      exact List.mem_take_iff_getElem.2 ⟨j, by omega, rfl⟩
  have hlsm : ∀ x ∈ t.lists, (x < pages ∧ x ∈ flat (chain.take t.opened) ∧ s.left x = true) ∨ (s.pages ≤ x ∧ x < t.pages) := fun x hx => by
    rcases nw.hi x hx with h1 | h1
    · have h2 := f.lw.lm x hx h1
      unfold mayF at h2
      exact .inl ⟨h1, nw.fl x hx h1, (Bool.and_eq_true_iff.1 h2).1⟩
    · exact .inr ⟨h1, (f.lw.ls x hx).1⟩
  have hL : ∀ z, z ∈ setL pages t.s.L ↔ ((z ∈ rel ∨ z ∈ (chain.take t.opened).map (·.1) ∨ (s.left z = true ∧ ∃ c ∈ chain.take t.opened, z ∈ c.2)) ∧ z ∉ t.lists) := fun z => by
    rw [setL_mem, jw.L z]
    constructor
    · exact fun h => h.2
    · intro h
      refine ⟨?_, h⟩
      rcases h.1 with h1 | h1 | h1
      · exact hgl z (List.mem_append_right _ h1)
      · exact hgl z (List.mem_append_left _ (htk z (flat_mem.2 (.inl h1))))
      · exact hlP z h1.1
  have hA : (t.lists ++ setL pages t.s.L ++ flat (chain.drop t.opened) ++ s.trees).Nodup := by
    refine List.nodup_append.2 ⟨List.nodup_append.2 ⟨List.nodup_append.2 ⟨nw.nd, setL_nodup _ _, ?_⟩, ?_, ?_⟩, f.tok.inv.1.1, ?_⟩
    · rintro x hx y hy rfl
      exact ((hL x).1 hy).2 hx
    · rw [hsplit] at hgs
      exact (List.nodup_append.1 (List.nodup_append.1 hgs).1).2.1
    · rintro x hx y hy rfl
      rcases List.mem_append.1 hx with hx | hx
      · rcases hlsm x hx with h1 | h1
        · exact hdisj x h1.2.1 hy
        · have := hgl x (List.mem_append_left _ (hdr x hy)); omega
      · rcases ((hL x).1 hx).1 with h1 | h1 | h1
        · exact hrel x h1 (hdr x hy)
        · exact hdisj x (flat_mem.2 (.inl h1)) hy
        · exact hdisj x (flat_mem.2 (.inr h1.2)) hy
    · rintro x hx y hy rfl
      have hy2 := htr2 x hy
      rcases List.mem_append.1 hx with hx | hx
      · rcases List.mem_append.1 hx with hx | hx
        · rcases hlsm x hx with h1 | h1
          · exact ((f.tw.lf x).1 h1.2.2).2 hy
          · omega
        · have hxp := (setL_mem.1 hx).1
          rcases ((hL x).1 hx).1 with h1 | h1 | h1
          · exact hrel x h1 (htk x (htr1 x hy hxp))
          · obtain ⟨c, hc, hz⟩ := f.tw.tk x hy hxp
            obtain ⟨d, hd, e⟩ := List.mem_map.1 h1
            exact hnumnot x (List.mem_map.2 ⟨d, take_mem hd, e⟩) c (take_mem hc) hz
          · exact ((f.tw.lf x).1 h1.1).2 hy
      · have hxp := hgl x (List.mem_append_left _ (hdr x hx))
        exact hdisj x (htr1 x hy hxp) hx
  have hmem : ∀ z, z ∈ flat (dealL (entI a b).toNat (setL pages t.s.L) t.lists) ++ flat (chain.drop t.opened) ++ s.trees ↔ z ∈ flat chain ++ rel ∨ (pages ≤ z ∧ z < t.pages) := fun z => by
    rw [PA.mem_iff]
    constructor
    · intro hz
      rcases List.mem_append.1 hz with hz | hz
      · rcases List.mem_append.1 hz with hz | hz
        · rcases List.mem_append.1 hz with hz | hz
          · rcases hlsm z hz with h1 | h1
            · exact .inl (List.mem_append_left _ (htk z h1.2.1))
            · exact .inr (by omega)
          · rcases ((hL z).1 hz).1 with h1 | h1 | h1
            · exact .inl (List.mem_append_right _ h1)
            · exact .inl (List.mem_append_left _ (htk z (flat_mem.2 (.inl h1))))
            · exact .inl (List.mem_append_left _ (htk z (flat_mem.2 (.inr h1.2))))
        · exact .inl (List.mem_append_left _ (hdr z hz))
      · by_cases hp : z < pages
        · exact .inl (List.mem_append_left _ (htk z (htr1 z hz hp)))
        · exact .inr (by have := htr2 z hz; omega)
    · have toL : ∀ z, (z ∈ rel ∨ z ∈ (chain.take t.opened).map (·.1) ∨ (s.left z = true ∧ ∃ c ∈ chain.take t.opened, z ∈ c.2)) → z ∈ t.lists ++ setL pages t.s.L ++ flat (chain.drop t.opened) ++ s.trees := fun z hz => by
        refine List.mem_append_left _ (List.mem_append_left _ ?_)
        by_cases hin : z ∈ t.lists
        · exact List.mem_append_left _ hin
        · exact List.mem_append_right _ ((hL z).2 ⟨hz, hin⟩)
      rintro (hz | hz)
      · rcases List.mem_append.1 hz with hz | hz
        · rw [hsplit] at hz
          rcases List.mem_append.1 hz with hz | hz
          · rcases flat_mem.1 hz with h1 | ⟨c, hc, h1⟩
            · exact toL z (.inr (.inl h1))
            · by_cases htr : z ∈ s.trees
              · exact List.mem_append_right _ htr
              · exact toL z (.inr (.inr ⟨(f.tw.lf z).2 ⟨mem_leftS (take_mem hc) h1, htr⟩, c, hc, h1⟩))
          · exact List.mem_append_left _ (List.mem_append_right _ hz)
        · exact toL z (.inl hz)
      · by_cases hp : z < s.pages
        · exact List.mem_append_right _ (gap z hz.1 hp)
        · exact List.mem_append_left _ (List.mem_append_left _ (List.mem_append_left _ (jw.c z (by omega) hz.2)))
  have hND := PA.nodup_iff.2 hA
  have hlow : ∀ z ∈ flat chain ++ rel, 2 ≤ z ∧ z < pages := fun z hz => ⟨f.low z hz, hgl z hz⟩
  refine ⟨hND, hgs, hmem, hlow, by omega, by omega, ?_⟩
  unfold chkI
  have hp2 := f.p2
  rw [if_pos (by simp only [Bool.and_eq_true, decide_eq_true_eq]; exact ⟨f.may, by omega, by omega⟩)]
  have hfl := (List.nodup_append.1 hND).1
  obtain ⟨r, hr⟩ := seenGo_all (E := entI a b) (pages := t.pages) (dealL (entI a b).toNat (setL pages t.s.L) t.lists ++ chain.drop t.opened) [] (by rw [List.append_nil, efl]; exact hfl) (fun x hx => by
    rw [efl] at hx
    rcases (hmem x).1 (List.mem_append_left _ hx) with h1 | h1
    · have := hlow x h1; omega
    · omega) (fun c hc => by
    rcases List.mem_append.1 hc with hc | hc
    · obtain ⟨i, hi, rfl⟩ := List.mem_iff_getElem.1 hc
      rw [dealL_len] at hi
      rw [dealL_at _ _ _ _ hi]
      refine ⟨?_, risB_lt ((List.Pairwise.sublist (List.take_sublist _ _) (List.Pairwise.sublist (List.drop_sublist _ _) (setL_lt pages t.s.L))))⟩
      rw [List.length_take]
      omega
    · exact f.few c (List.mem_of_mem_drop hc))
  rw [hr]
theorem flat_lens : ∀ (cs : List (Nat × List Nat)), cs.length ≤ (flat cs).length ∧ ∀ c ∈ cs, c.2.length ≤ (flat cs).length
  | [] => ⟨Nat.le_refl _, fun c hc => by simp at hc⟩
  | c :: r => by
    obtain ⟨h1, h2⟩ := flat_lens r
    have e : (flat (c :: r)).length = 1 + c.2.length + (flat r).length := by show (c.1 :: c.2 ++ flat r).length = _; simp; omega
    refine ⟨by rw [List.length_cons]; omega, fun d hd => ?_⟩
    rcases List.mem_cons.1 hd with rfl | hd
    · omega
    · have := h2 d hd; omega
theorem nodup_range {l : List Nat} {P : Nat} (h : l.Nodup) (hp : ∀ x ∈ l, x < P) : l.length ≤ P := by
  have := nodup_le l (List.range P) h (fun x hx => List.mem_range.2 (hp x hx))
  rwa [List.length_range] at this
/-- FreeLost's plain law with what its walk wants -/
theorem lost_facts {a b : Int} {chain : List (Nat × List Nat)} {pages most : Nat} {held rel : List Nat} {trees : Int} {p : PlanV} (h : planF a b chain pages held trees rel most = .inr p) :
    (flat chain ++ rel).length + p.pages = (flat (aftL chain (p.opened : Int) p.lists) ++ p.trees).length + pages ∧ (flat chain ++ rel).length ≤ 65536 ∧ (flat (aftL chain (p.opened : Int) p.lists) ++ p.trees).length ≤ 65536 ∧ (∀ c ∈ aftL chain (p.opened : Int) p.lists, c.1 < 4294967296 ∧ All4 c.2) := by
  obtain ⟨h1, h2, h3, h4, h5, h6, _⟩ := lost_plain h
  have hA : ∀ x ∈ flat (aftL chain (p.opened : Int) p.lists) ++ p.trees, x < p.pages := fun x hx => by
    rcases (h3 x).1 hx with h | h
    · have := h4 x h; omega
    · exact h.2
  have l1 := nodup_range h2 (fun x hx => (h4 x hx).2)
  have l2 := nodup_range h1 hA
  have hnd : ((flat chain ++ rel) ++ (List.range (p.pages - pages)).map (fun i => pages + i)).Nodup := by
    refine List.nodup_append.2 ⟨h2, ?_, ?_⟩
    · exact List.Pairwise.map _ (fun a b hab => by omega) List.nodup_range
    · rintro x hx y hy rfl
      obtain ⟨i, _, e⟩ := List.mem_map.1 hy
      have := h4 x hx
      omega
  have hperm := (List.perm_ext_iff_of_nodup h1 hnd).2 (fun z => by
    rw [h3 z]
    refine ⟨fun g => ?_, fun g => ?_⟩
    · rcases g with g | g
      · exact List.mem_append_left _ g
      · exact List.mem_append_right _ (List.mem_map.2 ⟨z - pages, List.mem_range.2 (by omega), by omega⟩)
    · rcases List.mem_append.1 g with g | g
      · exact .inl g
      · obtain ⟨i, g1, g2⟩ := List.mem_map.1 g
        have := List.mem_range.1 g1
        exact .inr (by omega))
  have hlen := hperm.length_eq
  simp only [List.length_append, List.length_map, List.length_range] at hlen l1 l2 ⊢
  refine ⟨by omega, by omega, by omega, fun c hc => ?_⟩
  have hin : ∀ x, x ∈ c.1 :: c.2 → x < p.pages := fun x hx => hA x (List.mem_append_left _ (List.mem_flatMap.2 ⟨c, hc, hx⟩))
  refine ⟨by have := hin c.1 (List.mem_cons_self ..); omega, fun x hx => ?_⟩
  have := hin x (List.mem_cons_of_mem _ hx)
  omega
end Go.Proofs.Ytkngmnfgdlnddaa

