/-
  The plain law of a plan's tree pages; the walk of trees.
-/
import Derived.Test.YtkngmnfgdlnddaaTakA
import Derived.WalkMore
namespace Go.Proofs.Ytkngmnfgdlnddaa
open Go.RowKit Go.Lib Hw Go.Maps
set_option linter.unusedSimpArgs false
set_option linter.unusedVariables false

/-- the first batch that has a number to be taken -/
def scanF (m : Nat → Bool) : List (Nat × List Nat) → Nat → Nat × Option Nat
  | [], at_ => (at_, none)
  | c :: r, at_ => match c.2.find? m with | some no => (at_, some no) | none => scanF m r (at_ + 1)
structure TS where
  at_ : Nat
  left : Nat → Bool
  trees : List Nat
  opened : Nat
  pages : Nat
def TS.take (s : TS) (at_ no : Nat) : TS := ⟨at_, fun z => !decide (z = no) && s.left z, s.trees ++ [no], at_ + 1, s.pages⟩
def TS.grow (s : TS) (at_ : Nat) : TS := ⟨at_, s.left, s.trees ++ [s.pages], s.opened, s.pages + 1⟩
def treeF (held : Nat → Bool) (most : Nat) (chain : List (Nat × List Nat)) (s : TS) : Option TS :=
  match scanF (mayF s.left held) (chain.drop s.at_) s.at_ with
  | (a, some no) => some (s.take a no)
  | (a, none) => if s.pages < most then some (s.grow a) else none
def treesF (held : Nat → Bool) (most : Nat) (chain : List (Nat × List Nat)) : Nat → TS → Option TS
  | 0, s => some s
  | n + 1, s => match treeF held most chain s with | some s2 => treesF held most chain n s2 | none => none
/-- what has been taken: each once, below the end; what is left was not taken -/
def TInv (s : TS) : Prop := Met s.pages s.trees ∧ ∀ x, s.left x = true → x < s.pages ∧ x ∉ s.trees
theorem Met.snoc {p q x : Nat} {l : List Nat} (h : Met p l) (hx : x ∉ l) (hp : p ≤ q) (hq : x < q) : Met q (l ++ [x]) := by
  refine ⟨List.nodup_append.2 ⟨h.1, by simp, fun a ha b hb => ?_⟩, fun y hy => ?_⟩
  · rw [List.mem_singleton.1 hb]
    exact fun e => hx (e ▸ ha)
  · rcases List.mem_append.1 hy with h1 | h1
    · exact Nat.lt_of_lt_of_le (h.2 y h1) hp
    · rw [List.mem_singleton.1 h1]; exact hq
theorem TInv.take {s : TS} (h : TInv s) (a no : Nat) (hn : s.left no = true) : TInv (s.take a no) := by
  refine ⟨h.1.snoc (h.2 no hn).2 (Nat.le_refl _) (h.2 no hn).1, fun x hx => ?_⟩
  simp only [TS.take, Bool.and_eq_true, Bool.not_eq_true', decide_eq_false_iff_not] at hx
  refine ⟨(h.2 x hx.2).1, fun hm => ?_⟩
  rcases List.mem_append.1 hm with h1 | h1
  · exact (h.2 x hx.2).2 h1
  · exact hx.1 (List.mem_singleton.1 h1)
theorem TInv.grow {s : TS} (h : TInv s) (a : Nat) : TInv (s.grow a) := by
  refine ⟨h.1.snoc (fun hm => absurd (h.1.2 _ hm) (Nat.lt_irrefl _)) (Nat.le_succ _) (Nat.lt_succ_self _), fun x hx => ?_⟩
  have h1 := h.2 x hx
  refine ⟨Nat.lt_succ_of_lt h1.1, fun hm => ?_⟩
  rcases List.mem_append.1 hm with h2 | h2
  · exact h1.2 h2
  · rw [List.mem_singleton.1 h2] at h1
    exact absurd h1.1 (Nat.lt_irrefl _)
theorem scanF_drop {m : Nat → Bool} {cs : List (Nat × List Nat)} {k : Nat} (h : k < cs.length) : scanF m (cs.drop k) k = match cs[k].2.find? m with | some no => (k, some no) | none => scanF m (cs.drop (k + 1)) (k + 1) := by
  rw [List.drop_eq_getElem_cons h, scanF]
theorem scanF_le {m : Nat → Bool} : ∀ (cs : List (Nat × List Nat)) (k : Nat), (scanF m cs k).1 ≤ k + cs.length
  | [], k => Nat.le_refl _
  | c :: r, k => by
    rw [scanF]
    split
    · exact Nat.le_add_right _ _
    · have := scanF_le (m := m) r (k + 1)
      rw [List.length_cons]
      omega
theorem IdxAt.no {p : Nat → Bool} {xs : List Nat} {e : Ending} (h : IdxAt p xs e) (hf : xs.find? p = none) : e = .returned (.int .i64 (-1)) := by
  rcases h with ⟨k, hk, _, h1, _⟩ | ⟨h1, _⟩
  · have := List.find?_eq_none.1 hf _ (List.getElem_mem hk)
    rw [h1] at this
    exact absurd rfl this
  · exact h1
theorem IdxAt.yes {p : Nat → Bool} {xs : List Nat} {e : Ending} {y : Nat} (h : IdxAt p xs e) (hf : xs.find? p = some y) : ∃ k, ∃ h : k < xs.length, e = .returned (.int .i64 (k : Int)) ∧ xs[k] = y := by
  rcases h with ⟨k, hk, he, h1, h2⟩ | ⟨_, h1⟩
  · refine ⟨k, hk, he, ?_⟩
    obtain ⟨h3, l1, l2, h4, h5⟩ := List.find?_eq_some_iff_append.1 hf
    have h6 : l1.length = k := by
      rcases Nat.lt_trichotomy l1.length k with h7 | h7 | h7
      · have h8 := h2 l1.length (by rw [h4]; simp) h7
        have h9 : xs[l1.length]'(by rw [h4]; simp) = y := by simp [h4]
        rw [h9, h3] at h8
        cases h8
      · exact h7
      · have h8 : xs[k] = l1[k] := by simp [h4, List.getElem_append_left h7]
        have h9 := h5 l1[k] (List.getElem_mem h7)
        rw [← h8, h1] at h9
        cases h9
    subst h6
    simp [h4]
  · obtain ⟨h3, l1, l2, h4, h5⟩ := List.find?_eq_some_iff_append.1 hf
    have h8 := h1 l1.length (by rw [h4]; simp)
    have h9 : xs[l1.length]'(by rw [h4]; simp) = y := by simp [h4]
    rw [h9, h3] at h8
    cases h8
theorem mod_mapTurned {w w' : World} {b : Nat} (h : w.mapTurned w' b) : Mod (fun k => k = b) w w' := Mod.grown h.grown (fun k e => (Option.some.inj e).symm)
theorem TB.mod {S : Nat → Prop} {w w' : World} {T : Nat} {tv lv : Value} {op pages hb lb most : Nat} {chv : Value} (h : TB w T tv lv op pages hb lb most chv) (m : Mod S w w') (hn : ¬ S T) : TB w' T tv lv op pages hb lb most chv := m.heap h hn
theorem TB.set0 {w : World} {T : Nat} {tv lv : Value} {op pages hb lb most : Nat} {chv : Value} (h : TB w T tv lv op pages hb lb most chv) (u : Value) : TB (w.setCell ⟨T, 0, none⟩ u) T u lv op pages hb lb most chv := by
  unfold TB at h ⊢
  rw [heap_set h]
  rfl
theorem TB.set1 {w : World} {T : Nat} {tv lv : Value} {op pages hb lb most : Nat} {chv : Value} (h : TB w T tv lv op pages hb lb most chv) (u : Value) : TB (w.setCell ⟨T, 1, none⟩ u) T tv u op pages hb lb most chv := by
  unfold TB at h ⊢
  rw [heap_set h]
  rfl
theorem TB.set2 {w : World} {T : Nat} {tv lv : Value} {op pages hb lb most : Nat} {chv : Value} (h : TB w T tv lv op pages hb lb most chv) (u : Value) (op2 : Nat) (hu : u = .int .i64 (op2 : Int)) : TB (w.setCell ⟨T, 2, none⟩ u) T tv lv op2 pages hb lb most chv := by
  subst hu
  unfold TB at h ⊢
  rw [heap_set h]
  rfl
theorem treeF_yes {held : Nat → Bool} {most : Nat} {chain : List (Nat × List Nat)} {s : TS} {a no : Nat} (h : scanF (mayF s.left held) (chain.drop s.at_) s.at_ = (a, some no)) : treeF held most chain s = some (s.take a no) := by
  unfold treeF
  rw [h]
theorem treeF_no {held : Nat → Bool} {most : Nat} {chain : List (Nat × List Nat)} {s : TS} {a : Nat} (h : scanF (mayF s.left held) (chain.drop s.at_) s.at_ = (a, none)) : treeF held most chain s = if s.pages < most then some (s.grow a) else none := by
  unfold treeF
  rw [h]
theorem treesF_go {held : Nat → Bool} {most : Nat} {chain : List (Nat × List Nat)} {s s2 : TS} {n k : Nat} (hk : k < n) (h : treeF held most chain s = some s2) : treesF held most chain (n - k) s = treesF held most chain (n - (k + 1)) s2 := by
  obtain ⟨d, hd⟩ : ∃ d, n - k = d + 1 := ⟨n - k - 1, by omega⟩
  rw [hd, show n - (k + 1) = d by omega, treesF, h]
theorem treesF_stop {held : Nat → Bool} {most : Nat} {chain : List (Nat × List Nat)} {s : TS} {n k : Nat} (hk : k < n) (h : treeF held most chain s = none) : treesF held most chain (n - k) s = none := by
  obtain ⟨d, hd⟩ : ∃ d, n - k = d + 1 := ⟨n - k - 1, by omega⟩
  rw [hd, treesF, h]
/-- where a plan and its chain lie -/
structure Seat (w0 : World) (chv : Value) (chain : List (Nat × List Nat)) (T hb lb B : Nat) : Prop where
  row : CRow w0 chv chain
  h0 : w0.heap.size ≤ hb
  l0 : w0.heap.size ≤ lb
  t0 : w0.heap.size ≤ T
  th : T ≠ hb
  tl : T ≠ lb
  hl : hb ≠ lb
  tB : T < B
  hB : hb < B
  lB : lb < B
def TMod (T lb B : Nat) (w w' : World) : Prop := Mod (fun k => k = T ∨ k = lb ∨ B ≤ k) w w'
def TreesPost (w0 : World) (chv : Value) (chain : List (Nat × List Nat)) (T hb lb B : Nat) (lv : Value) (most nl : Nat) (r : Option TS) (w : World) (e : Ending) (w' : World) : Prop :=
  TMod T lb B w w' ∧ match r with
  | some s => e = .returned (.bool true) ∧ ∃ tv, TB w' T tv lv s.opened s.pages hb lb most chv ∧ OwnM w' B tv s.trees ∧ SetM w' lb nl s.left
  | none => e = .returned (.bool false)
set_option maxRecDepth 5000 in
set_option maxHeartbeats 4000000 in
theorem trees_any (w0 : World) (chv : Value) (chain : List (Nat × List Nat)) (T hb lb B : Nat) (tv lv : Value) (most nh nl n : Nat) (held : Nat → Bool) (s0 : TS) (w : World) (hs : Hid (Seat w0 chv chain T hb lb B)) (hw : Hid (Below w0.heap.size w0 w)) (hBw : B ≤ w.heap.size) (hm : most ≤ 65536) (ha0 : s0.at_ = 0)
    (ht : Hid (TB w T tv lv s0.opened s0.pages hb lb most chv)) (ho : Hid (OwnM w B tv s0.trees)) (hh : Hid (SetM w hb nh held)) (hl : Hid (SetM w lb nl s0.left)) (hi : Hid (TInv s0)) (hpm : s0.pages ≤ most) (hn : n ≤ 9223372036854775807) :
    Calls Try.prog 72 #[.pointer (some ⟨T, 0, none⟩), .int .i64 (n : Int)] w (TreesPost w0 chv chain T hb lb B lv most nl (treesF held most chain n s0) w) := by
  have hTB := hs.out.tB
  have hHB := hs.out.hB
  have hLB := hs.out.lB
  have hTh := hs.out.th
  have hTl := hs.out.tl
  have hhl := hs.out.hl
  have ht0 := hs.out.t0
  have hh0 := hs.out.h0
  have hl0 := hs.out.l0
  have HYes : Hid (∀ s wr tv', treesF held most chain n s0 = some s → TMod T lb B w wr → TB wr T tv' lv s.opened s.pages hb lb most chv → OwnM wr B tv' s.trees → SetM wr lb nl s.left → TreesPost w0 chv chain T hb lb B lv most nl (treesF held most chain n s0) w (.returned (.bool true)) wr) := fun s wr tv' h1 h2 h3 h4 h5 => by
    rw [h1]
    exact ⟨h2, rfl, tv', h3, h4, h5⟩
  have HNo : Hid (∀ wr, treesF held most chain n s0 = none → TMod T lb B w wr → TreesPost w0 chv chain T hb lb B lv most nl (treesF held most chain n s0) w (.returned (.bool false)) wr) := fun wr h1 h2 => by
    rw [h1]
    exact ⟨h2, rfl⟩
  obtain ⟨R, hR⟩ : ∃ R, TreesPost w0 chv chain T hb lb B lv most nl (treesF held most chain n s0) w = R := ⟨_, rfl⟩
  rw [hR] at HYes HNo ⊢
  clear hR
  go_enter Try.func72, Try.ntmps72
  go_wp2_with fail
  apply wp_scope_straight
  go_wp2_with fail
  apply wp_label
  go_wp2_with fail
  go_loopw [5, 11] (fun av iv wr => ∃ (k : Nat) (s : TS) (tv' : Value), k ≤ n ∧ Hid (treesF held most chain n s0 = treesF held most chain (n - k) s) ∧ Hid (TMod T lb B w wr) ∧ Hid (TB wr T tv' lv s.opened s.pages hb lb most chv) ∧ Hid (OwnM wr B tv' s.trees) ∧ Hid (SetM wr lb nl s.left) ∧ Hid (TInv s) ∧ s.pages ≤ most ∧ s.at_ ≤ chain.length ∧ av = .int .i64 (s.at_ : Int) ∧ iv = .int .i64 (k : Int)) (fun av iv _ => n - (intOf iv).toNat)
  case atStart => exact ⟨0, s0, tv, Nat.zero_le _, rfl, Mod.refl _ _, ht, ho, hl, hi, hpm, by omega, by rw [ha0]; rfl, rfl⟩
  case round =>
    obtain ⟨k, s, tv2, hk, HF, HM, HT, HO, HL, HI, hpm2, ha, rfl, rfl⟩ := hrel
    by_cases hlt : k < n
    case neg =>
      have dk2 : decide ((k : Int) < (n : Int)) = false := decide_eq_false (by omega)
      obtain rfl : k = n := by omega
      have hf := HF.out
      rw [Nat.sub_self, treesF] at hf
      have hR := HYes.out s wr tv2 hf HM.out HT.out HO.out HL.out
      have HR := Lib.hid hR
      clear hf hR
      go_wp2_with fail
      exact HR.out
    case pos =>
      have dk2 : decide ((k : Int) < (n : Int)) = true := decide_eq_true (by omega)
      have ik : (k : Int) < (n : Int) := by omega
      go_upto_region 4 with fail
      have HW : Hid (Below w0.heap.size w0 wr) := hw.out.trans (HM.out.below (n := w0.heap.size) (fun j hj e => by omega) (by omega))
      have HC : Hid (CRow wr chv chain) := hs.out.row.below HW.out
      have HH : Hid (SetM wr hb nh held) := hh.out.mod HM.out (by omega)
      have hzw : B ≤ wr.heap.size := by have := HM.out.size; omega
      obtain ⟨had, hc1, cad, ccap, hcv, hcl, hcm, hcr⟩ : (∀ c ∈ chain, c.1 < 4294967296) ∧ True ∧ ∃ ad c, chv = .slice ad chain.length c ∧ chain.length ≤ c ∧ c ≤ 9223372036854775807 ∧ (0 < chain.length → ∃ b o, ad = some ⟨b, o, none⟩ ∧ b < wr.heap.size ∧ ∀ i (h : i < chain.length), ∃ nv, wr.rangeAt b (o + i * 2) [uN chain[i].1, nv] ∧ URow wr nv chain[i].2) := by
        obtain ⟨h0, ad, c, h1, h2, h3, h4⟩ := HC.out
        exact ⟨h0, trivial, ad, c, h1, h2, h3, h4⟩
      have HCR := Lib.hid hcr
      subst hcv
      clear hcr
      obtain ⟨m, hm1⟩ : ∃ m, mayF s.left held = m := ⟨_, rfl⟩
      have Hm := Lib.hid hm1
      clear hm1
      have hmf : ∀ (fn : Fn) (first cap : Array Value) (w : World), (Instr.makeFunc fn first cap).run Try.prog w = .ok (.func fn first cap) w := fun _ _ _ _ => rfl
      have c7 := heap_cell HT.out (o := 7)
      obtain ⟨wo, hwo⟩ : ∃ W, wr = W := ⟨_, rfl⟩
      go_loopw [5] (fun av wr2 => ∃ (j : Nat), j ≤ chain.length ∧ Hid (scanF m (chain.drop s.at_) s.at_ = scanF m (chain.drop j) j) ∧ wr2 = wo ∧ av = .int .i64 (j : Int)) (fun av _ => chain.length - (intOf av).toNat)
      case atStart => exact ⟨s.at_, ha, rfl, hwo, rfl⟩
      case round =>
        subst hwo
        obtain ⟨j, hj, HSC, rfl, rfl⟩ := hrel
        by_cases hjx : j < chain.length
        case pos =>
          have ij : (j : Int) < (chain.length : Int) := by omega
          obtain ⟨cb, co, rfl, _, hcs⟩ := HCR.out (by omega)
          obtain ⟨nv, hr, hu⟩ := hcs j hjx
          have hsc := HSC.out
          rw [scanF_drop hjx] at hsc
          obtain ⟨⟨pg, xs⟩, hcx⟩ : ∃ c, chain[j] = c := ⟨_, rfl⟩
          rw [hcx] at hr hu hsc
          simp only at hr hu hsc
          have HU := Lib.hid hu
          obtain ⟨nad, nc, hnv, hnl, hx9⟩ := hu.form
          have HX := Lib.hid hx9
          subst hnv
          have r1 := hr 1 _ rfl
          have HSC2 := Lib.hid hsc
          clear hr hu hsc hcx hcs HSC hx9
          have hct := HT.out
          cases hf : xs.find? m
          case none =>
            rw [hf] at HSC2
            have HF1 := Lib.hid hf
            clear hf
            go_upto_region 6 with fail
            with_reducible refine wp_region_list ?_
            with_reducible refine wpList_plain rfl ?_
            intro K hK
            go_simp
            first | with_reducible refine hK _ _ ?_ | refine hK _ _ ?_
            clear hK K
            (try simp only [Act.put, List.setIfInBounds_toArray, List.set_cons_zero, List.set_cons_succ])
            with_reducible refine wpList_plain rfl ?_
            intro K hK
            go_simp
            first | with_reducible refine hK _ _ ?_ | refine hK _ _ ?_
            clear hK K
            (try simp only [Act.put, List.setIfInBounds_toArray, List.set_cons_zero, List.set_cons_succ])
            with_reducible refine wpList_plain rfl ?_
            intro K hK
            go_simp
            first | with_reducible refine hK _ _ ?_ | refine hK _ _ ?_
            clear hK K
            (try simp only [Act.put, List.setIfInBounds_toArray, List.set_cons_zero, List.set_cons_succ])
            with_reducible refine wpList_plain rfl ?_
            intro K hK
            go_simp
            first | with_reducible refine hK _ _ ?_ | refine hK _ _ ?_
            clear hK K
            (try simp only [Act.put, List.setIfInBounds_toArray, List.set_cons_zero, List.set_cons_succ])
            with_reducible refine wpList_plain rfl ?_
            intro K hK
            go_simp
            first | with_reducible refine hK _ _ ?_ | refine hK _ _ ?_
            clear hK K
            (try simp only [Act.put, List.setIfInBounds_toArray, List.set_cons_zero, List.set_cons_succ])
            with_reducible refine wpList_plain rfl ?_
            intro K hK
            go_simp
            first | with_reducible refine hK _ _ ?_ | refine hK _ _ ?_
            clear hK K
            (try simp only [Act.put, List.setIfInBounds_toArray, List.set_cons_zero, List.set_cons_succ])
            with_reducible refine wpList_plain rfl ?_
            intro K hK
            go_simp
            first | with_reducible refine hK _ _ ?_ | refine hK _ _ ?_
            clear hK K
            (try simp only [Act.put, List.setIfInBounds_toArray, List.set_cons_zero, List.set_cons_succ])
            with_reducible refine wpList_plain rfl ?_
            intro K hK
            go_simp
            first | with_reducible refine hK _ _ ?_ | refine hK _ _ ?_
            clear hK K
            (try simp only [Act.put, List.setIfInBounds_toArray, List.set_cons_zero, List.set_cons_succ])
            with_reducible refine wpList_plain rfl ?_
            intro K hK
            go_simp
            first | with_reducible refine hK _ _ ?_ | refine hK _ _ ?_
            clear hK K
            (try simp only [Act.put, List.setIfInBounds_toArray, List.set_cons_zero, List.set_cons_succ])
            with_reducible refine wpList_plain rfl ?_
            intro K hK
            go_simp
            first | with_reducible refine hK _ _ ?_ | refine hK _ _ ?_
            clear hK K
            (try simp only [Act.put, List.setIfInBounds_toArray, List.set_cons_zero, List.set_cons_succ])
            with_reducible refine wpList_plain rfl ?_
            intro K hK
            go_simp
            refine (IndexFunc_may _ xs T tv2 lv s.opened s.pages hb lb most _ nh nl held s.left _ HU HT HH HL).mono ?_; rintro e w2 ⟨hix, rfl⟩; rw [Hm.out] at hix; obtain rfl := hix.no HF1.out
            first | with_reducible refine hK _ _ ?_ | refine hK _ _ ?_
            clear hK K
            (try simp only [Act.put, List.setIfInBounds_toArray, List.set_cons_zero, List.set_cons_succ])
            with_reducible refine wpList_plain rfl ?_
            intro K hK
            go_simp
            first | with_reducible refine hK _ _ ?_ | refine hK _ _ ?_
            clear hK K
            (try simp only [Act.put, List.setIfInBounds_toArray, List.set_cons_zero, List.set_cons_succ])
            go_wp2_with fail
            exact ⟨⟨j + 1, by omega, HSC2, by first | rfl | trivial, by go_num⟩, by simp [intOf]; omega⟩
          case some y =>
            rw [hf] at HSC2
            have HF1 := Lib.hid hf
            have hy0 : y < 4294967296 := HU.out.1 _ (List.mem_of_find?_eq_some hf)
            have hy1 : s.left y = true := by
              have := List.find?_some hf
              rw [← Hm.out] at this
              unfold mayF at this
              exact (Bool.and_eq_true_iff.1 this).1
            clear hf
            go_upto_region 6 with fail
            with_reducible refine wp_region_list ?_
            with_reducible refine wpList_plain rfl ?_
            intro K hK
            go_simp
            first | with_reducible refine hK _ _ ?_ | refine hK _ _ ?_
            clear hK K
            (try simp only [Act.put, List.setIfInBounds_toArray, List.set_cons_zero, List.set_cons_succ])
            with_reducible refine wpList_plain rfl ?_
            intro K hK
            go_simp
            first | with_reducible refine hK _ _ ?_ | refine hK _ _ ?_
            clear hK K
            (try simp only [Act.put, List.setIfInBounds_toArray, List.set_cons_zero, List.set_cons_succ])
            with_reducible refine wpList_plain rfl ?_
            intro K hK
            go_simp
            first | with_reducible refine hK _ _ ?_ | refine hK _ _ ?_
            clear hK K
            (try simp only [Act.put, List.setIfInBounds_toArray, List.set_cons_zero, List.set_cons_succ])
            with_reducible refine wpList_plain rfl ?_
            intro K hK
            go_simp
            first | with_reducible refine hK _ _ ?_ | refine hK _ _ ?_
            clear hK K
            (try simp only [Act.put, List.setIfInBounds_toArray, List.set_cons_zero, List.set_cons_succ])
            with_reducible refine wpList_plain rfl ?_
            intro K hK
            go_simp
            first | with_reducible refine hK _ _ ?_ | refine hK _ _ ?_
            clear hK K
            (try simp only [Act.put, List.setIfInBounds_toArray, List.set_cons_zero, List.set_cons_succ])
            with_reducible refine wpList_plain rfl ?_
            intro K hK
            go_simp
            first | with_reducible refine hK _ _ ?_ | refine hK _ _ ?_
            clear hK K
            (try simp only [Act.put, List.setIfInBounds_toArray, List.set_cons_zero, List.set_cons_succ])
            with_reducible refine wpList_plain rfl ?_
            intro K hK
            go_simp
            first | with_reducible refine hK _ _ ?_ | refine hK _ _ ?_
            clear hK K
            (try simp only [Act.put, List.setIfInBounds_toArray, List.set_cons_zero, List.set_cons_succ])
            with_reducible refine wpList_plain rfl ?_
            intro K hK
            go_simp
            first | with_reducible refine hK _ _ ?_ | refine hK _ _ ?_
            clear hK K
            (try simp only [Act.put, List.setIfInBounds_toArray, List.set_cons_zero, List.set_cons_succ])
            with_reducible refine wpList_plain rfl ?_
            intro K hK
            go_simp
            first | with_reducible refine hK _ _ ?_ | refine hK _ _ ?_
            clear hK K
            (try simp only [Act.put, List.setIfInBounds_toArray, List.set_cons_zero, List.set_cons_succ])
            with_reducible refine wpList_plain rfl ?_
            intro K hK
            go_simp
            first | with_reducible refine hK _ _ ?_ | refine hK _ _ ?_
            clear hK K
            (try simp only [Act.put, List.setIfInBounds_toArray, List.set_cons_zero, List.set_cons_succ])
            with_reducible refine wpList_plain rfl ?_
            intro K hK
            go_simp
            refine (IndexFunc_may _ xs T tv2 lv s.opened s.pages hb lb most _ nh nl held s.left _ HU HT HH HL).mono ?_; rintro e w2 ⟨hix, rfl⟩; rw [Hm.out] at hix; obtain ⟨q, hq, rfl, hxq⟩ := hix.yes HF1.out
            first | with_reducible refine hK _ _ ?_ | refine hK _ _ ?_
            clear hK K
            (try simp only [Act.put, List.setIfInBounds_toArray, List.set_cons_zero, List.set_cons_succ])
            with_reducible refine wpList_plain rfl ?_
            intro K hK
            go_simp
            first | with_reducible refine hK _ _ ?_ | refine hK _ _ ?_
            clear hK K
            (try simp only [Act.put, List.setIfInBounds_toArray, List.set_cons_zero, List.set_cons_succ])
            have iq : (q : Int) < (xs.length : Int) := by omega
            obtain ⟨nb, no, rfl, hcs2⟩ := HX.out (by omega)
            have r2 := hcs2 q hq
            rw [hxq] at r2
            unfold uN at r2
            have d0 : decide ((q : Int) < 0) = false := decide_eq_false (by omega)
            clear hcs2 hxq
            go_upto_region 9 with fail
            with_reducible refine wp_region_list ?_
            have c5 := heap_cell HT.out (o := 5)
            with_reducible refine wpList_plain rfl ?_
            intro K hK
            go_simp
            first | with_reducible refine hK _ _ ?_ | refine hK _ _ ?_
            clear hK K
            (try simp only [Act.put, List.setIfInBounds_toArray, List.set_cons_zero, List.set_cons_succ])
            with_reducible refine wpList_plain rfl ?_
            intro K hK
            go_simp
            first | with_reducible refine hK _ _ ?_ | refine hK _ _ ?_
            clear hK K
            (try simp only [Act.put, List.setIfInBounds_toArray, List.set_cons_zero, List.set_cons_succ])
            with_reducible refine wpList_plain rfl ?_
            intro K hK
            go_simp
            first | with_reducible refine hK _ _ ?_ | refine hK _ _ ?_
            clear hK K
            (try simp only [Act.put, List.setIfInBounds_toArray, List.set_cons_zero, List.set_cons_succ])
            with_reducible refine wpList_plain rfl ?_
            intro K hK
            go_simp
            first | with_reducible refine hK _ _ ?_ | refine hK _ _ ?_
            clear hK K
            (try simp only [Act.put, List.setIfInBounds_toArray, List.set_cons_zero, List.set_cons_succ])
            with_reducible refine wpList_plain rfl ?_
            intro K hK
            go_simp
            first | with_reducible refine hK _ _ ?_ | refine hK _ _ ?_
            clear hK K
            (try simp only [Act.put, List.setIfInBounds_toArray, List.set_cons_zero, List.set_cons_succ])
            refine wpList_delM rfl _ _ rfl HL.out rfl y hy0 rfl (fun w3 L3 t3 => ?_)
            (try simp only [Act.put, List.setIfInBounds_toArray, List.set_cons_zero, List.set_cons_succ])
            have M3 := mod_mapTurned t3
            have HL3 : Hid (SetM w3 lb nl (s.take j y).left) := L3
            have HT3 := Lib.hid (HT.out.mod M3 (fun e => hTl e))
            have HO3 := Lib.hid (HO.out.mod M3 (fun g hg e => by have := HO.out.lt g hg; omega))
            have HM3 : Hid (TMod T lb B w w3) := HM.out.then (M3.mono (fun i _ e => .inr (.inl e)))
            have HI3 := Lib.hid (HI.out.take j y hy1)
            clear L3 t3 M3 c7 r1 r2 c5
            go_upto_region 10 with fail
            have c0 := heap_cell HT3.out (o := 0)
            have hml := HI.out.1.le
            with_reducible refine wp_region_list ?_
            with_reducible refine wpList_plain rfl ?_
            intro K hK
            go_simp
            first | with_reducible refine hK _ _ ?_ | refine hK _ _ ?_
            clear hK K
            (try simp only [Act.put, List.setIfInBounds_toArray, List.set_cons_zero, List.set_cons_succ])
            with_reducible refine wpList_plain rfl ?_
            intro K hK
            go_simp
            first | with_reducible refine hK _ _ ?_ | refine hK _ _ ?_
            clear hK K
            (try simp only [Act.put, List.setIfInBounds_toArray, List.set_cons_zero, List.set_cons_succ])
            with_reducible refine wpList_plain rfl ?_
            intro K hK
            go_simp
            first | with_reducible refine hK _ _ ?_ | refine hK _ _ ?_
            clear hK K
            (try simp only [Act.put, List.setIfInBounds_toArray, List.set_cons_zero, List.set_cons_succ])
            with_reducible refine wpList_plain rfl ?_
            intro K hK
            go_simp
            first | with_reducible refine hK _ _ ?_ | refine hK _ _ ?_
            clear hK K
            (try simp only [Act.put, List.setIfInBounds_toArray, List.set_cons_zero, List.set_cons_succ])
            with_reducible refine wpList_plain rfl ?_
            intro K hK
            go_simp
            first | with_reducible refine hK _ _ ?_ | refine hK _ _ ?_
            clear hK K
            (try simp only [Act.put, List.setIfInBounds_toArray, List.set_cons_zero, List.set_cons_succ])
            with_reducible refine wpList_plain rfl ?_
            intro K hK
            go_simp
            first | with_reducible refine hK _ _ ?_ | refine hK _ _ ?_
            clear hK K
            (try simp only [Act.put, List.setIfInBounds_toArray, List.set_cons_zero, List.set_cons_succ])
            with_reducible refine wpList_plain rfl ?_
            intro K hK
            go_simp
            first | with_reducible refine hK _ _ ?_ | refine hK _ _ ?_
            clear hK K
            (try simp only [Act.put, List.setIfInBounds_toArray, List.set_cons_zero, List.set_cons_succ])
            with_reducible refine wpList_plain rfl ?_
            intro K hK
            go_simp
            first | with_reducible refine hK _ _ ?_ | refine hK _ _ ?_
            clear hK K
            (try simp only [Act.put, List.setIfInBounds_toArray, List.set_cons_zero, List.set_cons_succ])
            refine wpList_appM w3 _ y rfl _ _ rfl B tv2 s.trees rfl HO3.out 1 rfl (by omega) (by have := HM3.out.size; omega) ?_
            intro tv4 w4 O4 M4 N4
            obtain ⟨ad4, cp4, hv4, hx4, hx5, hx6⟩ := O4.shape
            clear hx4 hx5 hx6
            obtain ⟨n4, hn4⟩ : ∃ n, (s.trees ++ [y]).length = n := ⟨_, rfl⟩
            rw [hn4] at hv4
            subst hv4
            clear hn4
            (try simp only [Act.put, List.setIfInBounds_toArray, List.set_cons_zero, List.set_cons_succ])
            have HT4 := Lib.hid (HT3.out.mod M4 (fun e => by have := (HO3.out.lt T e).1; omega))
            have HM4 : Hid (TMod T lb B w w4) := HM3.out.then (M4.mono (fun i _ e => .inr (.inr (HO3.out.lt i e).1)))
            have HL4 := Lib.hid (HL3.out.mod M4 (fun e => by have := (HO3.out.lt lb e).1; omega))
            have f4 := heap_free HT4.out 0
            clear c0
            have c4 := heap_cell HT4.out (o := 0)
            with_reducible refine wpList_plain rfl ?_
            intro K hK
            go_simp
            first | with_reducible refine hK _ _ ?_ | refine hK _ _ ?_
            clear hK K
            (try simp only [Act.put, List.setIfInBounds_toArray, List.set_cons_zero, List.set_cons_succ])
            with_reducible refine wpList_plain rfl ?_
            intro K hK
            go_simp
            first | with_reducible refine hK _ _ ?_ | refine hK _ _ ?_
            clear hK K
            (try simp only [Act.put, List.setIfInBounds_toArray, List.set_cons_zero, List.set_cons_succ])
            with_reducible refine wpList_plain rfl ?_
            intro K hK
            go_simp
            first | with_reducible refine hK _ _ ?_ | refine hK _ _ ?_
            clear hK K
            (try simp only [Act.put, List.setIfInBounds_toArray, List.set_cons_zero, List.set_cons_succ])
            with_reducible refine wpList_plain rfl ?_
            intro K hK
            go_simp
            first | with_reducible refine hK _ _ ?_ | refine hK _ _ ?_
            clear hK K
            (try simp only [Act.put, List.setIfInBounds_toArray, List.set_cons_zero, List.set_cons_succ])
            have HT5 := Lib.hid (HT4.out.set0 (.slice ad4 n4 cp4))
            have M5 := Mod.set (S := fun k => k = T) (o := 0) w4 rfl (.slice ad4 n4 cp4)
            obtain ⟨w5, hw5⟩ : ∃ W, w4.setCell ⟨T, 0, none⟩ (.slice ad4 n4 cp4) = W := ⟨_, rfl⟩
            rw [hw5] at HT5 M5
            rw [hw5]
            have HM5 : Hid (TMod T lb B w w5) := HM4.out.then (M5.mono (fun i _ e => .inl e))
            have HL5 := Lib.hid (HL4.out.mod M5 (fun e => hTl e.symm))
            have HO5 := Lib.hid (O4.mod M5 (fun g hg e => by rcases N4 g hg with h1 | h1; have := (HO3.out.lt g h1).1; omega; have := HM3.out.size; omega))
            clear f4 c4 HT4 HM4 HL4 hw5 M5 O4 M4 N4
            have f5 := heap_free HT5.out 2
            have c5 := heap_cell HT5.out (o := 2)
            obtain ⟨j2, hj2⟩ : ∃ j2 : Nat, j2 = j + 1 := ⟨_, rfl⟩
            have ew1 : (j : Int) + 1 = (j2 : Int) := by omega
            have ew2 : IntKind.i64.wrap (j2 : Int) = (j2 : Int) := IntWalk.i64_in _ (by omega)
            have HJ2 := Lib.hid hj2
            clear hj2
            go_upto_region 11 with fail
            with_reducible refine wp_region_list ?_
            with_reducible refine wpList_plain rfl ?_
            intro K hK
            go_simp
            first | with_reducible refine hK _ _ ?_ | refine hK _ _ ?_
            clear hK K
            (try simp only [Act.put, List.setIfInBounds_toArray, List.set_cons_zero, List.set_cons_succ])
            with_reducible refine wpList_plain rfl ?_
            intro K hK
            go_simp
            first | with_reducible refine hK _ _ ?_ | refine hK _ _ ?_
            clear hK K
            (try simp only [Act.put, List.setIfInBounds_toArray, List.set_cons_zero, List.set_cons_succ])
            with_reducible refine wpList_plain rfl ?_
            intro K hK
            go_simp
            first | with_reducible refine hK _ _ ?_ | refine hK _ _ ?_
            clear hK K
            (try simp only [Act.put, List.setIfInBounds_toArray, List.set_cons_zero, List.set_cons_succ])
            with_reducible refine wpList_plain rfl ?_
            intro K hK
            go_simp
            first | with_reducible refine hK _ _ ?_ | refine hK _ _ ?_
            clear hK K
            (try simp only [Act.put, List.setIfInBounds_toArray, List.set_cons_zero, List.set_cons_succ])
            with_reducible refine wpList_plain rfl ?_
            intro K hK
            go_simp
            first | with_reducible refine hK _ _ ?_ | refine hK _ _ ?_
            clear hK K
            (try simp only [Act.put, List.setIfInBounds_toArray, List.set_cons_zero, List.set_cons_succ])
            with_reducible refine wpList_plain rfl ?_
            intro K hK
            go_simp
            first | with_reducible refine hK _ _ ?_ | refine hK _ _ ?_
            clear hK K
            (try simp only [Act.put, List.setIfInBounds_toArray, List.set_cons_zero, List.set_cons_succ])
            with_reducible refine wpList_plain rfl ?_
            intro K hK
            go_simp
            first | with_reducible refine hK _ _ ?_ | refine hK _ _ ?_
            clear hK K
            (try simp only [Act.put, List.setIfInBounds_toArray, List.set_cons_zero, List.set_cons_succ])
            have HT6 : Hid (TB (w5.setCell ⟨T, 2, none⟩ (.int .i64 (j2 : Int))) T (.slice ad4 n4 cp4) lv (s.take j y).opened (s.take j y).pages hb lb most _) := HT5.out.set2 _ (j + 1) (by rw [HJ2.out])
            have M6 := Mod.set (S := fun k => k = T) (o := 2) w5 rfl (.int .i64 (j2 : Int))
            obtain ⟨w6, hw6⟩ : ∃ W, w5.setCell ⟨T, 2, none⟩ (.int .i64 (j2 : Int)) = W := ⟨_, rfl⟩
            rw [hw6] at HT6 M6
            rw [hw6]
            have HM6 : Hid (TMod T lb B w w6) := HM5.out.then (M6.mono (fun i _ e => .inl e))
            have HL6 := Lib.hid (HL5.out.mod M6 (fun e => hTl e.symm))
            have HO6 := Lib.hid (HO5.out.mod M6 (fun g hg e => by have := HO5.out.lt g hg; omega))
            have HF6 : Hid (treesF held most chain n s0 = treesF held most chain (n - (k + 1)) (s.take j y)) := by
              have h1 := HSC2.out
              rw [← Hm.out] at h1
              exact HF.out.trans (treesF_go hlt (treeF_yes h1))
            clear ew1 ew2 f5 c5 hw6 M6 HT5 HM5 HL5 HO5 HSC2 HF
            go_wp2_with fail
            exact ⟨⟨k + 1, s.take j y, .slice ad4 n4 cp4, by omega, HF6, HM6, HT6, HO6, HL6, HI3, hpm2, by show j ≤ chain.length; omega, rfl, by go_num⟩, by simp [intOf]; omega⟩
        case neg =>
          have ij : ¬ (j : Int) < (chain.length : Int) := by omega
          obtain rfl : j = chain.length := by omega
          have hsc := HSC.out
          rw [List.drop_length, scanF, ← Hm.out] at hsc
          have HSC2 := Lib.hid hsc
          clear hsc HSC
          by_cases hpg : s.pages < most
          case neg =>
            have hR := HNo.out
            have HF7 := Lib.hid (HF.out.trans (treesF_stop hlt (by rw [treeF_no HSC2.out, if_neg hpg])))
            go_upto_region 12 with fail
            with_reducible refine wp_region_list ?_
            with_reducible refine wpList_plain rfl ?_
            intro K hK
            go_simp
            first | with_reducible refine hK _ _ ?_ | refine hK _ _ ?_
            clear hK K
            (try simp only [Act.put, List.setIfInBounds_toArray, List.set_cons_zero, List.set_cons_succ])
            with_reducible refine wpList_plain rfl ?_
            intro K hK
            go_simp
            refine (end_no T tv2 lv s.opened s.pages hb lb most _ _ HT hpg).mono ?_; rintro e w7 ⟨rfl, b7⟩
            first | with_reducible refine hK _ _ ?_ | refine hK _ _ ?_
            clear hK K
            (try simp only [Act.put, List.setIfInBounds_toArray, List.set_cons_zero, List.set_cons_succ])
            with_reducible refine wpList_plain rfl ?_
            intro K hK
            go_simp
            first | with_reducible refine hK _ _ ?_ | refine hK _ _ ?_
            clear hK K
            (try simp only [Act.put, List.setIfInBounds_toArray, List.set_cons_zero, List.set_cons_succ])
            have HM7 : Hid (TMod T lb B w w7) := HM.out.then (Mod.of _ b7)
            have hRR := HNo.out w7 HF7.out HM7.out
            have HRR := Lib.hid hRR
            clear hR hRR b7
            go_wp2_with fail
            exact HRR.out
          case pos =>
            have HI7 := Lib.hid (HI.out.grow chain.length)
            have HF7 : Hid (treesF held most chain n s0 = treesF held most chain (n - (k + 1)) (s.grow chain.length)) := HF.out.trans (treesF_go hlt (by rw [treeF_no HSC2.out, if_pos hpg]))
            go_upto_region 12 with fail
            with_reducible refine wp_region_list ?_
            with_reducible refine wpList_plain rfl ?_
            intro K hK
            go_simp
            first | with_reducible refine hK _ _ ?_ | refine hK _ _ ?_
            clear hK K
            (try simp only [Act.put, List.setIfInBounds_toArray, List.set_cons_zero, List.set_cons_succ])
            with_reducible refine wpList_plain rfl ?_
            intro K hK
            go_simp
            refine (end_yes T tv2 lv s.opened s.pages hb lb most _ _ HT hpg hm).mono ?_; rintro e w7 ⟨rfl, t7, m7⟩
            first | with_reducible refine hK _ _ ?_ | refine hK _ _ ?_
            clear hK K
            (try simp only [Act.put, List.setIfInBounds_toArray, List.set_cons_zero, List.set_cons_succ])
            with_reducible refine wpList_plain rfl ?_
            intro K hK
            go_simp
            first | with_reducible refine hK _ _ ?_ | refine hK _ _ ?_
            clear hK K
            (try simp only [Act.put, List.setIfInBounds_toArray, List.set_cons_zero, List.set_cons_succ])
            have HT7 := Lib.hid t7
            have HM7 : Hid (TMod T lb B w w7) := HM.out.then (m7.mono (fun i _ e => .inl e))
            have HL7 := Lib.hid (HL.out.mod m7 (fun e => hTl e.symm))
            have HO7 := Lib.hid (HO.out.mod m7 (fun g hg e => by have := HO.out.lt g hg; omega))
            clear t7 m7 c7 HSC2 HF
            go_upto_region 15 with fail
            have c0 := heap_cell HT7.out (o := 0)
            have hml := HI.out.1.le
            with_reducible refine wp_region_list ?_
            with_reducible refine wpList_plain rfl ?_
            intro K hK
            go_simp
            first | with_reducible refine hK _ _ ?_ | refine hK _ _ ?_
            clear hK K
            (try simp only [Act.put, List.setIfInBounds_toArray, List.set_cons_zero, List.set_cons_succ])
            with_reducible refine wpList_plain rfl ?_
            intro K hK
            go_simp
            first | with_reducible refine hK _ _ ?_ | refine hK _ _ ?_
            clear hK K
            (try simp only [Act.put, List.setIfInBounds_toArray, List.set_cons_zero, List.set_cons_succ])
            with_reducible refine wpList_plain rfl ?_
            intro K hK
            go_simp
            first | with_reducible refine hK _ _ ?_ | refine hK _ _ ?_
            clear hK K
            (try simp only [Act.put, List.setIfInBounds_toArray, List.set_cons_zero, List.set_cons_succ])
            with_reducible refine wpList_plain rfl ?_
            intro K hK
            go_simp
            first | with_reducible refine hK _ _ ?_ | refine hK _ _ ?_
            clear hK K
            (try simp only [Act.put, List.setIfInBounds_toArray, List.set_cons_zero, List.set_cons_succ])
            with_reducible refine wpList_plain rfl ?_
            intro K hK
            go_simp
            first | with_reducible refine hK _ _ ?_ | refine hK _ _ ?_
            clear hK K
            (try simp only [Act.put, List.setIfInBounds_toArray, List.set_cons_zero, List.set_cons_succ])
            with_reducible refine wpList_plain rfl ?_
            intro K hK
            go_simp
            first | with_reducible refine hK _ _ ?_ | refine hK _ _ ?_
            clear hK K
            (try simp only [Act.put, List.setIfInBounds_toArray, List.set_cons_zero, List.set_cons_succ])
            with_reducible refine wpList_plain rfl ?_
            intro K hK
            go_simp
            first | with_reducible refine hK _ _ ?_ | refine hK _ _ ?_
            clear hK K
            (try simp only [Act.put, List.setIfInBounds_toArray, List.set_cons_zero, List.set_cons_succ])
            with_reducible refine wpList_plain rfl ?_
            intro K hK
            go_simp
            first | with_reducible refine hK _ _ ?_ | refine hK _ _ ?_
            clear hK K
            (try simp only [Act.put, List.setIfInBounds_toArray, List.set_cons_zero, List.set_cons_succ])
            refine wpList_appM w7 _ s.pages rfl _ _ rfl B tv2 s.trees rfl HO7.out 1 rfl (by omega) (by have := HM7.out.size; omega) ?_
            intro tv4 w4 O4 M4 N4
            obtain ⟨ad4, cp4, hv4, hx4, hx5, hx6⟩ := O4.shape
            clear hx4 hx5 hx6
            obtain ⟨n4, hn4⟩ : ∃ n, (s.trees ++ [s.pages]).length = n := ⟨_, rfl⟩
            rw [hn4] at hv4
            subst hv4
            clear hn4
            (try simp only [Act.put, List.setIfInBounds_toArray, List.set_cons_zero, List.set_cons_succ])
            have HT4 := Lib.hid (HT7.out.mod M4 (fun e => by have := (HO7.out.lt T e).1; omega))
            have HM4 : Hid (TMod T lb B w w4) := HM7.out.then (M4.mono (fun i _ e => .inr (.inr (HO7.out.lt i e).1)))
            have HL4 := Lib.hid (HL7.out.mod M4 (fun e => by have := (HO7.out.lt lb e).1; omega))
            have f4 := heap_free HT4.out 0
            clear c0
            have c4 := heap_cell HT4.out (o := 0)
            with_reducible refine wpList_plain rfl ?_
            intro K hK
            go_simp
            first | with_reducible refine hK _ _ ?_ | refine hK _ _ ?_
            clear hK K
            (try simp only [Act.put, List.setIfInBounds_toArray, List.set_cons_zero, List.set_cons_succ])
            with_reducible refine wpList_plain rfl ?_
            intro K hK
            go_simp
            first | with_reducible refine hK _ _ ?_ | refine hK _ _ ?_
            clear hK K
            (try simp only [Act.put, List.setIfInBounds_toArray, List.set_cons_zero, List.set_cons_succ])
            with_reducible refine wpList_plain rfl ?_
            intro K hK
            go_simp
            first | with_reducible refine hK _ _ ?_ | refine hK _ _ ?_
            clear hK K
            (try simp only [Act.put, List.setIfInBounds_toArray, List.set_cons_zero, List.set_cons_succ])
            with_reducible refine wpList_plain rfl ?_
            intro K hK
            go_simp
            first | with_reducible refine hK _ _ ?_ | refine hK _ _ ?_
            clear hK K
            (try simp only [Act.put, List.setIfInBounds_toArray, List.set_cons_zero, List.set_cons_succ])
            have HT5 := Lib.hid (HT4.out.set0 (.slice ad4 n4 cp4))
            have M5 := Mod.set (S := fun k => k = T) (o := 0) w4 rfl (.slice ad4 n4 cp4)
            obtain ⟨w5, hw5⟩ : ∃ W, w4.setCell ⟨T, 0, none⟩ (.slice ad4 n4 cp4) = W := ⟨_, rfl⟩
            rw [hw5] at HT5 M5
            rw [hw5]
            have HM5 : Hid (TMod T lb B w w5) := HM4.out.then (M5.mono (fun i _ e => .inl e))
            have HL5 := Lib.hid (HL4.out.mod M5 (fun e => hTl e.symm))
            have HO5 := Lib.hid (O4.mod M5 (fun g hg e => by rcases N4 g hg with h1 | h1; have := (HO7.out.lt g h1).1; omega; have := HM7.out.size; omega))
            clear f4 c4 HT4 HM4 HL4 hw5 M5 O4 M4 N4
            go_wp2_with fail
            exact ⟨⟨k + 1, s.grow chain.length, .slice ad4 n4 cp4, by omega, HF7, HM5, HT5, HO5, HL5, HI7, by show s.pages + 1 ≤ most; omega, Nat.le_refl _, rfl, by go_num⟩, by simp [intOf]; omega⟩
end Go.Proofs.Ytkngmnfgdlnddaa
