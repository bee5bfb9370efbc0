/-
  The walk of the closure of lists that opens a batch.
-/
import Derived.Test.YtkngmnfgdlnddaaTakB
import Derived.Test.YtkngmnfgdlnddaaTakC
namespace Go.Proofs.Ytkngmnfgdlnddaa
open Go.RowKit Go.Lib Hw Go.Maps
set_option linter.unusedVariables false

/-- the variables of lists: loose and left, each with a row of its own; where the plan is -/
structure LV (w : World) (LC FC TC T B : Nat) (v1 v2 : Value) (ls fs : List Nat) : Prop where
  c1 : w.heap[LC]? = some (.cells #[v1] 28 (0, 0))
  c2 : w.heap[FC]? = some (.cells #[v2] 28 (0, 0))
  ct : w.heap[TC]? = some (.cells #[.pointer (some ⟨T, 0, none⟩)] 126 (0, 0))
  o1 : OwnO w B v1 ls
  o2 : OwnO w B v2 fs
  a1 : ∀ g, v1.ownBlock = some g → g ≠ LC ∧ g ≠ FC ∧ g ≠ TC ∧ v2.ownBlock ≠ some g
  a2 : ∀ g, v2.ownBlock = some g → g ≠ LC ∧ g ≠ FC ∧ g ≠ TC
  lf : LC ≠ FC
  lt : LC ≠ TC
  ft : FC ≠ TC
theorem LV.mod {w w' : World} {S : Nat → Prop} {LC FC TC T B : Nat} {v1 v2 : Value} {ls fs : List Nat} (h : LV w LC FC TC T B v1 v2 ls fs) (m : Mod S w w') (s1 : ¬ S LC) (s2 : ¬ S FC) (s3 : ¬ S TC) (s4 : ∀ g, v1.ownBlock = some g → ¬ S g) (s5 : ∀ g, v2.ownBlock = some g → ¬ S g) : LV w' LC FC TC T B v1 v2 ls fs :=
  ⟨m.heap h.c1 s1, m.heap h.c2 s2, m.heap h.ct s3, h.o1.mod m s4, h.o2.mod m s5, h.a1, h.a2, h.lf, h.lt, h.ft⟩
/-- what may have turned: the two variables and their rows -/
def LS (LC FC : Nat) (v1 v2 : Value) (k : Nat) : Prop := k = LC ∨ k = FC ∨ v1.ownBlock = some k ∨ v2.ownBlock = some k
/-- a row that came out of another one -/
def From (w : World) (v v' : Value) : Prop := ∀ g, v'.ownBlock = some g → v.ownBlock = some g ∨ w.heap.size ≤ g
theorem From.refl (w : World) (v : Value) : From w v v := fun g h => .inl h
theorem From.trans {w w2 : World} {a b c : Value} (h : From w a b) (k : From w2 b c) (hz : w.heap.size ≤ w2.heap.size) : From w a c := fun g hg => (k g hg).elim (h g) (fun h => .inr (Nat.le_trans hz h))
/-- another row in the variable loose -/
theorem LV.put1 {w w' : World} {LC FC TC T B : Nat} {v1 v2 v3 : Value} {ls fs xs : List Nat} (h : LV w LC FC TC T B v1 v2 ls fs) (ho : OwnO w' B v3 xs) (m : Mod (fun k => v1.ownBlock = some k) w w') (hf : From w v1 v3) : LV (w'.setCell ⟨LC, 0, none⟩ v3) LC FC TC T B v3 v2 xs fs ∧ Mod (fun k => k = LC ∨ v1.ownBlock = some k) w (w'.setCell ⟨LC, 0, none⟩ v3) := by
  have n1 : ∀ g, v3.ownBlock = some g → g ≠ LC ∧ g ≠ FC ∧ g ≠ TC ∧ v2.ownBlock ≠ some g := fun g hg => by
    rcases hf g hg with h1 | h1
    · exact h.a1 g h1
    · refine ⟨fun e => ?_, fun e => ?_, fun e => ?_, fun e => ?_⟩
      · have := heap_lt h.c1; omega
      · have := heap_lt h.c2; omega
      · have := heap_lt h.ct; omega
      · have := (h.o2.lt g e).2; omega
  have m2 := Mod.set (S := fun k => k = LC) (o := 0) w' rfl v3
  have d1 : w'.heap[LC]? = some (.cells #[v1] 28 (0, 0)) := m.heap h.c1 (fun e => (h.a1 LC e).1 rfl)
  have d2 := m.heap h.c2 (fun e => (h.a1 FC e).2.1 rfl)
  have d3 := m.heap h.ct (fun e => (h.a1 TC e).2.2.1 rfl)
  refine ⟨⟨by rw [heap_set d1]; rfl, m2.heap d2 (fun e => h.lf e.symm), m2.heap d3 (fun e => h.lt e.symm), ho.mod m2 (fun g hg e => (n1 g hg).1 e), (h.o2.mod m (fun g hg e => (h.a1 g e).2.2.2 hg)).mod m2 (fun g hg e => (h.a2 g hg).1 e), n1, h.a2, h.lf, h.lt, h.ft⟩, ?_⟩
  exact (m.mono (fun k _ e => .inr e)).then (m2.mono (fun k _ e => .inl e))
/-- another row in the variable left -/
theorem LV.put2 {w w' : World} {LC FC TC T B : Nat} {v1 v2 v3 : Value} {ls fs xs : List Nat} (h : LV w LC FC TC T B v1 v2 ls fs) (ho : OwnO w' B v3 xs) (m : Mod (fun k => v2.ownBlock = some k) w w') (hf : From w v2 v3) : LV (w'.setCell ⟨FC, 0, none⟩ v3) LC FC TC T B v1 v3 ls xs ∧ Mod (fun k => k = FC ∨ v2.ownBlock = some k) w (w'.setCell ⟨FC, 0, none⟩ v3) := by
  have n2 : ∀ g, v3.ownBlock = some g → g ≠ LC ∧ g ≠ FC ∧ g ≠ TC := fun g hg => by
    rcases hf g hg with h1 | h1
    · exact h.a2 g h1
    · refine ⟨fun e => ?_, fun e => ?_, fun e => ?_⟩
      · have := heap_lt h.c1; omega
      · have := heap_lt h.c2; omega
      · have := heap_lt h.ct; omega
  have n1 : ∀ g, v1.ownBlock = some g → g ≠ LC ∧ g ≠ FC ∧ g ≠ TC ∧ v3.ownBlock ≠ some g := fun g hg => by
    have h1 := h.a1 g hg
    refine ⟨h1.1, h1.2.1, h1.2.2.1, fun e => ?_⟩
    rcases hf g e with h2 | h2
    · exact h1.2.2.2 h2
    · have := (h.o1.lt g hg).2; omega
  have m2 := Mod.set (S := fun k => k = FC) (o := 0) w' rfl v3
  have d1 := m.heap h.c1 (fun e => (h.a2 LC e).1 rfl)
  have d2 : w'.heap[FC]? = some (.cells #[v2] 28 (0, 0)) := m.heap h.c2 (fun e => (h.a2 FC e).2.1 rfl)
  have d3 := m.heap h.ct (fun e => (h.a2 TC e).2.2 rfl)
  refine ⟨⟨m2.heap d1 (fun e => h.lf e), by rw [heap_set d2]; rfl, m2.heap d3 (fun e => h.ft e.symm), (h.o1.mod m (fun g hg e => (h.a1 g hg).2.2.2 e)).mod m2 (fun g hg e => (h.a1 g hg).2.1 e), ho.mod m2 (fun g hg e => (n2 g hg).2.1 e), n1, n2, h.lf, h.lt, h.ft⟩, ?_⟩
  exact (m.mono (fun k _ e => .inr e)).then (m2.mono (fun k _ e => .inl e))
theorem ls1 {w wr : World} {LC FC : Nat} {v1 v2 u1 : Value} (hf : From w v1 u1) : ∀ k, k < w.heap.size → (k = LC ∨ u1.ownBlock = some k) → LS LC FC v1 v2 k := fun k hk h => by
  rcases h with h | h
  · exact .inl h
  · rcases hf k h with h1 | h1
    · exact .inr (.inr (.inl h1))
    · omega
theorem ls2 {w wr : World} {LC FC : Nat} {v1 v2 u2 : Value} (hf : From w v2 u2) : ∀ k, k < w.heap.size → (k = FC ∨ u2.ownBlock = some k) → LS LC FC v1 v2 k := fun k hk h => by
  rcases h with h | h
  · exact .inr (.inl h)
  · rcases hf k h with h1 | h1
    · exact .inr (.inr (.inr h1))
    · omega
/-- what the opening of a batch leaves -/
def OpenPost (LC FC TC T B : Nat) (v1 v2 : Value) (ls fs : List Nat) (w : World) (e : Ending) (w' : World) : Prop :=
  e = .returned (.tuple #[]) ∧ Mod (LS LC FC v1 v2) w w' ∧ ∃ u1 u2, LV w' LC FC TC T B u1 u2 ls fs ∧ From w v1 u1 ∧ From w v2 u2
theorem take_filter {p : Nat → Bool} {xs : List Nat} {k : Nat} (h : k < xs.length) : (xs.take (k + 1)).filter p = (xs.take k).filter p ++ (if p xs[k] = true then [xs[k]] else []) := by
  rw [List.take_succ_eq_append_getElem h, List.filter_append]
  congr 1
  by_cases hp : p xs[k] = true
  · rw [if_pos hp, List.filter_cons_of_pos hp]; rfl
  · rw [if_neg hp, List.filter_cons_of_neg hp]; rfl
set_option maxRecDepth 5000 in
set_option maxHeartbeats 4000000 in
theorem open_any (LC FC TC T B hb lb op pages most nh nl pg : Nat) (tv lv chv nv v1 v2 : Value) (held left : Nat → Bool) (xs ls fs : List Nat) (w : World)
    (hv : Hid (LV w LC FC TC T B v1 v2 ls fs)) (ht : Hid (TB w T tv lv op pages hb lb most chv)) (hh : Hid (SetM w hb nh held)) (hl : Hid (SetM w lb nl left)) (hx : Hid (URow w nv xs)) (hpg : pg < 4294967296) (hB : B ≤ w.heap.size)
    (hTl : ¬ LS LC FC v1 v2 T) (hhl : ¬ LS LC FC v1 v2 hb) (hll : ¬ LS LC FC v1 v2 lb) (hxl : 0 < xs.length → ∀ k, nv.ownBlock = some k → ¬ LS LC FC v1 v2 k)
    (hls : ls.length ≤ 1000000) (hfs : fs.length ≤ 1000000) (hxs : xs.length ≤ 1000000) :
    Calls Try.prog 89 #[.agg #[.int .u32 (pg : Int), nv], .pointer (some ⟨LC, 0, none⟩), .pointer (some ⟨TC, 0, none⟩), .pointer (some ⟨FC, 0, none⟩)] w (OpenPost LC FC TC T B v1 v2 (sortN (ls ++ (pg :: xs.filter left))) (sortN (fs ++ xs.filter (mayF left held))) w) := by
  obtain ⟨N, hN⟩ : ∃ N, w.heap.size = N := ⟨_, rfl⟩
  have HN := Lib.hid hN
  obtain ⟨nad, nc, hnv, hnl, _⟩ := hx.out.form
  subst hnv
  obtain ⟨l9, hl9⟩ : ∃ l, sortN (ls ++ (pg :: xs.filter left)) = l := ⟨_, rfl⟩
  obtain ⟨f9, hf9⟩ : ∃ l, sortN (fs ++ xs.filter (mayF left held)) = l := ⟨_, rfl⟩
  have HL9 := Lib.hid hl9
  have HF9 := Lib.hid hf9
  rw [hl9, hf9]
  obtain ⟨R, hR⟩ : ∃ R, OpenPost LC FC TC T B v1 v2 l9 f9 w = R := ⟨_, rfl⟩
  have HR : Hid (∀ w' u1 u2, Mod (LS LC FC v1 v2) w w' → LV w' LC FC TC T B u1 u2 l9 f9 → From w v1 u1 → From w v2 u2 → R (.returned (.tuple #[])) w') := fun w' u1 u2 h1 h2 h3 h4 => by
    rw [← hR]
    exact ⟨rfl, h1, u1, u2, h2, h3, h4⟩
  rw [hR]
  clear hN hR hl9 hf9
  go_enter Try.func89, Try.ntmps89
  go_upto_region 0 with fail
  with_reducible refine wp_region_list ?_
  refine wpList_boxB rfl _ _ rfl N HN.out #[.int .u32 (pg : Int), .slice nad xs.length nc] rfl ?_
  intro w0 e0 b0 z0
  (try simp only [Act.put, List.setIfInBounds_toArray, List.set_cons_zero, List.set_cons_succ])
  have E0 := Lib.hid e0
  have Z0 := Lib.hid z0
  have b0' : Below w.heap.size w w0 := by rw [HN.out]; exact b0
  have M0 : Hid (Mod (LS LC FC v1 v2) w w0) := Mod.of _ b0'
  have V0 : Hid (LV w0 LC FC TC T B v1 v2 ls fs) := hv.out.mod (Mod.of (fun _ => False) b0') id id id (fun _ _ h => h) (fun _ _ h => h)
  have hlcN : LC < N := by have := heap_lt hv.out.c1; have := HN.out; omega
  have hfcN : FC < N := by have := heap_lt hv.out.c2; have := HN.out; omega
  have htcN : TC < N := by have := heap_lt hv.out.ct; have := HN.out; omega
  have hBN : B ≤ N := by have := HN.out; omega
  have hN2 : w.heap.size = N := HN.out
  clear e0 b0 z0 b0'
  have k0 := heap_cell E0.out (o := 0)
  have cc := heap_cell V0.out.c1 (o := 0)
  go_upto_region 1 with fail
  with_reducible refine wp_region_list ?_
  with_reducible refine wpList_plain rfl ?_
  intro K hK
  go_simp
  first | with_reducible refine hK _ _ ?_ | refine hK _ _ ?_
  clear hK K
  (try simp only [Act.put, List.setIfInBounds_toArray, List.set_cons_zero, List.set_cons_succ])
  with_reducible refine wpList_plain rfl ?_
  intro K hK
  go_simp
  first | with_reducible refine hK _ _ ?_ | refine hK _ _ ?_
  clear hK K
  (try simp only [Act.put, List.setIfInBounds_toArray, List.set_cons_zero, List.set_cons_succ])
  with_reducible refine wpList_plain rfl ?_
  intro K hK
  go_simp
  first | with_reducible refine hK _ _ ?_ | refine hK _ _ ?_
  clear hK K
  (try simp only [Act.put, List.setIfInBounds_toArray, List.set_cons_zero, List.set_cons_succ])
  with_reducible refine wpList_plain rfl ?_
  intro K hK
  go_simp
  first | with_reducible refine hK _ _ ?_ | refine hK _ _ ?_
  clear hK K
  (try simp only [Act.put, List.setIfInBounds_toArray, List.set_cons_zero, List.set_cons_succ])
  refine wpList_appO _ rfl _ _ rfl B v1 ls rfl (by have h1 := V0.out.o1; exact h1.below ((Below.refl _ _).alloc (Nat.le_refl _) _) (fun g hg => (h1.lt g hg).2)) _ rfl [pg] (src_one w0 pg 27) (by have := hls; rw [List.length_singleton]; omega) (by rw [World.size_alloc]; have := Z0.out; omega) ?_
  intro v1 w1' O1 M1' N1
  obtain ⟨ad1, cp1, hv1, hy1, hy2, hy3⟩ := O1.shape
  clear hy1 hy2 hy3
  obtain ⟨n1, hn1⟩ : ∃ n, (ls ++ [pg]).length = n := ⟨_, rfl⟩
  rw [hn1] at hv1
  subst hv1
  clear hn1
  (try simp only [Act.put, List.setIfInBounds_toArray, List.set_cons_zero, List.set_cons_succ])
  have F1 : From w0 v1 (.slice ad1 n1 cp1) := fun g hg => (N1 g hg).imp id (fun h => by rw [World.size_alloc] at h; omega)
  have M1'' : Mod (fun k => (v1).ownBlock = some k) w0 w1' := (Mod.of (fun k => (v1).ownBlock = some k) ((Below.refl _ _).alloc (Nat.le_refl _) _)).then M1'
  obtain ⟨V1', M1x⟩ := V0.out.put1 O1 M1'' F1
  have ff : w1'.frozen? ⟨LC, 0, none⟩ = false := by
    have h1 := M1''.heap V0.out.c1 (fun e => (V0.out.a1 LC e).1 rfl)
    exact heap_free h1 0
  have cc2 : w1'.cell? ⟨LC, 0, none⟩ = some (v1) := by
    have h1 := M1''.heap V0.out.c1 (fun e => (V0.out.a1 LC e).1 rfl)
    exact heap_cell h1 0
  with_reducible refine wpList_plain rfl ?_
  intro K hK
  go_simp
  first | with_reducible refine hK _ _ ?_ | refine hK _ _ ?_
  clear hK K
  (try simp only [Act.put, List.setIfInBounds_toArray, List.set_cons_zero, List.set_cons_succ])
  obtain ⟨w1, hw1⟩ : ∃ W, w1'.setCell ⟨LC, 0, none⟩ (.slice ad1 n1 cp1) = W := ⟨_, rfl⟩
  rw [hw1] at V1' M1x
  rw [hw1]
  have V1 := Lib.hid V1'
  have M1y := Lib.hid M1x
  clear hw1 ff cc cc2 M1' M1'' N1 O1 V1' M1x
  have S1 : Hid (Mod (LS LC FC v1 v2) w w1) := M0.out.trans M1y.out (fun k hk h => ls1 (w := w) (wr := w) (From.refl _ _) k hk h)
  have G1 : Hid (From w v1 (.slice ad1 n1 cp1)) := (From.refl w v1).trans F1 (by have := Z0.out; omega)
  have E1 : Hid (w1.heap[N]? = some (.cells #[.int .u32 (pg : Int), .slice nad xs.length nc] 64 (0, 0))) := by
    refine M1y.out.heap E0.out (fun e => ?_)
    rcases e with e | e
    · omega
    · have := (hv.out.o1.lt N e).2; omega
  clear E0 V0 M0 M1y F1 k0
  have k1 := heap_cell E1.out (o := 1)
  go_upto_region 3 with fail
  clear k1
  go_loopw [17] (fun iv wr => ∃ (k : Nat) (u1 u2 : Value), k ≤ xs.length ∧ Hid (Mod (LS LC FC v1 v2) w wr) ∧ Hid (LV wr LC FC TC T B u1 u2 (ls ++ (pg :: (xs.take k).filter left)) (fs ++ (xs.take k).filter (mayF left held))) ∧ Hid (From w v1 u1) ∧ Hid (From w v2 u2) ∧ iv = .int .i64 (k : Int)) (fun iv _ => xs.length - (intOf iv).toNat)
  case atStart => exact ⟨0, _, v2, Nat.zero_le _, S1, by rw [List.take_zero, List.filter_nil, List.filter_nil, List.append_nil]; exact V1, G1, From.refl _ _, rfl⟩
  case round =>
    obtain ⟨k, u1, u2, hk, SM, SV, G3, G4, rfl⟩ := hrel
    have hzw : N ≤ wr.heap.size := by have := SM.out.size; omega
    by_cases hlt : k < xs.length
    case neg =>
      have ik : ¬ (k : Int) < (xs.length : Int) := by omega
      obtain rfl : k = xs.length := by omega
      have sv := SV.out
      rw [List.take_length] at sv
      obtain ⟨la, hla⟩ : ∃ l, ls ++ (pg :: xs.filter left) = l := ⟨_, rfl⟩
      obtain ⟨fa, hfa⟩ : ∃ l, fs ++ xs.filter (mayF left held) = l := ⟨_, rfl⟩
      have hl5 : la.length ≤ 3000000 := by rw [← hla, List.length_append, List.length_cons]; have := List.length_filter_le left xs; omega
      have hf5 : fa.length ≤ 3000000 := by rw [← hfa, List.length_append]; have := List.length_filter_le (mayF left held) xs; omega
      have HLA : Hid (sortN la = l9) := by show _ = _; rw [← hla]; exact HL9.out
      have HFA : Hid (sortN fa = f9) := by show _ = _; rw [← hfa]; exact HF9.out
      rw [hla, hfa] at sv
      have SV2 := Lib.hid sv
      clear sv SV hla hfa
      have cc := heap_cell SV2.out.c1 (o := 0)
      go_upto_region 11 with fail
      with_reducible refine wp_region_list ?_
      with_reducible refine wpList_plain rfl ?_
      intro K hK
      go_simp
      first | with_reducible refine hK _ _ ?_ | refine hK _ _ ?_
      clear hK K
      (try simp only [Act.put, List.setIfInBounds_toArray, List.set_cons_zero, List.set_cons_succ])
      with_reducible refine wpList_plain rfl ?_
      intro K hK
      go_simp
      refine (Sort_own wr B u1 la SV2.out.o1 (by omega)).mono ?_; rintro e w5 ⟨rfl, O5, M5⟩; rw [HLA.out] at O5
      first | with_reducible refine hK _ _ ?_ | refine hK _ _ ?_
      clear hK K
      (try simp only [Act.put, List.setIfInBounds_toArray, List.set_cons_zero, List.set_cons_succ])
      have SV5 : Hid (LV w5 LC FC TC T B u1 u2 l9 fa) := ⟨M5.heap SV2.out.c1 (fun e => (SV2.out.a1 LC e).1 rfl), M5.heap SV2.out.c2 (fun e => (SV2.out.a1 FC e).2.1 rfl), M5.heap SV2.out.ct (fun e => (SV2.out.a1 TC e).2.2.1 rfl), O5, SV2.out.o2.mod M5 (fun g hg e => (SV2.out.a1 g e).2.2.2 hg), SV2.out.a1, SV2.out.a2, SV2.out.lf, SV2.out.lt, SV2.out.ft⟩
      have SM5 : Hid (Mod (LS LC FC v1 v2) w w5) := SM.out.trans M5 (fun k hk h => ls1 (w := w) (wr := w) G3.out k hk (.inr h))
      clear M5 O5 cc
      have cc := heap_cell SV5.out.c2 (o := 0)
      go_upto_region 12 with fail
      with_reducible refine wp_region_list ?_
      with_reducible refine wpList_plain rfl ?_
      intro K hK
      go_simp
      first | with_reducible refine hK _ _ ?_ | refine hK _ _ ?_
      clear hK K
      (try simp only [Act.put, List.setIfInBounds_toArray, List.set_cons_zero, List.set_cons_succ])
      with_reducible refine wpList_plain rfl ?_
      intro K hK
      go_simp
      refine (Sort_own w5 B u2 fa SV5.out.o2 (by omega)).mono ?_; rintro e w6 ⟨rfl, O6, M6⟩; rw [HFA.out] at O6
      first | with_reducible refine hK _ _ ?_ | refine hK _ _ ?_
      clear hK K
      (try simp only [Act.put, List.setIfInBounds_toArray, List.set_cons_zero, List.set_cons_succ])
      have SV6 : LV w6 LC FC TC T B u1 u2 l9 f9 := ⟨M6.heap SV5.out.c1 (fun e => (SV5.out.a2 LC e).1 rfl), M6.heap SV5.out.c2 (fun e => (SV5.out.a2 FC e).2.1 rfl), M6.heap SV5.out.ct (fun e => (SV5.out.a2 TC e).2.2 rfl), SV5.out.o1.mod M6 (fun g hg e => (SV5.out.a1 g hg).2.2.2 e), O6, SV5.out.a1, SV5.out.a2, SV5.out.lf, SV5.out.lt, SV5.out.ft⟩
      have SM6 : Mod (LS LC FC v1 v2) w w6 := SM5.out.trans M6 (fun k hk h => ls2 (w := w) (wr := w) G4.out k hk (.inr h))
      have hR := HR.out w6 u1 u2 SM6 SV6 G3.out G4.out
      have HRR := Lib.hid hR
      clear M6 O6 cc SV6 SM6 hR
      go_wp2_with fail
      go_end0
      exact HRR.out
    case pos =>
      have ik : (k : Int) < (xs.length : Int) := by omega
      have hu2 := hx.out.mod SM.out hxl
      have hxA := hx.out.1 _ (List.getElem_mem hlt)
      obtain ⟨ad9, c9, e9, _, hx9⟩ := hu2.form
      obtain ⟨nb, no, e8, hcs⟩ := hx9 (by omega)
      have e7 := (Value.slice.inj e9).1
      rw [e8] at e7
      subst e7
      have hc := hcs k hlt
      have hf1 := take_filter (p := left) hlt
      have hf2 := take_filter (p := mayF left held) hlt
      obtain ⟨y, hy⟩ : ∃ y, xs[k] = y := ⟨_, rfl⟩
      rw [hy] at hc hxA hf1 hf2
      unfold uN at hc
      have HF1 := Lib.hid hf1
      have HF2 := Lib.hid hf2
      have hlw : ((xs.take k).filter left).length ≤ xs.length := Nat.le_trans (List.length_filter_le _ _) (by rw [List.length_take]; omega)
      have hfw : ((xs.take k).filter (mayF left held)).length ≤ xs.length := Nat.le_trans (List.length_filter_le _ _) (by rw [List.length_take]; omega)
      obtain ⟨la, hla⟩ : ∃ l, (xs.take k).filter left = l := ⟨_, rfl⟩
      obtain ⟨fa, hfa⟩ : ∃ l, (xs.take k).filter (mayF left held) = l := ⟨_, rfl⟩
      have sv := SV.out
      have hf1 := HF1.out
      have hf2 := HF2.out
      rw [hla] at sv hlw hf1
      rw [hfa] at sv hfw hf2
      have SV2 := Lib.hid sv
      have HF3 := Lib.hid hf1
      have HF4 := Lib.hid hf2
      have TB2 := Lib.hid (ht.out.mod SM.out hTl)
      have L2 := Lib.hid (hl.out.mod SM.out hll)
      have H2 := Lib.hid (hh.out.mod SM.out hhl)
      clear hf1 hf2 HF1 HF2 sv SV hla hfa e9 e8 hu2 hx9 hcs hy
      have c5 := heap_cell TB2.out (o := 5)
      have ct := heap_cell SV2.out.ct (o := 0)
      obtain ⟨q1, hq1⟩ : ∃ q, left y = q := ⟨_, rfl⟩
      have Q1 := Lib.hid hq1
      clear hq1
      go_upto_region 5 with fail
      with_reducible refine wp_region_list ?_
      with_reducible refine wpList_plain rfl ?_
      intro K hK
      go_simp
      first | with_reducible refine hK _ _ ?_ | refine hK _ _ ?_
      clear hK K
      (try simp only [Act.put, List.setIfInBounds_toArray, List.set_cons_zero, List.set_cons_succ])
      with_reducible refine wpList_plain rfl ?_
      intro K hK
      go_simp
      first | with_reducible refine hK _ _ ?_ | refine hK _ _ ?_
      clear hK K
      (try simp only [Act.put, List.setIfInBounds_toArray, List.set_cons_zero, List.set_cons_succ])
      with_reducible refine wpList_plain rfl ?_
      intro K hK
      go_simp
      first | with_reducible refine hK _ _ ?_ | refine hK _ _ ?_
      clear hK K
      (try simp only [Act.put, List.setIfInBounds_toArray, List.set_cons_zero, List.set_cons_succ])
      with_reducible refine wpList_plain rfl ?_
      intro K hK
      go_simp
      first | with_reducible refine hK _ _ ?_ | refine hK _ _ ?_
      clear hK K
      (try simp only [Act.put, List.setIfInBounds_toArray, List.set_cons_zero, List.set_cons_succ])
      with_reducible refine wpList_plain rfl ?_
      intro K hK
      go_simp
      first | with_reducible refine hK _ _ ?_ | refine hK _ _ ?_
      clear hK K
      (try simp only [Act.put, List.setIfInBounds_toArray, List.set_cons_zero, List.set_cons_succ])
      refine wpList_lookM rfl _ _ rfl L2.out rfl y hxA rfl (fun c => ?_)
      rw [Q1.out]
      (try simp only [Act.put, List.setIfInBounds_toArray, List.set_cons_zero, List.set_cons_succ])
      with_reducible refine wpList_plain rfl ?_
      intro K hK
      go_simp
      first | with_reducible refine hK _ _ ?_ | refine hK _ _ ?_
      clear hK K
      (try simp only [Act.put, List.setIfInBounds_toArray, List.set_cons_zero, List.set_cons_succ])
      with_reducible refine wpList_plain rfl ?_
      intro K hK
      go_simp
      first | with_reducible refine hK _ _ ?_ | refine hK _ _ ?_
      clear hK K
      (try simp only [Act.put, List.setIfInBounds_toArray, List.set_cons_zero, List.set_cons_succ])
      with_reducible refine wpList_plain rfl ?_
      intro K hK
      go_simp
      first | with_reducible refine hK _ _ ?_ | refine hK _ _ ?_
      clear hK K
      (try simp only [Act.put, List.setIfInBounds_toArray, List.set_cons_zero, List.set_cons_succ])
      with_reducible refine wpList_plain rfl ?_
      intro K hK
      go_simp
      first | with_reducible refine hK _ _ ?_ | refine hK _ _ ?_
      clear hK K
      (try simp only [Act.put, List.setIfInBounds_toArray, List.set_cons_zero, List.set_cons_succ])
      with_reducible refine wpList_plain rfl ?_
      intro K hK
      go_simp
      first | with_reducible refine hK _ _ ?_ | refine hK _ _ ?_
      clear hK K
      (try simp only [Act.put, List.setIfInBounds_toArray, List.set_cons_zero, List.set_cons_succ])
      clear hc c5 ct
      cases q1
      case false =>
        have sv := SV2.out
        have HG3 := HF3.out
        have HG4 := HF4.out
        rw [if_neg (by rw [Q1.out]; simp), List.append_nil] at HG3
        rw [if_neg (by unfold mayF; rw [Q1.out]; simp), List.append_nil] at HG4
        rw [← HG3, ← HG4] at sv
        have SV3 := Lib.hid sv
        clear sv HG3 HG4 HF3 HF4 SV2
        go_wp2_with fail
        exact ⟨⟨k + 1, u1, u2, by omega, SM, SV3, G3, G4, by go_num⟩, by simp [intOf]; omega⟩
      case true =>
        obtain ⟨lb2, hlb2⟩ : ∃ l, ls ++ (pg :: la) = l := ⟨_, rfl⟩
        have hlen2 : lb2.length ≤ 3000000 := by rw [← hlb2, List.length_append, List.length_cons]; omega
        have hlenf : (fs ++ fa).length ≤ 3000000 := by rw [List.length_append]; omega
        have HG3 : Hid (ls ++ (pg :: (xs.take (k + 1)).filter left) = lb2 ++ [y]) := by
          show _ = _
          rw [HF3.out, if_pos Q1.out, ← hlb2]
          simp
        have sv := SV2.out
        rw [hlb2] at sv
        have SV3 := Lib.hid sv
        clear sv SV2 HF3 hlb2
        have cc := heap_cell SV3.out.c1 (o := 0)
        go_upto_region 7 with fail
        with_reducible refine wp_region_list ?_
        with_reducible refine wpList_plain rfl ?_
        intro K hK
        go_simp
        first | with_reducible refine hK _ _ ?_ | refine hK _ _ ?_
        clear hK K
        (try simp only [Act.put, List.setIfInBounds_toArray, List.set_cons_zero, List.set_cons_succ])
        with_reducible refine wpList_plain rfl ?_
        intro K hK
        go_simp
        first | with_reducible refine hK _ _ ?_ | refine hK _ _ ?_
        clear hK K
        (try simp only [Act.put, List.setIfInBounds_toArray, List.set_cons_zero, List.set_cons_succ])
        with_reducible refine wpList_plain rfl ?_
        intro K hK
        go_simp
        first | with_reducible refine hK _ _ ?_ | refine hK _ _ ?_
        clear hK K
        (try simp only [Act.put, List.setIfInBounds_toArray, List.set_cons_zero, List.set_cons_succ])
        refine wpList_appO _ rfl _ _ rfl B u1 lb2 rfl (by have h1 := SV3.out.o1; exact h1.below ((Below.refl _ _).alloc (Nat.le_refl _) _) (fun g hg => (h1.lt g hg).2)) _ rfl [y] (src_one wr y 27) (by have := hlen2; rw [List.length_singleton]; omega) (by rw [World.size_alloc]; have := hzw; omega) ?_
        intro v7 w7' O7 M7' N7
        obtain ⟨ad7, cp7, hv7, hy1, hy2, hy3⟩ := O7.shape
        clear hy1 hy2 hy3
        obtain ⟨n7, hn7⟩ : ∃ n, (lb2 ++ [y]).length = n := ⟨_, rfl⟩
        rw [hn7] at hv7
        subst hv7
        clear hn7
        (try simp only [Act.put, List.setIfInBounds_toArray, List.set_cons_zero, List.set_cons_succ])
        have F7 : From wr u1 (.slice ad7 n7 cp7) := fun g hg => (N7 g hg).imp id (fun h => by rw [World.size_alloc] at h; omega)
        have M7'' : Mod (fun k => (u1).ownBlock = some k) wr w7' := (Mod.of (fun k => (u1).ownBlock = some k) ((Below.refl _ _).alloc (Nat.le_refl _) _)).then M7'
        obtain ⟨V7', M7x⟩ := SV3.out.put1 O7 M7'' F7
        have ff : w7'.frozen? ⟨LC, 0, none⟩ = false := by
          have h1 := M7''.heap SV3.out.c1 (fun e => (SV3.out.a1 LC e).1 rfl)
          exact heap_free h1 0
        have cc2 : w7'.cell? ⟨LC, 0, none⟩ = some (u1) := by
          have h1 := M7''.heap SV3.out.c1 (fun e => (SV3.out.a1 LC e).1 rfl)
          exact heap_cell h1 0
        with_reducible refine wpList_plain rfl ?_
        intro K hK
        go_simp
        first | with_reducible refine hK _ _ ?_ | refine hK _ _ ?_
        clear hK K
        (try simp only [Act.put, List.setIfInBounds_toArray, List.set_cons_zero, List.set_cons_succ])
        obtain ⟨w7, hw7⟩ : ∃ W, w7'.setCell ⟨LC, 0, none⟩ (.slice ad7 n7 cp7) = W := ⟨_, rfl⟩
        rw [hw7] at V7' M7x
        rw [hw7]
        have V7 := Lib.hid V7'
        have M7y := Lib.hid M7x
        clear hw7 ff cc cc2 M7' M7'' N7 O7 V7' M7x
        have SM7 : Hid (Mod (LS LC FC v1 v2) w w7) := SM.out.trans M7y.out (fun k hk h => ls1 (w := w) (wr := w) G3.out k hk h)
        have G7 : Hid (From w v1 (.slice ad7 n7 cp7)) := G3.out.trans F7 (by omega)
        have hz7 : N ≤ w7.heap.size := by have := M7y.out.size; omega
        have TB7 := Lib.hid (ht.out.mod SM7.out hTl)
        have L7 := Lib.hid (hl.out.mod SM7.out hll)
        have H7 := Lib.hid (hh.out.mod SM7.out hhl)
        have ct := heap_cell V7.out.ct (o := 0)
        obtain ⟨q2, hq2⟩ : ∃ q, mayF left held y = q := ⟨_, rfl⟩
        have Q2 := Lib.hid hq2
        clear hq2 M7y F7 SM G3 TB2 L2 H2 SV3
        go_upto_region 8 with fail
        with_reducible refine wp_region_list ?_
        with_reducible refine wpList_plain rfl ?_
        intro K hK
        go_simp
        first | with_reducible refine hK _ _ ?_ | refine hK _ _ ?_
        clear hK K
        (try simp only [Act.put, List.setIfInBounds_toArray, List.set_cons_zero, List.set_cons_succ])
        with_reducible refine wpList_plain rfl ?_
        intro K hK
        go_simp
        first | with_reducible refine hK _ _ ?_ | refine hK _ _ ?_
        clear hK K
        (try simp only [Act.put, List.setIfInBounds_toArray, List.set_cons_zero, List.set_cons_succ])
        with_reducible refine wpList_plain rfl ?_
        intro K hK
        go_simp
        (go_at_call 87; refine (may_any T tv lv op pages hb lb most chv nh nl held left y _ hxA TB7 H7 L7).mono ?_; rintro e w8 ⟨rfl, rfl⟩; rw [Q2.out])
        first | with_reducible refine hK _ _ ?_ | refine hK _ _ ?_
        clear hK K
        (try simp only [Act.put, List.setIfInBounds_toArray, List.set_cons_zero, List.set_cons_succ])
        clear ct
        cases q2
        case false =>
          have HG4 := HF4.out
          rw [if_neg (by rw [Q2.out]; simp), List.append_nil] at HG4
          have sv := V7.out
          rw [← HG3.out, ← HG4] at sv
          have SV8 := Lib.hid sv
          clear sv HG4 HF4 HG3 V7
          go_wp2_with fail
          exact ⟨⟨k + 1, _, u2, by omega, SM7, SV8, G7, G4, by go_num⟩, by simp [intOf]; omega⟩
        case true =>
          have HG4 : Hid (fs ++ (xs.take (k + 1)).filter (mayF left held) = fs ++ fa ++ [y]) := by
            show _ = _
            rw [HF4.out, if_pos Q2.out, List.append_assoc]
          obtain ⟨fb2, hfb2⟩ : ∃ l, fs ++ fa = l := ⟨_, rfl⟩
          rw [hfb2] at hlenf
          have sv := V7.out
          rw [hfb2] at sv
          have HG5 := HG4.out
          rw [hfb2] at HG5
          have HG6 := Lib.hid HG5
          have V8 := Lib.hid sv
          clear sv HG5 HG4 HF4 V7 hfb2
          have cc := heap_cell V8.out.c2 (o := 0)
          go_upto_region 9 with fail
          with_reducible refine wp_region_list ?_
          with_reducible refine wpList_plain rfl ?_
          intro K hK
          go_simp
          first | with_reducible refine hK _ _ ?_ | refine hK _ _ ?_
          clear hK K
          (try simp only [Act.put, List.setIfInBounds_toArray, List.set_cons_zero, List.set_cons_succ])
          with_reducible refine wpList_plain rfl ?_
          intro K hK
          go_simp
          first | with_reducible refine hK _ _ ?_ | refine hK _ _ ?_
          clear hK K
          (try simp only [Act.put, List.setIfInBounds_toArray, List.set_cons_zero, List.set_cons_succ])
          with_reducible refine wpList_plain rfl ?_
          intro K hK
          go_simp
          first | with_reducible refine hK _ _ ?_ | refine hK _ _ ?_
          clear hK K
          (try simp only [Act.put, List.setIfInBounds_toArray, List.set_cons_zero, List.set_cons_succ])
          refine wpList_appO _ rfl _ _ rfl B u2 fb2 rfl (by have h1 := V8.out.o2; exact h1.below ((Below.refl _ _).alloc (Nat.le_refl _) _) (fun g hg => (h1.lt g hg).2)) _ rfl [y] (src_one w8 y 27) (by have := hlenf; rw [List.length_singleton]; omega) (by rw [World.size_alloc]; have := hz7; omega) ?_
          intro v9 w9' O9 M9' N9
          obtain ⟨ad9, cp9, hv9, hy1, hy2, hy3⟩ := O9.shape
          clear hy1 hy2 hy3
          obtain ⟨n9, hn9⟩ : ∃ n, (fb2 ++ [y]).length = n := ⟨_, rfl⟩
          rw [hn9] at hv9
          subst hv9
          clear hn9
          (try simp only [Act.put, List.setIfInBounds_toArray, List.set_cons_zero, List.set_cons_succ])
          have F9 : From w8 u2 (.slice ad9 n9 cp9) := fun g hg => (N9 g hg).imp id (fun h => by rw [World.size_alloc] at h; omega)
          have M9'' : Mod (fun k => (u2).ownBlock = some k) w8 w9' := (Mod.of (fun k => (u2).ownBlock = some k) ((Below.refl _ _).alloc (Nat.le_refl _) _)).then M9'
          obtain ⟨V9', M9x⟩ := V8.out.put2 O9 M9'' F9
          have ff : w9'.frozen? ⟨FC, 0, none⟩ = false := by
            have h1 := M9''.heap V8.out.c2 (fun e => (V8.out.a2 FC e).2.1 rfl)
            exact heap_free h1 0
          have cc2 : w9'.cell? ⟨FC, 0, none⟩ = some (u2) := by
            have h1 := M9''.heap V8.out.c2 (fun e => (V8.out.a2 FC e).2.1 rfl)
            exact heap_cell h1 0
          with_reducible refine wpList_plain rfl ?_
          intro K hK
          go_simp
          first | with_reducible refine hK _ _ ?_ | refine hK _ _ ?_
          clear hK K
          (try simp only [Act.put, List.setIfInBounds_toArray, List.set_cons_zero, List.set_cons_succ])
          obtain ⟨w9, hw9⟩ : ∃ W, w9'.setCell ⟨FC, 0, none⟩ (.slice ad9 n9 cp9) = W := ⟨_, rfl⟩
          rw [hw9] at V9' M9x
          rw [hw9]
          have V9 := Lib.hid V9'
          have M9y := Lib.hid M9x
          clear hw9 ff cc cc2 M9' M9'' N9 O9 V9' M9x
          have SM9 : Hid (Mod (LS LC FC v1 v2) w w9) := SM7.out.trans M9y.out (fun k hk h => ls2 (w := w) (wr := w) G4.out k hk h)
          have G9 : Hid (From w v2 (.slice ad9 n9 cp9)) := G4.out.trans F9 (by omega)
          have sv := V9.out
          rw [← HG3.out, ← HG6.out] at sv
          have SV9 := Lib.hid sv
          clear sv HG6 HG3 V9 V8 M9y F9
          go_wp2_with fail
          exact ⟨⟨k + 1, _, _, by omega, SM9, SV9, G7, G9, by go_num⟩, by simp [intOf]; omega⟩
end Go.Proofs.Ytkngmnfgdlnddaa
