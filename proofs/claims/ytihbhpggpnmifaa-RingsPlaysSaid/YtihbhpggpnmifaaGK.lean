/-
 The walk of climb.
-/
import Derived.Test.YtihbhpggpnmifaaGJ
set_option linter.unusedSimpArgs false
set_option linter.unusedVariables false
namespace Go.Proofs.Ytihbhpggpnmifaa
open Go.RowKit Go.Lib Hw
def upC (N : Nat) : Value := .func (.func 77) #[] #[.pointer (some ⟨N + 1, 0, none⟩), .pointer (some ⟨N + 6, 0, none⟩), .pointer (some ⟨N + 2, 0, none⟩), .pointer (some ⟨N + 5, 0, none⟩), .pointer (some ⟨N + 4, 0, none⟩), .pointer (some ⟨N, 0, none⟩)]
structure CB (W : World) (lim N : Nat) (leaf : Dg) (wd : Nat) (tv sv : Value) (t : List Dg) (ok : Bool) (S : List Dg) : Prop where
 bw : W.heap[N]? = some (.cells #[.int .i64 (wd : Int)] 3 (0, 0))
 bl : DB W (N + 1) leaf
 bt : W.heap[N + 2]? = some (.cells #[tv] 32 (0, 0))
 bs : W.heap[N + 4]? = some (.cells #[sv] 84 (0, 0))
 bo : W.heap[N + 5]? = some (.cells #[.bool ok] 4 (0, 0))
 bu : W.heap[N + 6]? = some (.cells #[upC N] 102 (0, 0))
 row : DRow W lim tv t
 own : OwnS W (N + 7) sv S
 all : All64 S
 lo : lim ≤ N
section
variable {W W' : World} {lim N : Nat} {leaf : Dg} {wd : Nat} {tv sv : Value} {t : List Dg} {ok : Bool} {S : List Dg}
theorem CB.big (h : CB W lim N leaf wd tv sv t ok S) : N + 7 ≤ W.heap.size := heap_lt h.bu
theorem CB.mod {T : Nat → Prop} (h : CB W lim N leaf wd tv sv t ok S) (m : Mod T W W') (hT : ∀ k, k < N + 7 → ¬ T k) (hs : ∀ k, sv.ownBlock = some k → ¬ T k) : CB W' lim N leaf wd tv sv t ok S :=
 have hlo := h.lo
 ⟨m.heap h.bw (hT _ (by omega)), m.heap h.bl (hT _ (by omega)), m.heap h.bt (hT _ (by omega)), m.heap h.bs (hT _ (by omega)), m.heap h.bo (hT _ (by omega)), m.heap h.bu (hT _ (by omega)), h.row.mod m (fun k hk => hT k (by omega)), h.own.mod m hs, h.all, h.lo⟩
theorem CB.below (h : CB W lim N leaf wd tv sv t ok S) (hb : Below W.heap.size W W') : CB W' lim N leaf wd tv sv t ok S := h.mod (Mod.of (fun _ => False) hb) (fun _ _ h => h) (fun _ _ h => h)
theorem CB.kept (h : CB W lim N leaf wd tv sv t ok S) {b : Nat} (hk : Kept b W W') (hb : N + 7 ≤ b) (hs : sv.ownBlock ≠ some b) : CB W' lim N leaf wd tv sv t ok S :=
 h.mod (Mod.kept (S := fun k => k = b) hk rfl) (fun k hk e => by omega) (fun k hk e => hs (by rw [← e]; exact hk))
theorem CB.cw (h : CB W lim N leaf wd tv sv t ok S) : W.cell? ⟨N, 0, none⟩ = some (.int .i64 (wd : Int)) := by rw [heap_cell h.bw]; rfl
theorem CB.cs (h : CB W lim N leaf wd tv sv t ok S) : W.cell? ⟨N + 4, 0, none⟩ = some sv := by rw [heap_cell h.bs]; rfl
theorem CB.cu (h : CB W lim N leaf wd tv sv t ok S) : W.cell? ⟨N + 6, 0, none⟩ = some (.func (.func 77) #[] #[.pointer (some ⟨N + 1, 0, none⟩), .pointer (some ⟨N + 6, 0, none⟩), .pointer (some ⟨N + 2, 0, none⟩), .pointer (some ⟨N + 5, 0, none⟩), .pointer (some ⟨N + 4, 0, none⟩), .pointer (some ⟨N, 0, none⟩)]) := by rw [heap_cell h.bu]; rfl
end
theorem CB.next {W W' : World} {lim N : Nat} {leaf : Dg} {wd : Nat} {tv sv tv' : Value} {t t' : List Dg} {ok ok' : Bool} {S : List Dg} (h : CB W lim N leaf wd tv sv t ok S) (ht : W'.heap[N + 2]? = some (.cells #[tv'] 32 (0, 0))) (ho : W'.heap[N + 5]? = some (.cells #[.bool ok'] 4 (0, 0))) (hr : DRow W' lim tv' t') (m : Mod (fun k => k = N + 2 ∨ k = N + 5) W W') : CB W' lim N leaf wd tv' sv t' ok' S :=
 ⟨m.heap h.bw (by omega), m.heap h.bl (by omega), ht, m.heap h.bs (by omega), ho, m.heap h.bu (by omega), hr, h.own.mod m (fun k hk e => by have := (h.own.lt k hk).1; omega), h.all, h.lo⟩
theorem CB.app {W W' : World} {lim N : Nat} {leaf : Dg} {wd : Nat} {tv sv v' : Value} {t : List Dg} {ok : Bool} {S S' : List Dg} (h : CB W lim N leaf wd tv sv t ok S) (hg : W.grownBy W' sv.ownBlock) (hown : OwnS W' (N + 7) v' S') (hA : All64 S') : CB (W'.setCell ⟨N + 4, 0, none⟩ v') lim N leaf wd tv v' t ok S' := by
 have hlo := h.lo
 have hbig := h.big
 have m : Mod (fun k => sv.ownBlock = some k) W W' := Mod.grown hg (fun k e => e)
 have hne : ∀ k, k < N + 7 → ¬ sv.ownBlock = some k := fun k hk e => by have := (h.own.lt k e).1; omega
 refine ⟨heap_setOther (m.heap h.bw (hne _ (by omega))) (by show N ≠ N + 4; omega) _, heap_setOther (m.heap h.bl (hne _ (by omega))) (by show N + 1 ≠ N + 4; omega) _, heap_setOther (m.heap h.bt (hne _ (by omega))) (by show N + 2 ≠ N + 4; omega) _, heap_put (m.heap h.bs (hne _ (by omega))) _,
  heap_setOther (m.heap h.bo (hne _ (by omega))) (by show N + 5 ≠ N + 4; omega) _, heap_setOther (m.heap h.bu (hne _ (by omega))) (by show N + 6 ≠ N + 4; omega) _, ?_, ?_, hA, hlo⟩
 ·exact (h.row.mod m (fun k hk => hne k (by omega))).mod (Mod.set (S := fun k => k = N + 4) W' rfl v') (fun k hk e => by omega)
 ·exact hown.mod (Mod.set (S := fun k => k = N + 4) W' rfl v') (fun k hk e => by have := (hown.lt k hk).1; omega)
def ClimbPost (w : World) (lim N : Nat) (leaf : Dg) (wd : Nat) (sv : Value) (S : List Dg) (r : Dg × List Dg × List Dg × Bool) (e : Ending) (w' : World) : Prop :=
 e = .returned (dv r.1) ∧ ∃ tv' sv', CB w' lim N leaf wd tv' sv' r.2.2.1 r.2.2.2 (S ++ r.2.1) ∧ Mod (fun k => k = N + 2 ∨ k = N + 4 ∨ k = N + 5 ∨ sv.ownBlock = some k) w w' ∧ ∀ g, sv'.ownBlock = some g → sv.ownBlock = some g ∨ w.heap.size ≤ g
set_option maxHeartbeats 2000000 in
theorem climb_one (lim N : Nat) (leaf : Dg) (wd i : Nat) (tv sv : Value) (t : List Dg) (ok : Bool) (S : List Dg) (w : World) (h : Hid (CB w lim N leaf wd tv sv t ok S)) (hl : Hid (leaf.length = 32)) :
  Calls Try.prog 77 #[.int .i64 (i : Int), .int .i64 1, .pointer (some ⟨N + 1, 0, none⟩), .pointer (some ⟨N + 6, 0, none⟩), .pointer (some ⟨N + 2, 0, none⟩), .pointer (some ⟨N + 5, 0, none⟩), .pointer (some ⟨N + 4, 0, none⟩), .pointer (some ⟨N, 0, none⟩)] w (ClimbPost w lim N leaf wd sv S (leaf, [], t, ok)) := by
 go_enter Try.func77, Try.ntmps77
 go_upto_region 1 with (refine wpList_allocD rfl rfl w.heap.size rfl ?_; intro w1 hd1 hb1 hz1)
 have D1 := Lib.hid hd1
 have B1 := Lib.hid hb1
 have T1 := Lib.hid (h.out.below hb1)
 clear hd1 hb1
 go_wp2_with (first
  | (refine wpList_loadD rfl _ rfl (N + 1) rfl leaf hl.out T1.out.bl ?_; try simp only [Act.put,nA,nB,nC])
  | (refine wpList_storeD rfl _ _ rfl w.heap.size rfl zeros32 leaf rfl hl.out rfl D1.out ?_; intro w3 hd3 hb3 hk3 hz3))
 have hbig := h.out.big
 have HB : Below w.heap.size w w3 := B1.out.trans hb3
 refine bodyPost_ret (v := dv leaf) ?_ rfl ⟨rfl, tv, sv, ?_, Mod.of _ HB, fun g hg => .inl hg⟩
 ·exact results_cell1 Try.results77 rfl (DB.load hd3 hl.out)
 ·rw [List.append_nil]
  exact h.out.below HB
theorem len_z64 : 0 + 32 ≤ (zeros64.map bv).length := by rw [List.length_map]; show 0 + 32 ≤ 64; omega
theorem len_z64' : 32 + 32 ≤ (zeros64.map bv).length := by rw [List.length_map]; show 32 + 32 ≤ 64; omega
theorem pairA (D : Dg) (hD : D.length = 32) : ((zeros64.map bv).take 0 ++ D.map bv ++ (zeros64.map bv).drop (0 + 32)) = (D ++ zeros32).map bv := by
 rw [List.take_zero, List.nil_append, List.map_append]; rfl
theorem pairB (D Y X : Dg) (hD : D.length = 32) (hY : Y.length = 32) : (((D ++ Y).map bv).take 32 ++ X.map bv ++ ((D ++ Y).map bv).drop (32 + 32)) = (D ++ X).map bv := by
 have h1 : ((D ++ Y).map bv).drop (32 + 32) = [] := List.drop_eq_nil_of_le (by simp [hD, hY])
 have h2 : ((D ++ Y).map bv).take 32 = D.map bv := by rw [List.map_append, List.take_append_of_le_length (by simp [hD]), List.take_of_length_le (by simp [hD])]
 rw [h1, h2, List.append_nil, List.map_append]
theorem pairC (X : Dg) (hX : X.length = 32) : ((zeros64.map bv).take 32 ++ X.map bv ++ (zeros64.map bv).drop (32 + 32)) = (zeros32 ++ X).map bv := by
 rw [List.map_append, show (zeros64.map bv).drop (32 + 32) = [] from rfl, List.append_nil]; rfl
theorem pairD (D Y X : Dg) (hD : D.length = 32) (hY : Y.length = 32) (hX : X.length = 32) : (((D ++ Y).map bv).take 0 ++ X.map bv ++ ((D ++ Y).map bv).drop (0 + 32)) = (X ++ Y).map bv := by
 rw [List.take_zero, List.nil_append, List.map_append, List.map_append, Nat.zero_add, List.drop_append_of_le_length (by simp [hD]), List.drop_eq_nil_of_le (by simp [hD]), List.nil_append]
theorem pair1 (D X : Dg) (hD : D.length = 32) : (((D ++ X).map bv).drop 0).take 32 = D.map bv := by
 rw [List.drop_zero, List.map_append, List.take_append_of_le_length (by simp [hD]), List.take_of_length_le (by simp [hD])]
theorem pair2 (D X : Dg) (hD : D.length = 32) (hX : X.length = 32) : (((D ++ X).map bv).drop 32).take 32 = X.map bv := by
 rw [List.map_append, List.drop_append_of_le_length (by simp [hD]), List.drop_eq_nil_of_le (by simp [hD]), List.nil_append, List.take_of_length_le (by simp [hX])]
theorem head_length {t : List Dg} (h : All32 t) : (t.headD zeros32).length = 32 := by
 cases t with
 | nil => rfl
 | cons x t => exact h x (List.mem_cons_self ..)
theorem info_P : (Try.prog.info? 108).map (·.size) = some 64 := by kernel_rfl
theorem wpList_loadP {ops : Array Oper} {rest : List Oper} {o : Oper} {a : Act} {w : World} {Q : Exit → Act → World → Prop} (hgd : o.guard = none) (x : Operand) (ho : o.op = .load 108 x) (b : Nat) (hx : a.eval x = .pointer (some ⟨b, 0, none⟩)) (l : Dg) (hl : l.length = 64) (t : TypeId) (hb : w.heap[b]? = some (.cells (l.map bv).toArray t (0, 0)))
  (h : wpList Try.prog ops Q rest (a.put o.dst (dv l)) w) : wpList Try.prog ops Q (o :: rest) a w :=
 wpList_load_mid hgd 108 x ho b 0 hx (l.map bv) _ (range_all (cs := l.map bv) hb) Try.underlying108 rfl (info_P.trans (congrArg some ((List.length_map _).trans hl).symm)) h
set_option maxHeartbeats 8000000 in
theorem climb_left (lim N : Nat) (leaf : Dg) (wd i n : Nat) (tv sv : Value) (t : List Dg) (ok : Bool) (S : List Dg) (w : World) (h : Hid (CB w lim N leaf wd tv sv t ok S)) (hl : Hid (leaf.length = 32)) (hn : 2 ≤ n) (hn2 : n ≤ 1048576) (hi : i < halfN n) (hwd : wd ≤ 32) (hS : S.length + n ≤ 100000000)
  (ih : ∀ W tv sv t ok S, CB W lim N leaf wd tv sv t ok S → S.length + halfN n ≤ 100000000 → Calls Try.prog 77 #[.int .i64 (i : Int), .int .i64 (halfN n : Int), .pointer (some ⟨N + 1, 0, none⟩), .pointer (some ⟨N + 6, 0, none⟩), .pointer (some ⟨N + 2, 0, none⟩), .pointer (some ⟨N + 5, 0, none⟩), .pointer (some ⟨N + 4, 0, none⟩), .pointer (some ⟨N, 0, none⟩)] W (ClimbPost W lim N leaf wd sv S (climbP wd leaf i (halfN n) t ok)))
  (hlen : (climbP wd leaf i (halfN n) t ok).1.length = 32 ∧ (climbP wd leaf i (halfN n) t ok).2.1.length ≤ halfN n - 1 ∧ All32 (climbP wd leaf i (halfN n) t ok).2.2.1) :
  Calls Try.prog 77 #[.int .i64 (i : Int), .int .i64 (n : Int), .pointer (some ⟨N + 1, 0, none⟩), .pointer (some ⟨N + 6, 0, none⟩), .pointer (some ⟨N + 2, 0, none⟩), .pointer (some ⟨N + 5, 0, none⟩), .pointer (some ⟨N + 4, 0, none⟩), .pointer (some ⟨N, 0, none⟩)] w (ClimbPost w lim N leaf wd sv S (climbP wd leaf i n t ok)) := by
 have hs := half_spec hn
 have hcl := climbP_left wd leaf i n t ok hn hi
 obtain ⟨k, hk⟩ : ∃ k, halfN n = k := ⟨_, rfl⟩
 rw [hk] at hs hi ih hlen hcl
 obtain ⟨⟨D, P, t2, ok2⟩, hr⟩ : ∃ r, climbP wd leaf i k t ok = r := ⟨_, rfl⟩
 have ih0 := fun W (h : CB W lim N leaf wd tv sv t ok S) => ih W tv sv t ok S h (by omega)
 simp only [hr] at ih0
 have IH := Lib.hid ih0
 rw [hr] at hcl hlen
 dsimp only at hcl
 obtain ⟨hl1, hl2, hl3⟩ := hlen
 have HR := Lib.hid hr
 have HK := Lib.hid hk
 obtain ⟨X, hX⟩ : ∃ X, t2.headD zeros32 = X := ⟨_, rfl⟩
 rw [hX] at hcl
 rw [hcl]
 have HX := Lib.hid hX
 obtain ⟨RR, hRR⟩ : ∃ RR, (knotD wd D X, P ++ [D ++ X], t2.tail, ok2 && !t2.isEmpty) = RR := ⟨_, rfl⟩
 rw [hRR]
 have HRR := Lib.hid hRR
 clear hcl hr hk ih ih0 hX hRR
 have HD : Hid (List.length D = 32) := hl1
 have HT : Hid (All32 t2) := hl3
 have hl2' : P.length ≤ k - 1 := hl2
 clear hl1 hl2 hl3
 have hlt : (i : Int) < (k : Int) := by omega
 have dlt : decide (i < k) = true := decide_eq_true hi
 have n1 : ((n : Int) == 1) = false := by simp; omega
 go_enter Try.func77, Try.ntmps77
 go_upto_region 1 with (refine wpList_allocD rfl rfl w.heap.size rfl ?_; intro w1 hd1 hb1 hz1)
 have D1 := Lib.hid hd1
 have B1 := Lib.hid hb1
 have T1 := Lib.hid (h.out.below hb1)
 have hbig := h.out.big
 clear hd1 hb1
 go_upto_region 4 with (go_at_call 52; refine (half_any n _ hn hn2).mono ?_; rintro e w2 ⟨rfl, rfl⟩; rw [HK.out])
 go_upto_region 6 with (refine wpList_allocB rfl 108 rfl (w.heap.size + 1) hz1 _ zero_P ?_; intro w2 hp2 hb2 hz2)
 have hsv : ∀ g, sv.ownBlock = some g → g < w.heap.size := fun g hg => (h.out.own.lt g hg).2
 have HSv := Lib.hid hsv
 have D2 := Lib.hid (D1.out.below hb2 (by omega))
 have P2 : Hid (w2.heap[w.heap.size + 1]? = some (.cells (zeros64.map bv).toArray 108 (0, 0))) := hp2
 have B2 : Hid (Below w.heap.size w w2) := B1.out.trans (hb2.mono (by omega))
 have T2 := Lib.hid (h.out.below B2.out)
 have cu := T2.out.cu
 clear D1 B1 T1 hp2 hb2 hsv
 go_upto_region 7 with fail
 refine (IH.out _ T2.out).mono ?_
 rintro e w3 ⟨rfl, tv3, sv3, T3, M3, hs3⟩
 have P3 := M3.heap P2.out (fun hh => by
  rcases hh with hh | hh | hh | hh
  ·omega
  ·omega
  ·omega
  ·have := HSv.out _ hh; omega)
 have D3 := Lib.hid (M3.heap D2.out (fun hh => by
  rcases hh with hh | hh | hh | hh
  ·omega
  ·omega
  ·omega
  ·have := HSv.out _ hh; omega))
 have hz3 := M3.size
 have HS3 := Lib.hid hs3
 have T3' := Lib.hid T3
 have M3' : Hid (Mod (fun k => k = N + 2 ∨ k = N + 4 ∨ k = N + 5 ∨ sv.ownBlock = some k) w w3) := (Mod.of _ B2.out).then M3
 clear hs3 T3 M3 P2 D2 T2 B2 cu
 set_option maxRecDepth 20000 in
 go_upto_region 7 with (refine wpList_storeAt rfl _ _ rfl (w.heap.size + 1) 0 rfl D HD.out rfl (zeros64.map bv) _ P3 len_z64 ?_; intro w4 hp4 hk4 hz4)
 rw [pairA D HD.out] at hp4
 have own4 : ∀ g, sv3.ownBlock = some g → g ≠ w.heap.size + 1 ∧ g ≠ w.heap.size := fun g hg => by
  rcases HS3.out g hg with h1 | h1
  ·have := HSv.out g h1; omega
  ·omega
 have T4 := Lib.hid (T3'.out.kept hk4 (by omega) (fun e => (own4 _ e).1 rfl))
 have D4 := Lib.hid (hk4.heap D3.out (by omega))
 have M4 : Hid (Mod (fun k => k = N + 2 ∨ k = N + 4 ∨ k = N + 5 ∨ sv.ownBlock = some k) w w4) := M3'.out.trans (Mod.kept (S := fun k => k = w.heap.size + 1) hk4 rfl) (fun i hi e => by omega)
 have P4 := Lib.hid hp4
 have Own4 := Lib.hid own4
 have hlo := h.out.lo
 clear hp4 hk4 own4 P3 D3 T3' M3'
 go_upto_region 7 with fail
 go_wp2_with fail
 refine (next_any w4 lim (N + 2) (N + 5) tv3 32 4 ok2 t2 T4.out.bt T4.out.bo (by omega) (by omega) (by omega) T4.out.row).mono ?_
 rintro e w5 ⟨rfl, tv5, ht5, ho5, hr5, m5⟩
 rw [HX.out]
 have T5 := Lib.hid (T4.out.next ht5 ho5 hr5 m5)
 have P5 := m5.heap P4.out (by omega)
 have D5 := Lib.hid (m5.heap D4.out (by omega))
 have M5 : Hid (Mod (fun k => k = N + 2 ∨ k = N + 4 ∨ k = N + 5 ∨ sv.ownBlock = some k) w w5) := M4.out.trans m5 (fun i hi e => by omega)
 have HXl : Hid (List.length X = 32) := by rw [← HX.out]; exact head_length HT.out
 have hz5 := m5.size
 have lzz : 32 + 32 ≤ ((D ++ zeros32).map bv).length := by rw [List.length_map, List.length_append, HD.out]; show 32 + 32 ≤ 32 + 32; omega
 clear ht5 ho5 hr5 m5 P4 D4 T4 M4
 set_option maxRecDepth 20000 in
 go_upto_region 10 with (refine wpList_storeAt rfl _ _ rfl (w.heap.size + 1) 32 rfl X HXl.out rfl ((D ++ zeros32).map bv) _ P5 lzz ?_; intro w6 hp6 hk6 hz6)
 rw [pairB D zeros32 X HD.out rfl] at hp6
 have T6 := Lib.hid (T5.out.kept hk6 (by omega) (fun e => (Own4.out _ e).1 rfl))
 have D6 := Lib.hid (hk6.heap D5.out (by omega))
 have M6 : Hid (Mod (fun k => k = N + 2 ∨ k = N + 4 ∨ k = N + 5 ∨ sv.ownBlock = some k) w w6) := M5.out.trans (Mod.kept (S := fun k => k = w.heap.size + 1) hk6 rfl) (fun i hi e => by omega)
 have P6 := Lib.hid hp6
 clear hp6 hk6 lzz P5 D5 T5 M5
 have hpl : List.length (D ++ X) = 64 := by rw [List.length_append, HD.out, HXl.out]
 have hq1 := pair1 D X HD.out
 have hq2 := pair2 D X HD.out HXl.out
 obtain ⟨PR, hPR⟩ : ∃ PR, D ++ X = PR := ⟨_, rfl⟩
 rw [hPR] at hpl hq1 hq2 P6
 have HPR := Lib.hid hPR
 have HPl := Lib.hid hpl
 have HQ1 := Lib.hid hq1
 have HQ2 := Lib.hid hq2
 clear hpl hq1 hq2 hPR
 have cs6 := T6.out.cs
 refine wp_region_list ?_
 (refine wpList_plain rfl (fun K hK => ?_)); go_simp; refine hK _ _ ?_; clear hK K; try simp only [Act.put,nA,nB,nC]
 refine wpList_loadP rfl _ rfl (w.heap.size + 1) rfl PR HPl.out _ P6.out ?_
 try simp only [Act.put,nA,nB,nC]
 refine wpList_sliceP rfl _ rfl PR HPl.out rfl w6.heap.size rfl ?_
 intro w7 hp7 hb7 hz7
 have T7 := Lib.hid (T6.out.below hb7)
 have D7 := Lib.hid (heap_below D6.out hb7 (by omega))
 have Q7 := Lib.hid (heap_below P6.out hb7 (by omega))
 have M7 : Hid (Mod (fun k => k = N + 2 ∨ k = N + 4 ∨ k = N + 5 ∨ sv.ownBlock = some k) w w7) := M6.out.then (Mod.of _ hb7)
 have P7 := Lib.hid hp7
 clear hp7 hb7 T6 P6 D6 M6 cs6
 try simp only [Act.put,nA,nB,nC]
 refine wpList_appPair rfl _ PR HPl.out _ _ rfl (N + 7) sv3 (S ++ P) rfl T7.out.own w6.heap.size 1 rfl P7.out (by rw [List.length_append]; omega) (by omega) ?_
 intro g2 cap2 w8 ho8 hg8 hs8
 obtain ⟨nn, hnn⟩ : ∃ nn, (S ++ P).length + 1 = nn := ⟨_, rfl⟩
 rw [hnn] at ho8 ⊢
 clear hnn
 have g8 : Mod (fun k => sv3.ownBlock = some k) w7 w8 := Mod.grown hg8 (fun k e => e)
 have hown7 : ∀ g, sv3.ownBlock = some g → N + 7 ≤ g := fun g e => (T7.out.own.lt g e).1
 have S8 := g8.heap T7.out.bs (fun e => by have := hown7 _ e; omega)
 have fz8 := heap_free S8 0
 have ce8 := heap_one S8
 have T9 := Lib.hid (T7.out.app hg8 ho8 (T7.out.all.snoc HPl.out))
 have D9 := Lib.hid (heap_setOther (a := ⟨N + 4, 0, none⟩) (g8.heap D7.out (fun e => (Own4.out _ e).2 rfl)) (by show w.heap.size ≠ N + 4; omega) (.slice (some ⟨g2, 0, none⟩) nn cap2))
 have Q9 := Lib.hid (heap_setOther (a := ⟨N + 4, 0, none⟩) (g8.heap Q7.out (fun e => (Own4.out _ e).1 rfl)) (by show w.heap.size + 1 ≠ N + 4; omega) (.slice (some ⟨g2, 0, none⟩) nn cap2))
 have M8 : Mod (fun k => k = N + 2 ∨ k = N + 4 ∨ k = N + 5 ∨ sv.ownBlock = some k) w w8 := M7.out.trans g8 (fun i hi e => by
  rcases HS3.out i e with h1 | h1
  ·exact .inr (.inr (.inr h1))
  ·omega)
 have M9 := Lib.hid (M8.then (Mod.set (o := 0) w8 (.inr (.inl rfl)) (.slice (some ⟨g2, 0, none⟩) nn cap2)))
 have hos : ∀ g, (Value.slice (some ⟨g2, 0, none⟩) nn cap2).ownBlock = some g → sv.ownBlock = some g ∨ w.heap.size ≤ g := fun g hg => by
  obtain rfl : g2 = g := Option.some.inj hg
  rcases hs8 with h1 | h1
  ·rcases HS3.out _ h1 with h2 | h2
   ·exact .inl h2
   ·right; omega
  ·right; omega
 have Hos := Lib.hid hos
 have Hos2 := Lib.hid hs8
 have hz9 := g8.size
 clear hown7 S8 T7 D7 Q7 M7 P7 ho8 hg8 hs8 g8 hos M8
 try simp only [Act.put,nA,nB,nC]
 (refine wpList_plain rfl (fun K hK => ?_)); go_simp; refine hK _ _ ?_; clear hK K; try simp only [Act.put,nA,nB,nC]
 have cw9 := T9.out.cw
 set_option maxRecDepth 20000 in
 go_upto_region 11 with fail
 obtain ⟨w9, hw9⟩ : ∃ W, w8.setCell ⟨N + 4, 0, none⟩ (.slice (some ⟨g2, 0, none⟩) nn cap2) = W := ⟨_, rfl⟩
 have hsz9 : w.heap.size < w9.heap.size := by rw [← hw9]; simp; omega
 rw [hw9] at T9 D9 Q9 M9 cw9 ⊢
 clear hw9 fz8 ce8
 refine wp_region_list ?_
 iterate 2
  (refine wpList_plain rfl (fun K hK => ?_)); go_simp; refine hK _ _ ?_; clear hK K; try simp only [Act.put,nA,nB,nC]
 refine wpList_loadAt rfl _ rfl (w.heap.size + 1) 0 rfl D HD.out (PR.map bv) _ Q9.out HQ1.out ?_
 try simp only [Act.put,nA,nB,nC]
 (refine wpList_plain rfl (fun K hK => ?_)); go_simp; refine hK _ _ ?_; clear hK K; try simp only [Act.put,nA,nB,nC]
 refine wpList_loadAt rfl _ rfl (w.heap.size + 1) 32 rfl X HXl.out (PR.map bv) _ Q9.out HQ2.out ?_
 try simp only [Act.put,nA,nB,nC]
 refine wpList_plain rfl (fun K hK => ?_)
 go_simp
 go_at_call 53
 refine (knot_any wd D X _ hwd HD.out HXl.out).mono ?_
 rintro e y ⟨rfl, hb⟩
 obtain ⟨KD, hKD⟩ : ∃ KD, knotD wd D X = KD := ⟨_, rfl⟩
 have HKl : Hid (List.length KD = 32) := by rw [← hKD]; exact knotD_length _ _ _
 have HRR' := HRR.out
 rw [hKD] at HRR' ⊢
 refine hK _ _ ?_
 clear hK K hKD
 try simp only [Act.put,nA,nB,nC]
 have Dy := heap_below D9.out hb (by omega)
 have Ty := Lib.hid (T9.out.below hb)
 have My := Lib.hid (M9.out.then (Mod.of _ hb))
 clear hb D9 Q9 T9 M9 cw9
 refine wpList_storeD rfl _ _ rfl w.heap.size rfl zeros32 KD rfl HKl.out rfl Dy ?_
 intro z hdz hbz hkz hzz
 have Hdz := Lib.hid hdz
 have hoz : (Value.slice (some ⟨g2, 0, none⟩) nn cap2).ownBlock ≠ some w.heap.size := fun e => by
  obtain rfl : g2 = w.heap.size := Option.some.inj e
  rcases Hos2.out with h1 | h1
  ·exact (Own4.out _ h1).2 rfl
  ·omega
 have hfin : ClimbPost w lim N leaf wd sv S RR (.returned (dv KD)) z := by
  rw [← HRR']
  refine ⟨rfl, tv5, _, ?_, My.out.trans (Mod.kept (S := fun k => k = w.heap.size) hkz rfl) (fun i hi e => by omega), Hos.out⟩
  have hTz := Ty.out.kept hkz (by omega) hoz
  rw [List.append_assoc, HPR.out.symm] at hTz
  exact hTz
 have Hfin := Lib.hid hfin
 clear hdz hbz hkz Ty My Dy hfin HRR'
 go_wp2_with fail
 refine bodyPost_ret (v := dv KD) ?_ rfl Hfin.out
 exact results_cell1 Try.results77 rfl (DB.load Hdz.out HKl.out)
set_option maxHeartbeats 8000000 in
theorem climb_right (lim N : Nat) (leaf : Dg) (wd i n : Nat) (tv sv : Value) (t : List Dg) (ok : Bool) (S : List Dg) (w : World) (h : Hid (CB w lim N leaf wd tv sv t ok S)) (hl : Hid (leaf.length = 32)) (hn : 2 ≤ n) (hn2 : n ≤ 1048576) (hi : ¬ i < halfN n) (hin : i < n) (hwd : wd ≤ 32) (hS : S.length + n ≤ 100000000)
  (ih : ∀ W tv sv t ok S, CB W lim N leaf wd tv sv t ok S → S.length + (n - halfN n) ≤ 100000000 → Calls Try.prog 77 #[.int .i64 ((i - halfN n : Nat) : Int), .int .i64 ((n - halfN n : Nat) : Int), .pointer (some ⟨N + 1, 0, none⟩), .pointer (some ⟨N + 6, 0, none⟩), .pointer (some ⟨N + 2, 0, none⟩), .pointer (some ⟨N + 5, 0, none⟩), .pointer (some ⟨N + 4, 0, none⟩), .pointer (some ⟨N, 0, none⟩)] W (ClimbPost W lim N leaf wd sv S (climbP wd leaf (i - halfN n) (n - halfN n) t ok)))
  (hlen : (climbP wd leaf (i - halfN n) (n - halfN n) t ok).1.length = 32 ∧ (climbP wd leaf (i - halfN n) (n - halfN n) t ok).2.1.length ≤ n - halfN n - 1 ∧ All32 (climbP wd leaf (i - halfN n) (n - halfN n) t ok).2.2.1) :
  Calls Try.prog 77 #[.int .i64 (i : Int), .int .i64 (n : Int), .pointer (some ⟨N + 1, 0, none⟩), .pointer (some ⟨N + 6, 0, none⟩), .pointer (some ⟨N + 2, 0, none⟩), .pointer (some ⟨N + 5, 0, none⟩), .pointer (some ⟨N + 4, 0, none⟩), .pointer (some ⟨N, 0, none⟩)] w (ClimbPost w lim N leaf wd sv S (climbP wd leaf i n t ok)) := by
 have hs := half_spec hn
 have hcl := climbP_right wd leaf i n t ok hn hi
 obtain ⟨k, hk⟩ : ∃ k, halfN n = k := ⟨_, rfl⟩
 rw [hk] at hs hi ih hlen hcl
 obtain ⟨⟨D, P, t2, ok2⟩, hr⟩ : ∃ r, climbP wd leaf (i - k) (n - k) t ok = r := ⟨_, rfl⟩
 have ih0 := fun W (h : CB W lim N leaf wd tv sv t ok S) => ih W tv sv t ok S h (by omega)
 simp only [hr] at ih0
 have IH := Lib.hid ih0
 rw [hr] at hcl hlen
 dsimp only at hcl
 obtain ⟨hl1, hl2, hl3⟩ := hlen
 have HR := Lib.hid hr
 have HK := Lib.hid hk
 obtain ⟨X, hX⟩ : ∃ X, t2.headD zeros32 = X := ⟨_, rfl⟩
 rw [hX] at hcl
 rw [hcl]
 have HX := Lib.hid hX
 obtain ⟨RR, hRR⟩ : ∃ RR, (knotD wd X D, P ++ [X ++ D], t2.tail, ok2 && !t2.isEmpty) = RR := ⟨_, rfl⟩
 rw [hRR]
 have HRR := Lib.hid hRR
 clear hcl hr hk ih ih0 hX hRR
 have HD : Hid (List.length D = 32) := hl1
 have HT : Hid (All32 t2) := hl3
 have hl2' : P.length ≤ n - k - 1 := hl2
 clear hl1 hl2 hl3
 have hlt : ¬ (i : Int) < (k : Int) := by omega
 have dlt : decide (i < k) = false := decide_eq_false hi
 have dlt2 : decide ((i : Int) < (k : Int)) = false := decide_eq_false hlt
 obtain ⟨ik, hik⟩ : ∃ ik, i - k = ik := ⟨_, rfl⟩
 obtain ⟨nk, hnk⟩ : ∃ nk, n - k = nk := ⟨_, rfl⟩
 have EI : Hid ((i : Int) - (k : Int) = (ik : Int)) := by show _ = _; omega
 have EN : Hid ((n : Int) - (k : Int) = (nk : Int)) := by show _ = _; omega
 simp only [hik, hnk] at IH
 have hnk2 : nk + k = n := by omega
 rw [hnk] at hl2'
 clear hik hnk
 have n1 : ((n : Int) == 1) = false := by simp; omega
 go_enter Try.func77, Try.ntmps77
 go_upto_region 1 with (refine wpList_allocD rfl rfl w.heap.size rfl ?_; intro w1 hd1 hb1 hz1)
 have D1 := Lib.hid hd1
 have B1 := Lib.hid hb1
 have T1 := Lib.hid (h.out.below hb1)
 have hbig := h.out.big
 clear hd1 hb1
 go_upto_region 4 with (go_at_call 52; refine (half_any n _ hn hn2).mono ?_; rintro e w2 ⟨rfl, rfl⟩; rw [HK.out])
 go_upto_region 8 with (refine wpList_allocB rfl 108 rfl (w.heap.size + 1) hz1 _ zero_P ?_; intro w2 hp2 hb2 hz2)
 have hsv : ∀ g, sv.ownBlock = some g → g < w.heap.size := fun g hg => (h.out.own.lt g hg).2
 have HSv := Lib.hid hsv
 have D2 := Lib.hid (D1.out.below hb2 (by omega))
 have P2 : Hid (w2.heap[w.heap.size + 1]? = some (.cells (zeros64.map bv).toArray 108 (0, 0))) := hp2
 have B2 : Hid (Below w.heap.size w w2) := B1.out.trans (hb2.mono (by omega))
 have T2 := Lib.hid (h.out.below B2.out)
 have cu := T2.out.cu
 have ei := EI.out
 have en := EN.out
 clear D1 B1 T1 hp2 hb2 hsv
 go_wp2_with fail
 refine (IH.out _ T2.out).mono ?_
 rintro e w3 ⟨rfl, tv3, sv3, T3, M3, hs3⟩
 have P3 := M3.heap P2.out (fun hh => by
  rcases hh with hh | hh | hh | hh
  ·omega
  ·omega
  ·omega
  ·have := HSv.out _ hh; omega)
 have D3 := Lib.hid (M3.heap D2.out (fun hh => by
  rcases hh with hh | hh | hh | hh
  ·omega
  ·omega
  ·omega
  ·have := HSv.out _ hh; omega))
 have hz3 := M3.size
 have HS3 := Lib.hid hs3
 have T3' := Lib.hid T3
 have M3' : Hid (Mod (fun k => k = N + 2 ∨ k = N + 4 ∨ k = N + 5 ∨ sv.ownBlock = some k) w w3) := (Mod.of _ B2.out).then M3
 clear hs3 T3 M3 P2 D2 T2 B2 cu ei en
 set_option maxRecDepth 20000 in
 go_upto_region 9 with (refine wpList_storeAt rfl _ _ rfl (w.heap.size + 1) 32 rfl D HD.out rfl (zeros64.map bv) _ P3 len_z64' ?_; intro w4 hp4 hk4 hz4)
 rw [pairC D HD.out] at hp4
 have own4 : ∀ g, sv3.ownBlock = some g → g ≠ w.heap.size + 1 ∧ g ≠ w.heap.size := fun g hg => by
  rcases HS3.out g hg with h1 | h1
  ·have := HSv.out g h1; omega
  ·omega
 have T4 := Lib.hid (T3'.out.kept hk4 (by omega) (fun e => (own4 _ e).1 rfl))
 have D4 := Lib.hid (hk4.heap D3.out (by omega))
 have M4 : Hid (Mod (fun k => k = N + 2 ∨ k = N + 4 ∨ k = N + 5 ∨ sv.ownBlock = some k) w w4) := M3'.out.trans (Mod.kept (S := fun k => k = w.heap.size + 1) hk4 rfl) (fun i hi e => by omega)
 have P4 := Lib.hid hp4
 have Own4 := Lib.hid own4
 have hlo := h.out.lo
 clear hp4 hk4 own4 P3 D3 T3' M3'
 go_wp2_with fail
 refine (next_any w4 lim (N + 2) (N + 5) tv3 32 4 ok2 t2 T4.out.bt T4.out.bo (by omega) (by omega) (by omega) T4.out.row).mono ?_
 rintro e w5 ⟨rfl, tv5, ht5, ho5, hr5, m5⟩
 rw [HX.out]
 have T5 := Lib.hid (T4.out.next ht5 ho5 hr5 m5)
 have P5 := m5.heap P4.out (by omega)
 have D5 := Lib.hid (m5.heap D4.out (by omega))
 have M5 : Hid (Mod (fun k => k = N + 2 ∨ k = N + 4 ∨ k = N + 5 ∨ sv.ownBlock = some k) w w5) := M4.out.trans m5 (fun i hi e => by omega)
 have HXl : Hid (List.length X = 32) := by rw [← HX.out]; exact head_length HT.out
 have hz5 := m5.size
 have lzz : 0 + 32 ≤ ((zeros32 ++ D).map bv).length := by rw [List.length_map, List.length_append, HD.out]; show 0 + 32 ≤ 32 + 32; omega
 clear ht5 ho5 hr5 m5 P4 D4 T4 M4
 set_option maxRecDepth 20000 in
 go_upto_region 10 with (refine wpList_storeAt rfl _ _ rfl (w.heap.size + 1) 0 rfl X HXl.out rfl ((zeros32 ++ D).map bv) _ P5 lzz ?_; intro w6 hp6 hk6 hz6)
 rw [pairD zeros32 D X rfl HD.out HXl.out] at hp6
 have T6 := Lib.hid (T5.out.kept hk6 (by omega) (fun e => (Own4.out _ e).1 rfl))
 have D6 := Lib.hid (hk6.heap D5.out (by omega))
 have M6 : Hid (Mod (fun k => k = N + 2 ∨ k = N + 4 ∨ k = N + 5 ∨ sv.ownBlock = some k) w w6) := M5.out.trans (Mod.kept (S := fun k => k = w.heap.size + 1) hk6 rfl) (fun i hi e => by omega)
 have P6 := Lib.hid hp6
 clear hp6 hk6 lzz P5 D5 T5 M5
 have hpl : List.length (X ++ D) = 64 := by rw [List.length_append, HXl.out, HD.out]
 have hq1 := pair1 X D HXl.out
 have hq2 := pair2 X D HXl.out HD.out
 obtain ⟨PR, hPR⟩ : ∃ PR, X ++ D = PR := ⟨_, rfl⟩
 rw [hPR] at hpl hq1 hq2 P6
 have HPR := Lib.hid hPR
 have HPl := Lib.hid hpl
 have HQ1 := Lib.hid hq1
 have HQ2 := Lib.hid hq2
 clear hpl hq1 hq2 hPR
 have cs6 := T6.out.cs
 refine wp_region_list ?_
 (refine wpList_plain rfl (fun K hK => ?_)); go_simp; refine hK _ _ ?_; clear hK K; try simp only [Act.put,nA,nB,nC]
 refine wpList_loadP rfl _ rfl (w.heap.size + 1) rfl PR HPl.out _ P6.out ?_
 try simp only [Act.put,nA,nB,nC]
 refine wpList_sliceP rfl _ rfl PR HPl.out rfl w6.heap.size rfl ?_
 intro w7 hp7 hb7 hz7
 have T7 := Lib.hid (T6.out.below hb7)
 have D7 := Lib.hid (heap_below D6.out hb7 (by omega))
 have Q7 := Lib.hid (heap_below P6.out hb7 (by omega))
 have M7 : Hid (Mod (fun k => k = N + 2 ∨ k = N + 4 ∨ k = N + 5 ∨ sv.ownBlock = some k) w w7) := M6.out.then (Mod.of _ hb7)
 have P7 := Lib.hid hp7
 clear hp7 hb7 T6 P6 D6 M6 cs6
 try simp only [Act.put,nA,nB,nC]
 refine wpList_appPair rfl _ PR HPl.out _ _ rfl (N + 7) sv3 (S ++ P) rfl T7.out.own w6.heap.size 1 rfl P7.out (by rw [List.length_append]; omega) (by omega) ?_
 intro g2 cap2 w8 ho8 hg8 hs8
 obtain ⟨nn, hnn⟩ : ∃ nn, (S ++ P).length + 1 = nn := ⟨_, rfl⟩
 rw [hnn] at ho8 ⊢
 clear hnn
 have g8 : Mod (fun k => sv3.ownBlock = some k) w7 w8 := Mod.grown hg8 (fun k e => e)
 have hown7 : ∀ g, sv3.ownBlock = some g → N + 7 ≤ g := fun g e => (T7.out.own.lt g e).1
 have S8 := g8.heap T7.out.bs (fun e => by have := hown7 _ e; omega)
 have fz8 := heap_free S8 0
 have ce8 := heap_one S8
 have T9 := Lib.hid (T7.out.app hg8 ho8 (T7.out.all.snoc HPl.out))
 have D9 := Lib.hid (heap_setOther (a := ⟨N + 4, 0, none⟩) (g8.heap D7.out (fun e => (Own4.out _ e).2 rfl)) (by show w.heap.size ≠ N + 4; omega) (.slice (some ⟨g2, 0, none⟩) nn cap2))
 have Q9 := Lib.hid (heap_setOther (a := ⟨N + 4, 0, none⟩) (g8.heap Q7.out (fun e => (Own4.out _ e).1 rfl)) (by show w.heap.size + 1 ≠ N + 4; omega) (.slice (some ⟨g2, 0, none⟩) nn cap2))
 have M8 : Mod (fun k => k = N + 2 ∨ k = N + 4 ∨ k = N + 5 ∨ sv.ownBlock = some k) w w8 := M7.out.trans g8 (fun i hi e => by
  rcases HS3.out i e with h1 | h1
  ·exact .inr (.inr (.inr h1))
  ·omega)
 have M9 := Lib.hid (M8.then (Mod.set (o := 0) w8 (.inr (.inl rfl)) (.slice (some ⟨g2, 0, none⟩) nn cap2)))
 have hos : ∀ g, (Value.slice (some ⟨g2, 0, none⟩) nn cap2).ownBlock = some g → sv.ownBlock = some g ∨ w.heap.size ≤ g := fun g hg => by
  obtain rfl : g2 = g := Option.some.inj hg
  rcases hs8 with h1 | h1
  ·rcases HS3.out _ h1 with h2 | h2
   ·exact .inl h2
   ·right; omega
  ·right; omega
 have Hos := Lib.hid hos
 have Hos2 := Lib.hid hs8
 have hz9 := g8.size
 clear hown7 S8 T7 D7 Q7 M7 P7 ho8 hg8 hs8 g8 hos M8
 try simp only [Act.put,nA,nB,nC]
 (refine wpList_plain rfl (fun K hK => ?_)); go_simp; refine hK _ _ ?_; clear hK K; try simp only [Act.put,nA,nB,nC]
 have cw9 := T9.out.cw
 set_option maxRecDepth 20000 in
 go_upto_region 11 with fail
 obtain ⟨w9, hw9⟩ : ∃ W, w8.setCell ⟨N + 4, 0, none⟩ (.slice (some ⟨g2, 0, none⟩) nn cap2) = W := ⟨_, rfl⟩
 have hsz9 : w.heap.size < w9.heap.size := by rw [← hw9]; simp; omega
 rw [hw9] at T9 D9 Q9 M9 cw9 ⊢
 clear hw9 fz8 ce8
 refine wp_region_list ?_
 iterate 2
  (refine wpList_plain rfl (fun K hK => ?_)); go_simp; refine hK _ _ ?_; clear hK K; try simp only [Act.put,nA,nB,nC]
 refine wpList_loadAt rfl _ rfl (w.heap.size + 1) 0 rfl X HXl.out (PR.map bv) _ Q9.out HQ1.out ?_
 try simp only [Act.put,nA,nB,nC]
 (refine wpList_plain rfl (fun K hK => ?_)); go_simp; refine hK _ _ ?_; clear hK K; try simp only [Act.put,nA,nB,nC]
 refine wpList_loadAt rfl _ rfl (w.heap.size + 1) 32 rfl D HD.out (PR.map bv) _ Q9.out HQ2.out ?_
 try simp only [Act.put,nA,nB,nC]
 refine wpList_plain rfl (fun K hK => ?_)
 go_simp
 go_at_call 53
 refine (knot_any wd X D _ hwd HXl.out HD.out).mono ?_
 rintro e y ⟨rfl, hb⟩
 obtain ⟨KD, hKD⟩ : ∃ KD, knotD wd X D = KD := ⟨_, rfl⟩
 have HKl : Hid (List.length KD = 32) := by rw [← hKD]; exact knotD_length _ _ _
 have HRR' := HRR.out
 rw [hKD] at HRR' ⊢
 refine hK _ _ ?_
 clear hK K hKD
 try simp only [Act.put,nA,nB,nC]
 have Dy := heap_below D9.out hb (by omega)
 have Ty := Lib.hid (T9.out.below hb)
 have My := Lib.hid (M9.out.then (Mod.of _ hb))
 clear hb D9 Q9 T9 M9 cw9
 refine wpList_storeD rfl _ _ rfl w.heap.size rfl zeros32 KD rfl HKl.out rfl Dy ?_
 intro z hdz hbz hkz hzz
 have Hdz := Lib.hid hdz
 have hoz : (Value.slice (some ⟨g2, 0, none⟩) nn cap2).ownBlock ≠ some w.heap.size := fun e => by
  obtain rfl : g2 = w.heap.size := Option.some.inj e
  rcases Hos2.out with h1 | h1
  ·exact (Own4.out _ h1).2 rfl
  ·omega
 have hfin : ClimbPost w lim N leaf wd sv S RR (.returned (dv KD)) z := by
  rw [← HRR']
  refine ⟨rfl, tv5, _, ?_, My.out.trans (Mod.kept (S := fun k => k = w.heap.size) hkz rfl) (fun i hi e => by omega), Hos.out⟩
  have hTz := Ty.out.kept hkz (by omega) hoz
  rw [List.append_assoc, HPR.out.symm] at hTz
  exact hTz
 have Hfin := Lib.hid hfin
 clear hdz hbz hkz Ty My Dy hfin HRR'
 go_wp2_with fail
 refine bodyPost_ret (v := dv KD) ?_ rfl Hfin.out
 exact results_cell1 Try.results77 rfl (DB.load Hdz.out HKl.out)
theorem climbP_len (wd : Nat) (leaf : Dg) (hl : leaf.length = 32) : ∀ (n i : Nat) (t : List Dg) (ok : Bool), All32 t → (climbP wd leaf i n t ok).1.length = 32 ∧ (climbP wd leaf i n t ok).2.1.length ≤ n - 1 ∧ All32 (climbP wd leaf i n t ok).2.2.1 := by
 intro n
 induction n using Nat.strongRecOn with
 | _ n ih =>
  intro i t ok ht
  by_cases h1 : n ≤ 1
  ·rw [climbP_one wd leaf i n t ok h1]
   exact ⟨hl, by simp, ht⟩
  ·have hs := half_spec (n := n) (by omega)
   have tl : ∀ l : List Dg, All32 l → All32 l.tail := fun l h x hx => h x (List.mem_of_mem_tail hx)
   by_cases hi : i < halfN n
   ·rw [climbP_left wd leaf i n t ok (by omega) hi]
    obtain ⟨e1, e2, e3⟩ := ih (halfN n) (by omega) i t ok ht
    exact ⟨knotD_length _ _ _, by simp only [List.length_append, List.length_singleton]; omega, tl _ e3⟩
   ·rw [climbP_right wd leaf i n t ok (by omega) hi]
    obtain ⟨e1, e2, e3⟩ := ih (n - halfN n) (by omega) (i - halfN n) t ok ht
    exact ⟨knotD_length _ _ _, by simp only [List.length_append, List.length_singleton]; omega, tl _ e3⟩
theorem climbC_any (lim N : Nat) (leaf : Dg) (wd : Nat) (hl : leaf.length = 32) (hwd : wd ≤ 32) : ∀ (n i : Nat) (W : World) (tv sv : Value) (t : List Dg) (ok : Bool) (S : List Dg), CB W lim N leaf wd tv sv t ok S → 1 ≤ n → i < n → n ≤ 1048576 → S.length + n ≤ 100000000 →
  Calls Try.prog 77 #[.int .i64 (i : Int), .int .i64 (n : Int), .pointer (some ⟨N + 1, 0, none⟩), .pointer (some ⟨N + 6, 0, none⟩), .pointer (some ⟨N + 2, 0, none⟩), .pointer (some ⟨N + 5, 0, none⟩), .pointer (some ⟨N + 4, 0, none⟩), .pointer (some ⟨N, 0, none⟩)] W (ClimbPost W lim N leaf wd sv S (climbP wd leaf i n t ok)) := by
 intro n
 induction n using Nat.strongRecOn with
 | _ n ih =>
  intro i W tv sv t ok S h h1 hi hn hS
  by_cases hn1 : n = 1
  ·subst hn1
   rw [climbP_one wd leaf i 1 t ok (Nat.le_refl _)]
   exact climb_one lim N leaf wd i tv sv t ok S W h hl
  ·have hs := half_spec (n := n) (by omega)
   by_cases hik : i < halfN n
   ·exact climb_left lim N leaf wd i n tv sv t ok S W h hl (by omega) hn hik hwd hS (fun W tv sv t ok S h hS => ih (halfN n) (by omega) i W tv sv t ok S h (by omega) hik (by omega) hS) (climbP_len wd leaf hl _ _ t ok h.row.1)
   ·exact climb_right lim N leaf wd i n tv sv t ok S W h hl (by omega) hn hik hi hwd hS (fun W tv sv t ok S h hS => ih (n - halfN n) (by omega) (i - halfN n) W tv sv t ok S h (by omega) (by omega) (by omega) hS) (climbP_len wd leaf hl _ _ t ok h.row.1)
end Go.Proofs.Ytihbhpggpnmifaa
