/-
  The walk of set, over numbers that stand once.
-/
import Derived.Test.YtkngmnfgdlnddaaCntM
namespace Go.Proofs.Ytkngmnfgdlnddaa
open Go.RowKit Go.Lib Hw Go.Maps
set_option linter.unusedSimpArgs false
set_option linter.unusedVariables false

theorem nd_mid {L acc rest : List Nat} {y : Nat} (h : L.Nodup) (hl : L.length < 9223372036854775807) (e : L = acc ++ y :: rest) : oneF acc y = 0 ∧ acc.length < 9223372036854775807 := by
  subst e
  refine ⟨oneF_no (fun hm => (List.nodup_append.1 h).2.2 y hm y (List.mem_cons_self ..) rfl), ?_⟩
  rw [List.length_append] at hl
  omega
theorem mid1 (A B X ys t d : List Nat) (p y : Nat) (h : ys = t ++ y :: d) : (A ++ (p :: ys ++ B)) ++ X = (A ++ (p :: t)) ++ y :: (d ++ B ++ X) := by subst h; simp
theorem mid2 (A X t d : List Nat) (y : Nat) (h : X = t ++ y :: d) : A ++ X = (A ++ t) ++ y :: d := by subst h; simp
set_option maxRecDepth 5000 in
set_option maxHeartbeats 8000000 in
theorem set_any (v xv : Value) (b mo mc : Nat) (cs : List (Nat × List Nat)) (xs : List Nat) (w : World) (hv : Hid (CRow w v cs)) (hx : Hid (URow w xv xs)) (hmx : Hid (w.cell? ⟨mo, 0, none⟩ = some xv)) (hnd : Hid ((flat cs ++ xs).Nodup)) (hln : Hid ((flat cs ++ xs).length < 9223372036854775807)) :
    Calls Try.prog 36 #[v, .slice (some ⟨mo, 0, none⟩) 1 mc] w fun e w' => ∃ g, e = .returned (.tuple #[.map (some g), .bool true]) ∧ w.heap.size ≤ g ∧ CntM w' g (flat cs ++ xs).length (oneF (flat cs ++ xs)) ∧ Below w.heap.size w w' := by
  obtain ⟨cad, cc, hcv, hx1⟩ := hv.out.form
  obtain ⟨xad, xc, hxv, hx2, hx3⟩ := hx.out.form
  clear hx1 hx2 hx3
  subst hcv hxv
  obtain ⟨N, hN⟩ : ∃ N, w.heap.size = N := ⟨_, rfl⟩
  have HN := Lib.hid hN
  have hmm := @run_makeMap Try.prog
  obtain ⟨nc, hnc⟩ : ∃ k, cs.length = k := ⟨_, rfl⟩
  obtain ⟨nx, hnx⟩ : ∃ k, xs.length = k := ⟨_, rfl⟩
  have HNC := Lib.hid hnc
  have HNX := Lib.hid hnx
  rw [hN]
  rw [hnc] at hv ⊢
  rw [hnx] at hx hmx
  clear hnc hnx hN
  go_enter Try.func36, Try.ntmps36
  go_upto_region 1 with fail
  with_reducible refine wp_region_list ?_
  with_reducible refine wpList_plain rfl ?_
  intro K hK
  go_simp
  first | with_reducible refine hK _ _ ?_ | refine hK _ _ ?_
  clear hK K
  (try simp only [Act.put, List.setIfInBounds_toArray, List.set_cons_zero, List.set_cons_succ])
  with_reducible refine wpList_plain rfl ?_
  intro K hK
  go_simp
  first | with_reducible refine hK _ _ ?_ | refine hK _ _ ?_
  clear hK K
  (try simp only [Act.put, List.setIfInBounds_toArray, List.set_cons_zero, List.set_cons_succ])
  with_reducible refine wpList_plain rfl ?_
  intro K hK
  go_simp
  first | with_reducible refine hK _ _ ?_ | refine hK _ _ ?_
  clear hK K
  (try simp only [Act.put, List.setIfInBounds_toArray, List.set_cons_zero, List.set_cons_succ])
  rw [HN.out]
  obtain ⟨w2, hw2⟩ : ∃ W, (w.alloc (.map #[] 0)).alloc (.cells #[.map (some N)] 60) = W := ⟨_, rfl⟩
  have z2 : w2.heap.size = N + 2 := by rw [← hw2]; simp only [World.size_alloc]; have := HN.out; omega
  have c2 : CntM w2 N 0 (fun _ => 0) := by
    have h1 := CntM.made w
    rw [HN.out] at h1
    rw [← hw2]
    exact h1.mod (Mod.of (fun _ => False) ((Below.refl _ _).alloc (Nat.le_refl _) _)) (fun h => h)
  have v2 : w2.heap[N + 1]? = some (.cells #[.map (some N)] 60 (0, 0)) := by
    have h1 := heap_alloc_new (w.alloc (.map #[] 0)) (.cells #[.map (some N)] 60)
    rw [World.size_alloc, HN.out] at h1
    rw [← hw2]
    exact h1
  have b2 : Below N w w2 := by rw [← hw2, ← HN.out]; exact ((Below.refl _ _).alloc (Nat.le_refl _) _).alloc (by simp only [World.size_alloc]; omega) _
  rw [hw2]
  clear hw2 hmm
  go_upto_region 2 with fail
  with_reducible refine wp_region_list ?_
  with_reducible refine wpList_plain rfl ?_
  intro K hK
  go_simp
  first | with_reducible refine hK _ _ ?_ | refine hK _ _ ?_
  clear hK K
  (try simp only [Act.put, List.setIfInBounds_toArray, List.set_cons_zero, List.set_cons_succ])
  with_reducible refine wpList_plain rfl ?_
  intro K hK
  go_simp
  first | with_reducible refine hK _ _ ?_ | refine hK _ _ ?_
  clear hK K
  (try simp only [Act.put, List.setIfInBounds_toArray, List.set_cons_zero, List.set_cons_succ])
  obtain ⟨w3, hw3⟩ : ∃ W, w2.alloc (.cells #[.bool true] 4) = W := ⟨_, rfl⟩
  have b3 : Below w2.heap.size w2 w3 := by rw [← hw3]; exact (Below.refl _ _).alloc (Nat.le_refl _) _
  have o3 : w3.heap[N + 2]? = some (.cells #[.bool true] 4 (0, 0)) := by
    have h1 := heap_alloc_new w2 (.cells #[.bool true] 4)
    rw [z2] at h1
    rw [← hw3]
    exact h1
  have S3 : Hid (SI w N N (N + 1) (N + 2) (flat (cs.take 0)) w3) := ⟨(c2.below b3).congr (fun x _ => by simp [oneF, flat]), heap_below v2 b3 (by omega), o3, b2.trans (b3.mono (by omega)), by omega, by omega, by omega, by omega, by omega, by omega⟩
  rw [hw3]
  clear hw3 z2 c2 v2 b2 b3 o3
  have hmf : ∀ (fn : Fn) (first cap : Array Value) (w : World), (Instr.makeFunc fn first cap).run Try.prog w = .ok (.func fn first cap) w := fun _ _ _ _ => rfl
  go_upto_region 5 with fail
  clear hmf
  go_loopw [9] (fun iv wr => ∃ (k : Nat), k ≤ nc ∧ Hid (SI w N N (N + 1) (N + 2) (flat (cs.take k)) wr) ∧ iv = .int .i64 (k : Int)) (fun iv _ => nc - (intOf iv).toNat)
  case atStart => exact ⟨0, Nat.zero_le _, S3, rfl⟩
  case round =>
    obtain ⟨k, hk, HS, rfl⟩ := hrel
    by_cases hlt : k < nc
    case pos =>
      have ik : (k : Int) < (nc : Int) := by omega
      have hkx : k < cs.length := by have := HNC.out; omega
      obtain ⟨b1, o1, nad, nc2, e1, r1, u1, pp1⟩ := hv.out.at hkx
      subst e1
      have hfl : flat cs = flat (cs.take k) ++ ((cs[k].1 :: cs[k].2) ++ flat (cs.drop (k + 1))) := by rw [flat_split cs k, flat_drop hkx]
      have hfs : flat (cs.take (k + 1)) = flat (cs.take k) ++ (cs[k].1 :: cs[k].2) := flat_take_succ hkx
      obtain ⟨⟨pg, ys⟩, hx0⟩ : ∃ x, cs[k] = x := ⟨_, rfl⟩
      rw [hx0] at r1 u1 pp1 hfl hfs
      simp only at r1 u1 pp1 hfl hfs
      have HFL := Lib.hid hfl
      have HFS := Lib.hid hfs
      have hbn : b1 < N := by rw [← HN.out]; exact World.block_lt_of_cell? w ⟨b1, o1 + k * 2 + 0, none⟩ (r1 0 _ rfl)
      have f1 := range_block r1 (HS.out.b.block b1 hbn) 0 _ rfl
      unfold uN at f1
      rw [Nat.add_zero] at f1
      obtain ⟨ny, hny⟩ : ∃ n, ys.length = n := ⟨_, rfl⟩
      have HNY := Lib.hid hny
      have R1 := Lib.hid r1
      have HU := Lib.hid u1
      rw [hny] at HU R1
      clear hfl hfs hx0 r1 u1 hny hkx hlt
      obtain ⟨k9, hk9⟩ : ∃ k9 : Nat, k9 = k + 1 := ⟨_, rfl⟩
      have ew1 : (k : Int) + 1 = (k9 : Int) := by omega
      have ew2 : IntKind.i64.wrap (k9 : Int) = (k9 : Int) := IntWalk.i64_in _ (by obtain ⟨_, _, h2, h3⟩ := hv.out.form; have := HNC.out; omega)
      have hk3 : k9 ≤ nc := by omega
      have hk4 : nc - k9 < nc - k := by omega
      have HK9 := Lib.hid hk9
      clear hk9
      have hmid := nd_mid (acc := flat (cs.take k)) (y := pg) (rest := ys ++ flat (cs.drop (k + 1)) ++ xs) hnd.out hln.out (by rw [HFL.out]; simp)
      have HCN := Lib.hid (count_any wr N (N + 1) (N + 2) (flat (cs.take k)).length (oneF (flat (cs.take k))) pg HS.out.c hmid.2 pp1 hmid.1 HS.out.m HS.out.o (by omega) (by omega))
      clear hmid
      go_upto_region 7 with fail
      with_reducible refine wp_region_list ?_
      with_reducible refine wpList_plain rfl ?_
      intro K hK
      go_simp
      first | with_reducible refine hK _ _ ?_ | refine hK _ _ ?_
      clear hK K
      (try simp only [Act.put, List.setIfInBounds_toArray, List.set_cons_zero, List.set_cons_succ])
      with_reducible refine wpList_plain rfl ?_
      intro K hK
      go_simp
      first | with_reducible refine hK _ _ ?_ | refine hK _ _ ?_
      clear hK K
      (try simp only [Act.put, List.setIfInBounds_toArray, List.set_cons_zero, List.set_cons_succ])
      with_reducible refine wpList_plain rfl ?_
      intro K hK
      go_simp
      first | with_reducible refine hK _ _ ?_ | refine hK _ _ ?_
      clear hK K
      (try simp only [Act.put, List.setIfInBounds_toArray, List.set_cons_zero, List.set_cons_succ])
      with_reducible refine wpList_plain rfl ?_
      intro K hK
      go_simp
      first | with_reducible refine hK _ _ ?_ | refine hK _ _ ?_
      clear hK K
      (try simp only [Act.put, List.setIfInBounds_toArray, List.set_cons_zero, List.set_cons_succ])
      with_reducible refine wpList_plain rfl ?_
      intro K hK
      go_simp
      first | with_reducible refine hK _ _ ?_ | refine hK _ _ ?_
      clear hK K
      (try simp only [Act.put, List.setIfInBounds_toArray, List.set_cons_zero, List.set_cons_succ])
      with_reducible refine wpList_plain rfl ?_
      intro K hK
      go_simp
      first | with_reducible refine hK _ _ ?_ | refine hK _ _ ?_
      clear hK K
      (try simp only [Act.put, List.setIfInBounds_toArray, List.set_cons_zero, List.set_cons_succ])
      with_reducible refine wpList_plain rfl ?_
      intro K hK
      go_simp
      (go_at_call 74; refine HCN.out.mono ?_; rintro e w4 ⟨q1, q2, q3, rfl⟩)
      first | with_reducible refine hK _ _ ?_ | refine hK _ _ ?_
      clear hK K
      (try simp only [Act.put, List.setIfInBounds_toArray, List.set_cons_zero, List.set_cons_succ])
      have S4 : Hid (SI w N N (N + 1) (N + 2) (flat (cs.take k) ++ (pg :: ys.take 0)) w4) := by rw [List.take_zero]; exact HS.out.put q1 q2 q3
      clear q1 q2 q3 HCN f1
      go_upto_region 9 with fail
      go_loopw [10] (fun iv wr3 => ∃ (i : Nat), i ≤ ny ∧ Hid (SI w N N (N + 1) (N + 2) (flat (cs.take k) ++ (pg :: ys.take i)) wr3) ∧ iv = .int .i64 (i : Int)) (fun iv _ => ny - (intOf iv).toNat)
      case atStart => exact ⟨0, Nat.zero_le _, S4, rfl⟩
      case round =>
        obtain ⟨i, hi, HT, rfl⟩ := hrel
        have f2 := range_block R1.out (HT.out.b.block b1 hbn) 1 _ rfl
        by_cases hlt : i < ny
        case neg =>
          have ii : ¬ (i : Int) < (ny : Int) := by omega
          have ST : Hid (SI w N N (N + 1) (N + 2) (flat (cs.take k9)) wr) := by
            have h := HT.out
            have ht : ys.take i = ys := List.take_of_length_le (by rw [HNY.out]; omega)
            rw [ht, ← HFS.out, ← HK9.out] at h
            exact h
          clear hlt
          go_wp2_with fail
          exact ⟨⟨k9, hk3, ST, rfl⟩, by simp only [intOf, Int.toNat_natCast]; exact hk4⟩
        case pos =>
          have ii : (i : Int) < (ny : Int) := by omega
          have hix : i < ys.length := by have := HNY.out; omega
          obtain ⟨a1, c1, e1, _, g1⟩ := (HU.out.below (by rw [HN.out]; exact HT.out.b)).form
          obtain ⟨b3, o3, e3, hc3⟩ := g1 (by omega)
          have e4 := (Value.slice.inj e1).1
          rw [e3] at e4
          subst e4
          have h1 := hc3 i hix
          have hx4 : ys[i] < 4294967296 := HU.out.1 _ (List.getElem_mem hix)
          have hyd : ys = ys.take i ++ ys[i] :: ys.drop (i + 1) := by rw [← List.drop_eq_getElem_cons hix, List.take_append_drop]
          have hyt : ys.take (i + 1) = ys.take i ++ [ys[i]] := List.take_succ_eq_append_getElem hix
          obtain ⟨y, hy⟩ : ∃ y, ys[i] = y := ⟨_, rfl⟩
          rw [hy] at h1 hx4 hyd hyt
          unfold uN at h1
          have hmid := nd_mid (acc := flat (cs.take k) ++ (pg :: ys.take i)) (y := y) (rest := ys.drop (i + 1) ++ flat (cs.drop (k + 1)) ++ xs) hnd.out hln.out (by rw [HFL.out]; exact mid1 _ _ _ _ _ _ _ _ hyd)
          have HYT := Lib.hid hyt
          obtain ⟨i9, hi9⟩ : ∃ i9 : Nat, i9 = i + 1 := ⟨_, rfl⟩
          have iw1 : (i : Int) + 1 = (i9 : Int) := by omega
          have iw2 : IntKind.i64.wrap (i9 : Int) = (i9 : Int) := IntWalk.i64_in _ (by obtain ⟨_, _, _, h2, _⟩ := HU.out.form; omega)
          have hi3 : i9 ≤ ny := by omega
          have hi4 : ny - i9 < ny - i := by omega
          have HI9 := Lib.hid hi9
          have HCN := Lib.hid (count_any wr N (N + 1) (N + 2) (flat (cs.take k) ++ (pg :: ys.take i)).length (oneF (flat (cs.take k) ++ (pg :: ys.take i))) y HT.out.c hmid.2 hx4 hmid.1 HT.out.m HT.out.o (by omega) (by omega))
          clear hmid hyd hyt hy hi9 hc3 e1 e3 g1 hix hlt
          go_upto_region 11 with fail
          with_reducible refine wp_region_list ?_
          with_reducible refine wpList_plain rfl ?_
          intro K hK
          go_simp
          first | with_reducible refine hK _ _ ?_ | refine hK _ _ ?_
          clear hK K
          (try simp only [Act.put, List.setIfInBounds_toArray, List.set_cons_zero, List.set_cons_succ])
          with_reducible refine wpList_plain rfl ?_
          intro K hK
          go_simp
          first | with_reducible refine hK _ _ ?_ | refine hK _ _ ?_
          clear hK K
          (try simp only [Act.put, List.setIfInBounds_toArray, List.set_cons_zero, List.set_cons_succ])
          with_reducible refine wpList_plain rfl ?_
          intro K hK
          go_simp
          first | with_reducible refine hK _ _ ?_ | refine hK _ _ ?_
          clear hK K
          (try simp only [Act.put, List.setIfInBounds_toArray, List.set_cons_zero, List.set_cons_succ])
          with_reducible refine wpList_plain rfl ?_
          intro K hK
          go_simp
          first | with_reducible refine hK _ _ ?_ | refine hK _ _ ?_
          clear hK K
          (try simp only [Act.put, List.setIfInBounds_toArray, List.set_cons_zero, List.set_cons_succ])
          with_reducible refine wpList_plain rfl ?_
          intro K hK
          go_simp
          first | with_reducible refine hK _ _ ?_ | refine hK _ _ ?_
          clear hK K
          (try simp only [Act.put, List.setIfInBounds_toArray, List.set_cons_zero, List.set_cons_succ])
          with_reducible refine wpList_plain rfl ?_
          intro K hK
          go_simp
          first | with_reducible refine hK _ _ ?_ | refine hK _ _ ?_
          clear hK K
          (try simp only [Act.put, List.setIfInBounds_toArray, List.set_cons_zero, List.set_cons_succ])
          with_reducible refine wpList_plain rfl ?_
          intro K hK
          go_simp
          first | with_reducible refine hK _ _ ?_ | refine hK _ _ ?_
          clear hK K
          (try simp only [Act.put, List.setIfInBounds_toArray, List.set_cons_zero, List.set_cons_succ])
          with_reducible refine wpList_plain rfl ?_
          intro K hK
          go_simp
          first | with_reducible refine hK _ _ ?_ | refine hK _ _ ?_
          clear hK K
          (try simp only [Act.put, List.setIfInBounds_toArray, List.set_cons_zero, List.set_cons_succ])
          with_reducible refine wpList_plain rfl ?_
          intro K hK
          go_simp
          first | with_reducible refine hK _ _ ?_ | refine hK _ _ ?_
          clear hK K
          (try simp only [Act.put, List.setIfInBounds_toArray, List.set_cons_zero, List.set_cons_succ])
          with_reducible refine wpList_plain rfl ?_
          intro K hK
          go_simp
          (go_at_call 74; refine HCN.out.mono ?_; rintro e w5 ⟨q1, q2, q3, rfl⟩)
          first | with_reducible refine hK _ _ ?_ | refine hK _ _ ?_
          clear hK K
          (try simp only [Act.put, List.setIfInBounds_toArray, List.set_cons_zero, List.set_cons_succ])
          have S5 : Hid (SI w N N (N + 1) (N + 2) (flat (cs.take k) ++ (pg :: ys.take i9)) w5) := by
            have h := HT.out.put q1 q2 q3
            rw [HI9.out, HYT.out]
            show SI _ _ _ _ _ _ _
            simpa using h
          clear q1 q2 q3 HCN f2 h1 HT
          go_wp2_with fail
          exact ⟨⟨i9, hi3, S5, rfl⟩, by simp only [intOf, Int.toNat_natCast]; exact hi4⟩
    case neg =>
      have ik : ¬ (k : Int) < (nc : Int) := by omega
      have SF : Hid (SI w N N (N + 1) (N + 2) (flat cs ++ xs.take 0) wr) := by
        have h := HS.out
        have ht : cs.take k = cs := List.take_of_length_le (by rw [HNC.out]; omega)
        rw [ht] at h
        show SI _ _ _ _ _ _ _
        rw [List.take_zero, List.append_nil]
        exact h
      have hmn : mo < N := by rw [← HN.out]; exact World.block_lt_of_cell? w ⟨mo, 0, none⟩ hmx.out
      clear hlt HS S3
      go_upto_region 13 with fail
      clear ik hk
      go_loopw [11] (fun iv wr2 => ((iv = .int .i64 0 ∧ Hid (SI w N N (N + 1) (N + 2) (flat cs ++ xs.take 0) wr2)) ∨ (iv = .int .i64 1 ∧ Hid (SI w N N (N + 1) (N + 2) (flat cs ++ xs) wr2)))) (fun iv _ => 1 - (intOf iv).toNat)
      case atStart => exact .inl ⟨rfl, SF⟩
      case round =>
        rcases hrel with ⟨rfl, HS⟩ | ⟨rfl, HS⟩
        · have m0 := (HS.out.b.cell (p := ⟨mo, 0, none⟩) hmn).trans hmx.out
          have HM0 := Lib.hid m0
          go_upto_region 16 with fail
          clear m0
          go_loopw [12] (fun iv wr3 => ∃ (i : Nat), i ≤ nx ∧ Hid (SI w N N (N + 1) (N + 2) (flat cs ++ xs.take i) wr3) ∧ iv = .int .i64 (i : Int)) (fun iv _ => nx - (intOf iv).toNat)
          case atStart => exact ⟨0, Nat.zero_le _, HS, rfl⟩
          case round =>
            obtain ⟨i, hi, HT, rfl⟩ := hrel
            have m0 := (HT.out.b.cell (p := ⟨mo, 0, none⟩) hmn).trans hmx.out
            by_cases hlt : i < nx
            case neg =>
              have ii : ¬ (i : Int) < (nx : Int) := by omega
              have ST : Hid (SI w N N (N + 1) (N + 2) (flat cs ++ xs) wr) := by
                have h := HT.out
                have ht : xs.take i = xs := List.take_of_length_le (by rw [HNX.out]; omega)
                rw [ht] at h
                exact h
              clear hlt
              go_wp2_with fail
              exact ⟨.inr ⟨rfl, ST⟩, by simp [intOf]⟩
            case pos =>
              have ii : (i : Int) < (nx : Int) := by omega
              have hix : i < xs.length := by have := HNX.out; omega
              obtain ⟨a1, c1, e1, _, g1⟩ := (hx.out.below (by rw [HN.out]; exact HT.out.b)).form
              obtain ⟨b3, o3, e3, hc3⟩ := g1 (by omega)
              have e4 := (Value.slice.inj e1).1
              rw [e3] at e4
              subst e4
              have h1 := hc3 i hix
              have hx4 : xs[i] < 4294967296 := hx.out.1 _ (List.getElem_mem hix)
              have hyd : xs = xs.take i ++ xs[i] :: xs.drop (i + 1) := by rw [← List.drop_eq_getElem_cons hix, List.take_append_drop]
              have hyt : xs.take (i + 1) = xs.take i ++ [xs[i]] := List.take_succ_eq_append_getElem hix
              obtain ⟨y, hy⟩ : ∃ y, xs[i] = y := ⟨_, rfl⟩
              rw [hy] at h1 hx4 hyd hyt
              unfold uN at h1
              have hmid := nd_mid (acc := flat cs ++ xs.take i) (y := y) (rest := xs.drop (i + 1)) hnd.out hln.out (mid2 _ _ _ _ _ hyd)
              have HYT := Lib.hid hyt
              obtain ⟨i9, hi9⟩ : ∃ i9 : Nat, i9 = i + 1 := ⟨_, rfl⟩
              have iw1 : (i : Int) + 1 = (i9 : Int) := by omega
              have iw2 : IntKind.i64.wrap (i9 : Int) = (i9 : Int) := IntWalk.i64_in _ (by obtain ⟨_, _, _, h2, _⟩ := hx.out.form; omega)
              have hi3 : i9 ≤ nx := by omega
              have hi4 : nx - i9 < nx - i := by omega
              have HI9 := Lib.hid hi9
              have HCN := Lib.hid (count_any wr N (N + 1) (N + 2) (flat cs ++ xs.take i).length (oneF (flat cs ++ xs.take i)) y HT.out.c hmid.2 hx4 hmid.1 HT.out.m HT.out.o (by omega) (by omega))
              clear hmid hyd hyt hy hi9 hc3 e1 e3 g1 hix hlt
              go_upto_region 18 with fail
              with_reducible refine wp_region_list ?_
              with_reducible refine wpList_plain rfl ?_
              intro K hK
              go_simp
              first | with_reducible refine hK _ _ ?_ | refine hK _ _ ?_
              clear hK K
              (try simp only [Act.put, List.setIfInBounds_toArray, List.set_cons_zero, List.set_cons_succ])
              with_reducible refine wpList_plain rfl ?_
              intro K hK
              go_simp
              first | with_reducible refine hK _ _ ?_ | refine hK _ _ ?_
              clear hK K
              (try simp only [Act.put, List.setIfInBounds_toArray, List.set_cons_zero, List.set_cons_succ])
              with_reducible refine wpList_plain rfl ?_
              intro K hK
              go_simp
              first | with_reducible refine hK _ _ ?_ | refine hK _ _ ?_
              clear hK K
              (try simp only [Act.put, List.setIfInBounds_toArray, List.set_cons_zero, List.set_cons_succ])
              with_reducible refine wpList_plain rfl ?_
              intro K hK
              go_simp
              first | with_reducible refine hK _ _ ?_ | refine hK _ _ ?_
              clear hK K
              (try simp only [Act.put, List.setIfInBounds_toArray, List.set_cons_zero, List.set_cons_succ])
              with_reducible refine wpList_plain rfl ?_
              intro K hK
              go_simp
              first | with_reducible refine hK _ _ ?_ | refine hK _ _ ?_
              clear hK K
              (try simp only [Act.put, List.setIfInBounds_toArray, List.set_cons_zero, List.set_cons_succ])
              with_reducible refine wpList_plain rfl ?_
              intro K hK
              go_simp
              first | with_reducible refine hK _ _ ?_ | refine hK _ _ ?_
              clear hK K
              (try simp only [Act.put, List.setIfInBounds_toArray, List.set_cons_zero, List.set_cons_succ])
              with_reducible refine wpList_plain rfl ?_
              intro K hK
              go_simp
              first | with_reducible refine hK _ _ ?_ | refine hK _ _ ?_
              clear hK K
              (try simp only [Act.put, List.setIfInBounds_toArray, List.set_cons_zero, List.set_cons_succ])
              with_reducible refine wpList_plain rfl ?_
              intro K hK
              go_simp
              first | with_reducible refine hK _ _ ?_ | refine hK _ _ ?_
              clear hK K
              (try simp only [Act.put, List.setIfInBounds_toArray, List.set_cons_zero, List.set_cons_succ])
              with_reducible refine wpList_plain rfl ?_
              intro K hK
              go_simp
              (go_at_call 74; refine HCN.out.mono ?_; rintro e w5 ⟨q1, q2, q3, rfl⟩)
              first | with_reducible refine hK _ _ ?_ | refine hK _ _ ?_
              clear hK K
              (try simp only [Act.put, List.setIfInBounds_toArray, List.set_cons_zero, List.set_cons_succ])
              have S5 : Hid (SI w N N (N + 1) (N + 2) (flat cs ++ xs.take i9) w5) := by
                have h := HT.out.put q1 q2 q3
                rw [HI9.out, HYT.out]
                show SI _ _ _ _ _ _ _
                simpa using h
              clear q1 q2 q3 HCN m0 h1 HT
              go_wp2_with fail
              exact ⟨⟨i9, hi3, S5, rfl⟩, by simp only [intOf, Int.toNat_natCast]; exact hi4⟩
        · have cm := heap_cell HS.out.m (o := 0)
          have co := heap_cell HS.out.o (o := 0)
          go_upto_region 19 with fail
          go_quiet (fail)
          have SF2 : Hid (SI w N N (N + 1) (N + 2) (flat cs ++ xs) wr) := HS
          clear cm co
          go_wp2_with fail
          exact bodyPost_ret (v := .tuple #[.map (some N), .bool true]) (by simp [results, Try.results36, go_sem]) rfl ⟨N, rfl, Nat.le_refl _, SF2.out.c, SF2.out.b.trans ((below_dN wr nq).mono (by have := SF2.out.c.lt; omega))⟩
end Go.Proofs.Ytkngmnfgdlnddaa
