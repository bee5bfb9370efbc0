/-
  The walk of primes.
-/
import Derived.Test.YtmjikebbknjahaaRootX
namespace Go.Proofs.Ytmjikebbknjahaa
open Go.RowKit Go.Lib Hw
set_option linter.unusedVariables false

def OwnN (w : World) (B : Nat) (v : Value) (xs : List Nat) : Prop := w.ownsRow B 102 1 v xs.length (xs.map nv64)
theorem nv_one (xs : List Nat) : ∀ u ∈ xs.map nv64, u.oneCell' = true := by
  intro u hu
  obtain ⟨_, _, rfl⟩ := List.mem_map.1 hu
  rfl
theorem OwnN.nil (w : World) (B : Nat) : OwnN w B (.slice none 0 0) [] := World.ownsRow_nil w B _ 1
theorem OwnN.shape {w : World} {B : Nat} {v : Value} {xs : List Nat} (h : OwnN w B v xs) : ∃ ad cap, v = .slice ad xs.length cap ∧ xs.length ≤ cap ∧ (0 < xs.length → ∃ g, ad = some ⟨g, 0, none⟩) := by
  rcases h.2 with ⟨rfl, h0⟩ | ⟨g, cap, cur, rfl, _, _, hc, _⟩
  · exact ⟨none, 0, by rw [h0], by omega, fun h => by omega⟩
  · exact ⟨_, cap, rfl, hc, fun _ => ⟨g, rfl⟩⟩
theorem OwnN.cell {w : World} {B g n cap : Nat} {xs : List Nat} (h : OwnN w B (.slice (some ⟨g, 0, none⟩) n cap) xs) (j : Nat) (hj : j < xs.length) : w.cell? ⟨g, j, none⟩ = some (.int .u64 (xs[j] : Int)) := by
  have h1 := World.ownsRow.cells (w := w) h (g := g) rfl j (nv64 xs[j]) (by simp [hj])
  rw [add_flat1, Nat.zero_add] at h1
  exact h1
theorem OwnN.row {w : World} {B : Nat} {v : Value} {xs : List Nat} (h : OwnN w B v xs) (hn : 0 < xs.length) : NRw w v xs := by
  obtain ⟨g, cap, rfl, _, hg⟩ := World.ownsRow.form h hn
  exact ⟨g, cap, rfl, hg, fun j hj => h.cell j hj⟩
theorem wpList_appN64 {ops : Array Oper} {rest : List Oper} {o : Oper} {a : Act} {Q : Exit → Act → World → Prop} (W : World) (t : TypeId) (x : Nat) (hgd : o.guard = none) (s y : Operand)
    (ho : o.op = .call { callee := .builtin .append, args := #[s, y], argTypes := #[105, 105] })
    (B : Nat) (v : Value) (xs : List Nat) (hs : a.eval s = v) (hown : OwnN W B v xs) (c : Nat) (hy : a.eval y = .slice (some ⟨W.heap.size, 0, none⟩) 1 c)
    (hlen : xs.length ≤ 1000000) (hB : B ≤ W.heap.size)
    (h : ∀ v' w', OwnN w' B v' (xs ++ [x]) → Below B W w' → wpList Try.prog ops Q rest (a.put o.dst v') w') :
    wpList Try.prog ops Q (o :: rest) a (W.alloc (.cells #[.int .u64 (x : Int)] t)) := by
  obtain ⟨i, hi, hz0, hz1, hz2⟩ := info_parts info_u64
  refine wpList_append_own _ hgd s y 105 ho B 102 i (.int .u64 0) 1 8 Try.underlying105 hi hz0 hz1 hz2 rfl (by decide) v xs.length (xs.map nv64) hs (World.ownsRow.alloc hown _) ⟨W.heap.size, 0, none⟩ 1 c [nv64 x] hy rfl ?_ (nv_one [x]) (by rw [maxLen_eq]; omega) (by omega) (by simp only [World.size_alloc]; omega) ?_
  · exact World.news_of_block (heap_alloc_new W _)
  · intro v' w' h1 h2 _
    refine h v' w' ?_ (((Below.refl B W).alloc hB _).grown h2 (by simp only [World.size_alloc]; omega) (fun k hk => (World.ownsRow.lt hown k hk).1))
    unfold OwnN
    rw [List.length_append, List.map_append]
    exact h1
theorem sieve_ge : ∀ q, ∀ r ∈ sieve q, 2 ≤ r
  | 0, r, h => by cases h
  | q + 1, r, h => by
    rw [sieve] at h
    cases hc : (decide (2 ≤ q) && (sieve q).all (fun r => q % r != 0))
    · rw [hc, cond_false] at h
      exact sieve_ge q r h
    · rw [hc, cond_true, List.mem_append] at h
      rcases h with h | h
      · exact sieve_ge q r h
      · rw [List.mem_singleton] at h
        subst h
        rw [Bool.and_eq_true] at hc
        exact of_decide_eq_true hc.1
theorem sieve_small : ∀ q, (sieve q).length ≤ q
  | 0 => Nat.le_refl _
  | q + 1 => by
    rw [sieve]
    have := sieve_small q
    cases (decide (2 ≤ q) && (sieve q).all (fun r => q % r != 0))
    · rw [cond_false]; omega
    · rw [cond_true, List.length_append, List.length_singleton]; omega

theorem sieve_prefix (q : Nat) : ∀ d, sieve q <+: sieve (q + d)
  | 0 => List.prefix_refl _
  | d + 1 => by
    have h := sieve_prefix q d
    show sieve q <+: sieve (q + d + 1)
    rw [sieve]
    cases (decide (2 ≤ q + d) && (sieve (q + d)).all (fun r => (q + d) % r != 0))
    · rw [cond_false]; exact h
    · rw [cond_true]; exact h.trans (List.prefix_append _ _)
theorem sieve_done {q : Nat} (h : q ≤ 312) (hl : 64 ≤ (sieve q).length) : sieve q = sieve 312 := by
  have h1 := sieve_prefix q (312 - q)
  rw [show q + (312 - q) = 312 by omega] at h1
  exact h1.eq_of_length_le (by rw [sieve_len]; exact hl)

set_option maxHeartbeats 4000000 in
theorem primes_any (w : World) :
    Calls Try.prog 79 #[.int .i64 64] w fun e w' => ∃ v, e = .returned v ∧ OwnN w' w.heap.size v (sieve 312) ∧ Below w.heap.size w w' := by
  go_enter Try.func79, Try.ntmps79
  go_wp2_with fail
  go_loopw [3, 4, 5, 6] (fun v p _ _ wr => ∃ (q : Nat), 2 ≤ q ∧ q ≤ 312 ∧ Hid (OwnN wr w.heap.size v (sieve q)) ∧ Hid (Below w.heap.size w wr) ∧ p = .int .u64 (q : Int)) (fun _ p _ _ _ => 312 - (intOf p).toNat)
  case atStart => exact ⟨2, by omega, by omega, OwnN.nil _ _, Below.refl _ _, rfl⟩
  case round =>
    obtain ⟨q, hq2, hq, HO, HB, rfl⟩ := hrel
    have hsm := sieve_small q
    have hge := sieve_ge q
    have hnext : sieve (q + 1) = bif (sieve q).all (fun r => q % r != 0) then sieve q ++ [q] else sieve q := by rw [sieve, decide_eq_true hq2, Bool.true_and]
    have h312 : (sieve 312).length = 64 := sieve_len
    have hqn : q = 312 → (sieve q).length = 64 := fun h => by rw [h]; exact h312
    obtain ⟨L, hL⟩ : ∃ L, sieve q = L := ⟨_, rfl⟩
    rw [hL] at HO hsm hge hnext hqn
    obtain ⟨ad, cap, rfl, hcap, had⟩ := HO.out.shape
    have Had := Lib.hid had
    have Hge := Lib.hid hge
    have Hnext := Lib.hid hnext
    have Hqn := Lib.hid hqn
    have HL := Lib.hid hL
    have hz := HB.out.size
    clear had hge hnext hqn hL h312
    by_cases hlt : L.length < 64
    · have d1 : decide (L.length < 64) = true := decide_eq_true hlt
      have d2 : decide ((L.length : Int) < 64) = true := decide_eq_true (by omega)
      have hq3 : q < 312 := by
        rcases Nat.lt_or_ge q 312 with h | h
        · exact h
        · have := Hqn.out (by omega); omega
      go_wp2_with fail
      go_loopw [5, 6] (fun b i wx => ∃ (k : Nat), k ≤ L.length ∧ wx = wr ∧ b = .bool ((L.take k).all (fun r => q % r != 0)) ∧ i = .int .i64 (k : Int)) (fun _ i _ => L.length - (intOf i).toNat)
      case atStart => exact ⟨0, by omega, rfl, rfl, rfl⟩
      case round =>
        obtain ⟨k, hk, rfl, rfl, rfl⟩ := hrel
        by_cases hkl : k < L.length
        · obtain ⟨g, rfl⟩ := Had.out (by omega)
          have c0 := HO.out.cell k hkl
          have hr := Hge.out L[k] (List.getElem_mem hkl)
          have hall : (L.take (k + 1)).all (fun r => q % r != 0) = ((L.take k).all (fun r => q % r != 0) && (q % L[k] != 0)) := by
            rw [List.take_add_one, List.getElem?_eq_getElem hkl, List.all_append]
            simp
          obtain ⟨r, hrr⟩ : ∃ r, L[k] = r := ⟨_, rfl⟩
          rw [hrr] at c0 hr hall
          obtain ⟨B, hB⟩ : ∃ B, (L.take k).all (fun r => q % r != 0) = B := ⟨_, rfl⟩
          rw [hB] at hall ⊢
          obtain ⟨m, hm⟩ : ∃ m, q % r = m := ⟨_, rfl⟩
          rw [hm] at hall
          have hm1 : (q : Int).tmod (r : Int) = (m : Int) := by rw [Int.tmod_eq_emod_of_nonneg (by omega), ← hm]; omega
          have hm2 : (q : Int) % (r : Int) = (m : Int) := by rw [← hm]; omega
          have r0 : ((r : Int) == 0) = false := by rw [beq_eq_false_iff_ne]; omega
          have r1 : ((r : Int) = 0) = False := by simp; omega
          have r2 : (r = 0) = False := by simp; omega
          have Hall := Lib.hid hall
          clear hrr hB hm hall
          by_cases hm0 : m = 0
          · subst hm0
            have S1 : Hid ((L.take (k + 1)).all (fun r => q % r != 0) = false) := by show _ = _; rw [Hall.out]; simp
            go_wp2_with fail
            exact ⟨⟨k + 1, by omega, (by first | rfl | trivial), by rw [S1.out], by go_num⟩, by simp [intOf]; omega⟩
          · have m0 : ((m : Int) == 0) = false := by rw [beq_eq_false_iff_ne]; omega
            have S1 : Hid ((L.take (k + 1)).all (fun r => q % r != 0) = B) := by
              show _ = _
              rw [Hall.out, bne_iff_ne.2 hm0, Bool.and_true]
            go_wp2_with fail
            exact ⟨⟨k + 1, by omega, (by first | rfl | trivial), by rw [S1.out], by go_num⟩, by simp [intOf]; omega⟩
        · obtain rfl : k = L.length := by omega
          have htk : L.take L.length = L := List.take_length
          have hnx := Hnext.out
          rw [htk]
          have hll : L.length ≤ 1000000 := by omega
          have q1 : IntKind.u64.wrap ((q : Int) + 1) = (q : Int) + 1 := by rw [IntKind.wrap_u64]; omega
          cases hB : L.all (fun r => q % r != 0)
          · rw [hB, cond_false] at hnx
            have Hnx := Lib.hid hnx
            clear hnx htk hB
            go_wp2_with fail
            exact ⟨⟨q + 1, by omega, by omega, by show OwnN _ _ _ _; rw [Hnx.out]; exact HO.out, HB, by go_num⟩, by simp [intOf]; omega⟩
          · rw [hB, cond_true] at hnx
            have Hnx := Lib.hid hnx
            clear hnx htk hB
            go_wp2_with (at_builtin; refine wpList_appN64 _ 102 q rfl _ _ rfl w.heap.size _ L rfl HO.out _ rfl hll hz ?_; intro v2 w2 hv2 hb2)
            exact ⟨⟨q + 1, by omega, by omega, by show OwnN _ _ _ _; rw [Hnx.out]; exact hv2, HB.out.trans hb2, by go_num⟩, by simp [intOf]; omega⟩
    · have d1 : decide (L.length < 64) = false := decide_eq_false hlt
      have d2 : decide ((L.length : Int) < 64) = false := decide_eq_false (by omega)
      have hfin : L = sieve 312 := by rw [← HL.out]; exact sieve_done hq (by rw [HL.out]; omega)
      have hrow := HO.out
      have hl64 : L.length = (sieve 312).length := by rw [hfin]
      have Hrow : Hid (OwnN wr w.heap.size (.slice ad (sieve 312).length cap) (sieve 312)) := by
        have h := HO.out
        rw [hl64] at h
        rw [hfin] at h
        exact h
      have Hl := Lib.hid hl64
      clear hfin hrow hl64 HO Had Hge Hnext Hqn HL
      go_wp2_with fail
      go_ret
      exact ⟨_, rfl, by rw [Hl.out]; exact Hrow.out, HB.out⟩
end Go.Proofs.Ytmjikebbknjahaa
