/-
  The walks of above and root.
-/
import Derived.Test.YtmjikebbknjahaaRootV
namespace Go.Proofs.Ytmjikebbknjahaa
open Go.RowKit Go.Lib Hw
set_option linter.unusedVariables false

def posN (x : Nat) : Bool := decide (0 < x)
def noA (l : List Nat) (n i : Nat) : Bool := ((l.take i).drop (n + 1)).any posN
def hiA (l : List Nat) (n i : Nat) : Nat := if n < i then l.getD n 0 else 0
def reA (l : List Nat) (n i : Nat) : Bool := (l.take (min i n)).any posN
theorem noA_succ (l : List Nat) (n i : Nat) (h : i < l.length) : noA l n (i + 1) = (noA l n i || (decide (n < i) && posN l[i])) := by
  unfold noA
  rw [List.take_add_one, List.getElem?_eq_getElem h, List.drop_append, List.any_append, List.length_take, Nat.min_eq_left (by omega)]
  congr 1
  by_cases hn : n < i
  · rw [show n + 1 - i = 0 by omega, decide_eq_true hn]
    simp
  · rw [decide_eq_false hn, Bool.false_and]
    obtain ⟨m, hm⟩ : ∃ m, n + 1 - i = m + 1 := ⟨n - i, by omega⟩
    rw [hm]
    simp
theorem reA_succ (l : List Nat) (n i : Nat) (h : i < l.length) : reA l n (i + 1) = bif decide (i < n) then (reA l n i || posN l[i]) else reA l n i := by
  unfold reA
  by_cases hn : i < n
  · rw [decide_eq_true hn, cond_true, Nat.min_eq_left (by omega), Nat.min_eq_left (by omega), List.take_add_one, List.getElem?_eq_getElem h, List.any_append]
    simp
  · rw [decide_eq_false hn, cond_false, Nat.min_eq_right (by omega), Nat.min_eq_right (by omega)]
theorem hiA_succ (l : List Nat) (n i : Nat) (h : i < l.length) : hiA l n (i + 1) = if i = n then l[i] else hiA l n i := by
  unfold hiA
  by_cases hn : i = n
  · subst hn
    rw [if_pos (by omega), if_pos rfl, List.getD_eq_getElem?_getD, List.getElem?_eq_getElem h]
    rfl
  · rw [if_neg hn]
    by_cases h2 : n < i
    · rw [if_pos (by omega), if_pos h2]
    · rw [if_neg (by omega), if_neg h2]
theorem above_end (l : List Nat) (p n : Nat) (h : noA l n l.length = false) : aboveL l p n = (decide (p < hiA l n l.length) || (hiA l n l.length == p && reA l n l.length)) := by
  unfold noA at h
  rw [List.take_length] at h
  have e1 : hiA l n l.length = l.getD n 0 := by
    unfold hiA
    by_cases hn : n < l.length
    · rw [if_pos hn]
    · rw [if_neg hn, List.getD_eq_getElem?_getD, List.getElem?_eq_none (by omega)]; rfl
  have e2 : reA l n l.length = (l.take n).any posN := by
    unfold reA
    by_cases hn : n ≤ l.length
    · rw [Nat.min_eq_right hn]
    · rw [Nat.min_eq_left (by omega), List.take_length, List.take_of_length_le (by omega)]
  rw [e1, e2]
  unfold aboveL
  have h' : (l.drop (n + 1)).any (fun x => decide (0 < x)) = false := h
  rw [h', Bool.false_or]
  rfl
theorem above_true (l : List Nat) (p n i : Nat) (h : i < l.length) (hn : n < i) (hx : 0 < l[i]) : aboveL l p n = true := by
  unfold aboveL
  have : (l.drop (n + 1)).any (fun x => decide (0 < x)) = true := by
    rw [List.any_eq_true]
    refine ⟨l[i], ?_, decide_eq_true hx⟩
    rw [List.mem_iff_getElem?]
    refine ⟨i - (n + 1), ?_⟩
    rw [List.getElem?_drop, show n + 1 + (i - (n + 1)) = i by omega, List.getElem?_eq_getElem h]
  rw [this, Bool.true_or]

set_option maxHeartbeats 4000000 in
theorem above_any (v : Value) (l : List Nat) (p n : Nat) (w : World) (hv : NRw w v l) (hl : l.length ≤ 1000) (hn : n ≤ 1000) :
    Calls Try.prog 88 #[v, .int .u64 (p : Int), .int .i64 (n : Int)] w fun e w' => e = .returned (.bool (aboveL l p n)) ∧ w = w' := by
  obtain ⟨g, c, rfl, hg, hc⟩ := hv
  have HC := Lib.hid hc
  obtain ⟨A, hA⟩ : ∃ A, aboveL l p n = A := ⟨_, rfl⟩
  rw [hA]
  have HA := Lib.hid hA
  clear hc hA
  go_enter Try.func88, Try.ntmps88
  go_wp2_with fail
  go_loopw [7, 8, 9] (fun h r i wr => ∃ (k : Nat), k ≤ l.length ∧ Hid (noA l n k = false) ∧ wr = w ∧ h = .int .u64 (hiA l n k : Int) ∧ r = .bool (reA l n k) ∧ i = .int .i64 (k : Int)) (fun _ _ i _ => l.length - (intOf i).toNat)
  case atStart =>
    refine ⟨0, by omega, ?_, rfl, ?_, ?_, rfl⟩
    · show noA l n 0 = false
      simp [noA]
    · simp [hiA]
    · simp [reA]
  case round =>
    obtain ⟨k, hk, HN, rfl, rfl, rfl, rfl⟩ := hrel
    by_cases hlt : k < l.length
    · have c0 := HC.out k hlt
      have s1 := noA_succ l n k hlt
      have s2 := reA_succ l n k hlt
      have s3 := hiA_succ l n k hlt
      have s4 : n < k → 0 < l[k] → A = true := fun h1 h2 => by rw [← HA.out]; exact above_true l p n k hlt h1 h2
      obtain ⟨x, hx⟩ : ∃ x, l[k] = x := ⟨_, rfl⟩
      rw [hx] at c0 s1 s2 s3 s4
      rw [HN.out, Bool.false_or] at s1
      obtain ⟨hk0, hhk⟩ : ∃ h, hiA l n k = h := ⟨_, rfl⟩
      obtain ⟨rk, hrk⟩ : ∃ r, reA l n k = r := ⟨_, rfl⟩
      rw [hhk] at s3 ⊢
      rw [hrk] at s2 ⊢
      clear hx hhk hrk
      by_cases h1 : n < k
      · have dn : decide (n < k) = true := decide_eq_true h1
        have dn2 : decide ((n : Int) < (k : Int)) = true := decide_eq_true (by omega)
        by_cases h2 : 0 < x
        · obtain rfl : A = true := s4 h1 h2
          have dx : decide (0 < x) = true := decide_eq_true h2
          have dx2 : decide ((0 : Int) < (x : Int)) = true := decide_eq_true (by omega)
          clear s1 s2 s3 s4 HA
          go_wp2_with fail
          go_ret
          exact ⟨rfl, rfl⟩
        · have dx : decide (0 < x) = false := decide_eq_false h2
          have hx0 : x = 0 := by omega
          subst hx0
          have S1 : Hid (noA l n (k + 1) = false) := by show _ = _; rw [s1]; simp [posN]
          have S2 : Hid (reA l n (k + 1) = rk) := by show _ = _; rw [s2, decide_eq_false (by omega)]; rfl
          have S3 : Hid (hiA l n (k + 1) = hk0) := by show _ = _; rw [s3, if_neg (by omega)]
          have dk : ((k : Int) == (n : Int)) = false := by rw [beq_eq_false_iff_ne]; omega
          have dk2 : decide (k < n) = false := decide_eq_false (by omega)
          clear s1 s2 s3 s4 HA h2
          go_wp2_with fail
          exact ⟨⟨k + 1, by omega, S1, (by first | rfl | trivial), by rw [S3.out], by rw [S2.out], by go_num⟩, by simp [intOf]; omega⟩
      · have dn : decide (n < k) = false := decide_eq_false h1
        have dn2 : decide ((n : Int) < (k : Int)) = false := decide_eq_false (by omega)
        have S1 : Hid (noA l n (k + 1) = false) := by show _ = _; rw [s1, dn]; rfl
        by_cases h3 : k = n
        · subst h3
          have S2 : Hid (reA l k (k + 1) = rk) := by show _ = _; rw [s2, decide_eq_false (by omega)]; rfl
          have S3 : Hid (hiA l k (k + 1) = x) := by show _ = _; rw [s3, if_pos rfl]
          clear s1 s2 s3 s4 HA
          go_wp2_with fail
          exact ⟨⟨k + 1, by omega, S1, (by first | rfl | trivial), by rw [S3.out], by rw [S2.out], by go_num⟩, by simp [intOf]; omega⟩
        · have hkn : k < n := by omega
          have dk : ((k : Int) == (n : Int)) = false := by rw [beq_eq_false_iff_ne]; omega
          have dk2 : decide (k < n) = true := decide_eq_true hkn
          have S3 : Hid (hiA l n (k + 1) = hk0) := by show _ = _; rw [s3, if_neg h3]
          by_cases h2 : 0 < x
          · have dx : decide (0 < x) = true := decide_eq_true h2
            have dx2 : decide ((0 : Int) < (x : Int)) = true := decide_eq_true (by omega)
            have S2 : Hid (reA l n (k + 1) = true) := by show _ = _; rw [s2, dk2, cond_true]; simp [posN, h2]
            clear s1 s2 s3 s4 HA
            go_wp2_with fail
            exact ⟨⟨k + 1, by omega, S1, (by first | rfl | trivial), by rw [S3.out], by rw [S2.out], by go_num⟩, by simp [intOf]; omega⟩
          · have hx0 : x = 0 := by omega
            subst hx0
            have S2 : Hid (reA l n (k + 1) = rk) := by show _ = _; rw [s2, dk2, cond_true]; simp [posN]
            clear s1 s2 s3 s4 HA h2
            go_wp2_with fail
            exact ⟨⟨k + 1, by omega, S1, (by first | rfl | trivial), by rw [S3.out], by rw [S2.out], by go_num⟩, by simp [intOf]; omega⟩
    · obtain rfl : k = l.length := by omega
      have hend := above_end l p n HN.out
      rw [HA.out] at hend
      obtain ⟨hk0, hhk⟩ : ∃ h, hiA l n l.length = h := ⟨_, rfl⟩
      obtain ⟨rk, hrk⟩ : ∃ r, reA l n l.length = r := ⟨_, rfl⟩
      rw [hhk, hrk] at hend
      rw [hhk, hrk]
      clear HN HA hhk hrk
      by_cases h1 : p < hk0
      · obtain rfl : A = true := by rw [hend, decide_eq_true h1]; rfl
        have d1 : decide (p < hk0) = true := decide_eq_true h1
        clear hend
        go_wp2_with fail
        go_ret
        exact ⟨rfl, rfl⟩
      · have d1 : decide (p < hk0) = false := decide_eq_false h1
        rw [d1, Bool.false_or] at hend
        by_cases h2 : hk0 = p
        · obtain rfl : A = rk := by rw [hend, h2, beq_self_eq_true]; rfl
          have d2 : ((hk0 : Int) == (p : Int)) = true := by rw [h2]; exact beq_self_eq_true _
          clear hend
          subst h2
          go_wp2_with fail
          go_ret
          exact ⟨rfl, rfl⟩
        · obtain rfl : A = false := by rw [hend, beq_eq_false_iff_ne.2 h2]; rfl
          have d2 : ((hk0 : Int) == (p : Int)) = false := by rw [beq_eq_false_iff_ne]; omega
          clear hend
          go_wp2_with fail
          go_ret
          exact ⟨rfl, rfl⟩
end Go.Proofs.Ytmjikebbknjahaa
