/-
  The walk of free.Body.
-/
import Derived.Test.YtkngmnfgdlnddaaFreeB
import Derived.Test.YtkngmnfgdlnddaaPackW
namespace Go.Proofs.Ytkngmnfgdlnddaa
open Go.RowKit Go.Lib Hw
set_option linter.unusedVariables false

def bstr (bs : List UInt8) : ByteArray := ⟨bs.toArray⟩
theorem bstr_size (bs : List UInt8) : (bstr bs).size = bs.length := by simp [bstr, ByteArray.size]
theorem bstr_list (bs : List UInt8) : (bstr bs).data.toList = bs := rfl
theorem bstr_append (x y : List UInt8) : bstr x ++ bstr y = bstr (x ++ y) := by
  apply ByteArray.ext
  simp [bstr, ByteArray.data_append]
theorem bstr_self (s : ByteArray) : bstr s.data.toList = s := by simp [bstr]
theorem WString_any (B p : Nat) (bs : List UInt8) (w : World) (hw : Wr w B p bs) :
    Calls Try.prog 62 #[.pointer (some ⟨p, 0, none⟩)] w fun e w' => e = .returned (.string (bstr bs)) ∧ w = w' := by
  obtain ⟨hB, sl, hp, hown⟩ := hw
  have c1 : w.cell? ⟨p, 1, none⟩ = some sl := by rw [heap_cell hp]; rfl
  have hc := conv_own hown
  clear hp hown
  go_enter Try.func62, Try.ntmps62
  go_wp2
  go_ret
  exact ⟨rfl, rfl⟩
/-- may it be a batch's body? -/
def bodyB (a b : Int) (next : Nat) (xs : List Nat) : Bool := mayB a b && ((decide (next = 0) || numB next) && (decide ((xs.length : Int) ≤ entI a b) && (!(xs.any fun n => !numB n) && risB xs)))
def bodyL (next : Nat) (xs : List Nat) : List UInt8 := be 4 next ++ (be 4 xs.length ++ xs.flatMap (be 4))
def bodyS (a b : Int) (next : Nat) (xs : List Nat) : ByteArray := if bodyB a b next xs = true then bstr (bodyL next xs) else ⟨#[]⟩
def bodyE (a b : Int) (next : Nat) (xs : List Nat) : Int := if bodyB a b next xs = true then 0 else 2
def BodyPost (a b : Int) (next : Nat) (xs : List Nat) (w : World) (e : Ending) (w' : World) : Prop := e = .returned (.tuple #[.string (bodyS a b next xs), .int .i64 (bodyE a b next xs)]) ∧ Below w.heap.size w w'
theorem body_no {a b : Int} {next : Nat} {xs : List Nat} (h : bodyB a b next xs = false) : bodyS a b next xs = ⟨#[]⟩ ∧ bodyE a b next xs = 2 := by
  unfold bodyS bodyE
  rw [h]
  exact ⟨rfl, rfl⟩
theorem body_yes {a b : Int} {next : Nat} {xs : List Nat} (h : bodyB a b next xs = true) : bodyS a b next xs = bstr (bodyL next xs) ∧ bodyE a b next xs = 0 := by
  unfold bodyS bodyE
  rw [h]
  exact ⟨rfl, rfl⟩
theorem flat4 (xs : List Nat) : (xs.flatMap (be 4)).length = 4 * xs.length := by
  induction xs with
  | nil => rfl
  | cons x r ih => rw [List.flatMap_cons, List.length_append, ih, List.length_cons]; simp [be_length]; omega
set_option maxRecDepth 5000 in
set_option maxHeartbeats 8000000 in
theorem Body_any (a b : Int) (next : Nat) (v : Value) (xs : List Nat) (w : World) (hn : next < 4294967296) (hv : Hid (URow w v xs)) :
    Calls Try.prog 23 #[.agg #[.int .i64 a, .int .i64 b], .int .u32 (next : Int), v] w (BodyPost a b next xs w) := by
  obtain ⟨ad, c, hv1, hl, _⟩ := hv.out.form
  subst hv1
  obtain ⟨N, hN⟩ : ∃ N, w.heap.size = N := ⟨_, rfl⟩
  have HN := Lib.hid hN
  have HFail : Hid (∀ w', bodyB a b next xs = false → Below N w w' → BodyPost a b next xs w (.returned (.tuple #[.string ⟨#[]⟩, .int .i64 2])) w') := fun w' h hb => by
    obtain ⟨h1, h2⟩ := body_no h
    exact ⟨by rw [h1, h2], by rw [hN]; exact hb⟩
  have HOk : Hid (∀ w', bodyB a b next xs = true → Below N w w' → BodyPost a b next xs w (.returned (.tuple #[.string (bstr (bodyL next xs)), .int .i64 0])) w') := fun w' h hb => by
    obtain ⟨h1, h2⟩ := body_yes h
    exact ⟨by rw [h1, h2], by rw [hN]; exact hb⟩
  have HB : Hid (bodyB a b next xs = (mayB a b && ((decide (next = 0) || numB next) && (decide ((xs.length : Int) ≤ entI a b) && (!(xs.any fun n => !numB n) && risB xs))))) := rfl
  obtain ⟨R, hR⟩ : ∃ R, BodyPost a b next xs w = R := ⟨_, rfl⟩
  rw [hR] at HFail HOk ⊢
  obtain ⟨q1, hq1⟩ : ∃ q, mayB a b = q := ⟨_, rfl⟩
  obtain ⟨q2, hq2⟩ : ∃ q, numB next = q := ⟨_, rfl⟩
  obtain ⟨q4, hq4⟩ : ∃ q, (xs.any fun n => !numB n) = q := ⟨_, rfl⟩
  obtain ⟨q5, hq5⟩ : ∃ q, risB xs = q := ⟨_, rfl⟩
  have H1 := Lib.hid hq1
  have H2 := Lib.hid hq2
  have H4 := Lib.hid hq4
  have H5 := Lib.hid hq5
  have hE := entI_bd a b
  obtain ⟨E, hE1⟩ : ∃ E, entI a b = E := ⟨_, rfl⟩
  rw [hE1] at hE
  have HE := Lib.hid hE1
  clear hN hR hq1 hq2 hq4 hq5 hE1
  go_enter Try.func23, Try.ntmps23
  go_upto_region 0 with fail
  with_reducible refine wp_region_list ?_
  refine wpList_boxB rfl _ _ rfl N HN.out #[.int .i64 a, .int .i64 b] rfl ?_
  intro w0 e0 b0 z0
  (try simp only [Act.put, List.setIfInBounds_toArray, List.set_cons_zero, List.set_cons_succ])
  with_reducible refine wpList_plain rfl ?_
  intro K hK
  go_simp
  first | with_reducible refine hK _ _ ?_ | refine hK _ _ ?_
  clear hK K
  (try simp only [Act.put, List.setIfInBounds_toArray, List.set_cons_zero, List.set_cons_succ])
  with_reducible refine wpList_plain rfl ?_
  intro K hK
  go_simp
  first | with_reducible refine hK _ _ ?_ | refine hK _ _ ?_
  clear hK K
  (try simp only [Act.put, List.setIfInBounds_toArray, List.set_cons_zero, List.set_cons_succ])
  have E0 := Lib.hid e0
  have B0 := Lib.hid b0
  have Z0 := Lib.hid z0
  clear e0 b0 z0
  go_upto_region 2 with fail
  have k0 := heap_cell E0.out (o := 0)
  have k1 := heap_cell E0.out (o := 1)
  with_reducible refine wp_region_list ?_
  with_reducible refine wpList_plain rfl ?_
  intro K hK
  go_simp
  first | with_reducible refine hK _ _ ?_ | refine hK _ _ ?_
  clear hK K
  (try simp only [Act.put, List.setIfInBounds_toArray, List.set_cons_zero, List.set_cons_succ])
  with_reducible refine wpList_plain rfl ?_
  intro K hK
  go_simp
  refine (Right_any a b w0).mono ?_; rintro e w1 ⟨rfl, b1⟩; rw [H1.out]
  first | with_reducible refine hK _ _ ?_ | refine hK _ _ ?_
  clear hK K
  (try simp only [Act.put, List.setIfInBounds_toArray, List.set_cons_zero, List.set_cons_succ])
  have E1 : Hid (w1.heap[N]? = some (.cells #[.int .i64 a, .int .i64 b] 23 (0, 0))) := heap_below E0.out b1 (heap_lt E0.out)
  have B1 := Lib.hid (B0.out.trans (b1.mono (by have := Z0.out; omega)))
  clear b1 E0 B0 k0 k1
  with_reducible refine wpList_plain rfl ?_
  intro K hK
  go_simp
  first | with_reducible refine hK _ _ ?_ | refine hK _ _ ?_
  clear hK K
  (try simp only [Act.put, List.setIfInBounds_toArray, List.set_cons_zero, List.set_cons_succ])
  with_reducible refine wpList_plain rfl ?_
  intro K hK
  go_simp
  first | with_reducible refine hK _ _ ?_ | refine hK _ _ ?_
  clear hK K
  (try simp only [Act.put, List.setIfInBounds_toArray, List.set_cons_zero, List.set_cons_succ])
  cases q1
  case false =>
    with_reducible refine wpList_step ?_
    intro K hK
    rw [if_neg (Bool.eq_false_iff.1 (by rfl))]
    first | with_reducible refine hK _ _ ?_ | refine hK _ _ ?_
    clear hK K
    (try simp only [Act.put, List.setIfInBounds_toArray, List.set_cons_zero, List.set_cons_succ])
    with_reducible refine wpList_step ?_
    intro K hK
    rw [if_neg (Bool.eq_false_iff.1 (by rfl))]
    first | with_reducible refine hK _ _ ?_ | refine hK _ _ ?_
    clear hK K
    (try simp only [Act.put, List.setIfInBounds_toArray, List.set_cons_zero, List.set_cons_succ])
    with_reducible refine wpList_step ?_
    intro K hK
    rw [if_neg (Bool.eq_false_iff.1 (by rfl))]
    first | with_reducible refine hK _ _ ?_ | refine hK _ _ ?_
    clear hK K
    (try simp only [Act.put, List.setIfInBounds_toArray, List.set_cons_zero, List.set_cons_succ])
    with_reducible refine wpList_step ?_
    intro K hK
    rw [if_neg (Bool.eq_false_iff.1 (by rfl))]
    first | with_reducible refine hK _ _ ?_ | refine hK _ _ ?_
    clear hK K
    (try simp only [Act.put, List.setIfInBounds_toArray, List.set_cons_zero, List.set_cons_succ])
    with_reducible refine wpList_step ?_
    intro K hK
    rw [if_neg (Bool.eq_false_iff.1 (by rfl))]
    first | with_reducible refine hK _ _ ?_ | refine hK _ _ ?_
    clear hK K
    (try simp only [Act.put, List.setIfInBounds_toArray, List.set_cons_zero, List.set_cons_succ])
    with_reducible refine wpList_step ?_
    intro K hK
    rw [if_neg (Bool.eq_false_iff.1 (by rfl))]
    first | with_reducible refine hK _ _ ?_ | refine hK _ _ ?_
    clear hK K
    (try simp only [Act.put, List.setIfInBounds_toArray, List.set_cons_zero, List.set_cons_succ])
    with_reducible refine wpList_step ?_
    intro K hK
    rw [if_neg (Bool.eq_false_iff.1 (by rfl))]
    first | with_reducible refine hK _ _ ?_ | refine hK _ _ ?_
    clear hK K
    (try simp only [Act.put, List.setIfInBounds_toArray, List.set_cons_zero, List.set_cons_succ])
    with_reducible refine wpList_plain rfl ?_
    intro K hK
    go_simp
    first | with_reducible refine hK _ _ ?_ | refine hK _ _ ?_
    clear hK K
    (try simp only [Act.put, List.setIfInBounds_toArray, List.set_cons_zero, List.set_cons_succ])
    with_reducible refine wpList_plain rfl ?_
    intro K hK
    go_simp
    first | with_reducible refine hK _ _ ?_ | refine hK _ _ ?_
    clear hK K
    (try simp only [Act.put, List.setIfInBounds_toArray, List.set_cons_zero, List.set_cons_succ])
    with_reducible refine wpList_step ?_
    intro K hK
    rw [if_neg (Bool.eq_false_iff.1 (by rfl))]
    first | with_reducible refine hK _ _ ?_ | refine hK _ _ ?_
    clear hK K
    (try simp only [Act.put, List.setIfInBounds_toArray, List.set_cons_zero, List.set_cons_succ])
    with_reducible refine wpList_step ?_
    intro K hK
    rw [if_neg (Bool.eq_false_iff.1 (by rfl))]
    first | with_reducible refine hK _ _ ?_ | refine hK _ _ ?_
    clear hK K
    (try simp only [Act.put, List.setIfInBounds_toArray, List.set_cons_zero, List.set_cons_succ])
    with_reducible refine wpList_step ?_
    intro K hK
    rw [if_neg (Bool.eq_false_iff.1 (by rfl))]
    first | with_reducible refine hK _ _ ?_ | refine hK _ _ ?_
    clear hK K
    (try simp only [Act.put, List.setIfInBounds_toArray, List.set_cons_zero, List.set_cons_succ])
    with_reducible refine wpList_step ?_
    intro K hK
    rw [if_neg (Bool.eq_false_iff.1 (by rfl))]
    first | with_reducible refine hK _ _ ?_ | refine hK _ _ ?_
    clear hK K
    (try simp only [Act.put, List.setIfInBounds_toArray, List.set_cons_zero, List.set_cons_succ])
    with_reducible refine wpList_step ?_
    intro K hK
    rw [if_neg (Bool.eq_false_iff.1 (by rfl))]
    first | with_reducible refine hK _ _ ?_ | refine hK _ _ ?_
    clear hK K
    (try simp only [Act.put, List.setIfInBounds_toArray, List.set_cons_zero, List.set_cons_succ])
    with_reducible refine wpList_plain rfl ?_
    intro K hK
    go_simp
    first | with_reducible refine hK _ _ ?_ | refine hK _ _ ?_
    clear hK K
    (try simp only [Act.put, List.setIfInBounds_toArray, List.set_cons_zero, List.set_cons_succ])
    with_reducible refine wpList_plain rfl ?_
    intro K hK
    go_simp
    first | with_reducible refine hK _ _ ?_ | refine hK _ _ ?_
    clear hK K
    (try simp only [Act.put, List.setIfInBounds_toArray, List.set_cons_zero, List.set_cons_succ])
    with_reducible refine wpList_step ?_
    intro K hK
    rw [if_neg (Bool.eq_false_iff.1 (by rfl))]
    first | with_reducible refine hK _ _ ?_ | refine hK _ _ ?_
    clear hK K
    (try simp only [Act.put, List.setIfInBounds_toArray, List.set_cons_zero, List.set_cons_succ])
    with_reducible refine wpList_step ?_
    intro K hK
    rw [if_neg (Bool.eq_false_iff.1 (by rfl))]
    first | with_reducible refine hK _ _ ?_ | refine hK _ _ ?_
    clear hK K
    (try simp only [Act.put, List.setIfInBounds_toArray, List.set_cons_zero, List.set_cons_succ])
    with_reducible refine wpList_step ?_
    intro K hK
    rw [if_neg (Bool.eq_false_iff.1 (by rfl))]
    first | with_reducible refine hK _ _ ?_ | refine hK _ _ ?_
    clear hK K
    (try simp only [Act.put, List.setIfInBounds_toArray, List.set_cons_zero, List.set_cons_succ])
    with_reducible refine wpList_plain rfl ?_
    intro K hK
    go_simp
    first | with_reducible refine hK _ _ ?_ | refine hK _ _ ?_
    clear hK K
    (try simp only [Act.put, List.setIfInBounds_toArray, List.set_cons_zero, List.set_cons_succ])
    with_reducible refine wpList_plain rfl ?_
    intro K hK
    go_simp
    first | with_reducible refine hK _ _ ?_ | refine hK _ _ ?_
    clear hK K
    (try simp only [Act.put, List.setIfInBounds_toArray, List.set_cons_zero, List.set_cons_succ])
    with_reducible refine wpList_step ?_
    intro K hK
    rw [if_neg (Bool.eq_false_iff.1 (by rfl))]
    first | with_reducible refine hK _ _ ?_ | refine hK _ _ ?_
    clear hK K
    (try simp only [Act.put, List.setIfInBounds_toArray, List.set_cons_zero, List.set_cons_succ])
    with_reducible refine wpList_step ?_
    intro K hK
    rw [if_neg (Bool.eq_false_iff.1 (by rfl))]
    first | with_reducible refine hK _ _ ?_ | refine hK _ _ ?_
    clear hK K
    (try simp only [Act.put, List.setIfInBounds_toArray, List.set_cons_zero, List.set_cons_succ])
    with_reducible refine wpList_step ?_
    intro K hK
    rw [if_neg (Bool.eq_false_iff.1 (by rfl))]
    first | with_reducible refine hK _ _ ?_ | refine hK _ _ ?_
    clear hK K
    (try simp only [Act.put, List.setIfInBounds_toArray, List.set_cons_zero, List.set_cons_succ])
    with_reducible refine wpList_plain rfl ?_
    intro K hK
    go_simp
    first | with_reducible refine hK _ _ ?_ | refine hK _ _ ?_
    clear hK K
    (try simp only [Act.put, List.setIfInBounds_toArray, List.set_cons_zero, List.set_cons_succ])
    go_wp2_with fail
    exact HFail.out _ (by rw [HB.out, H1.out]; rfl) B1.out
  case true =>
    by_cases hnz : next = 0
    case pos =>
      have n1 : ((next : Int) != 0) = false := by simp [hnz]
      have n2 : (next != 0) = false := by simp [hnz]
      have HOR : Hid ((decide (next = 0) || numB next) = true) := by show _ = _; rw [decide_eq_true hnz]; rfl
      have Hnz := Lib.hid hnz
      clear hnz
      with_reducible refine wpList_step ?_
      intro K hK
      rw [if_pos (by rfl)]
      go_simp
      first | with_reducible refine hK _ _ ?_ | refine hK _ _ ?_
      clear hK K
      (try simp only [Act.put, List.setIfInBounds_toArray, List.set_cons_zero, List.set_cons_succ])
      with_reducible refine wpList_step ?_
      intro K hK
      rw [if_pos (by rfl)]
      go_simp
      first | with_reducible refine hK _ _ ?_ | refine hK _ _ ?_
      clear hK K
      (try simp only [Act.put, List.setIfInBounds_toArray, List.set_cons_zero, List.set_cons_succ])
      with_reducible refine wpList_step ?_
      intro K hK
      rw [if_pos (by rfl)]
      go_simp
      first | with_reducible refine hK _ _ ?_ | refine hK _ _ ?_
      clear hK K
      (try simp only [Act.put, List.setIfInBounds_toArray, List.set_cons_zero, List.set_cons_succ])
      with_reducible refine wpList_step ?_
      intro K hK
      rw [if_neg (Bool.eq_false_iff.1 (by rfl))]
      first | with_reducible refine hK _ _ ?_ | refine hK _ _ ?_
      clear hK K
      (try simp only [Act.put, List.setIfInBounds_toArray, List.set_cons_zero, List.set_cons_succ])
      with_reducible refine wpList_step ?_
      intro K hK
      rw [if_neg (Bool.eq_false_iff.1 (by rfl))]
      first | with_reducible refine hK _ _ ?_ | refine hK _ _ ?_
      clear hK K
      (try simp only [Act.put, List.setIfInBounds_toArray, List.set_cons_zero, List.set_cons_succ])
      with_reducible refine wpList_step ?_
      intro K hK
      rw [if_neg (Bool.eq_false_iff.1 (by rfl))]
      first | with_reducible refine hK _ _ ?_ | refine hK _ _ ?_
      clear hK K
      (try simp only [Act.put, List.setIfInBounds_toArray, List.set_cons_zero, List.set_cons_succ])
      with_reducible refine wpList_step ?_
      intro K hK
      rw [if_pos (by rfl)]
      go_simp
      first | with_reducible refine hK _ _ ?_ | refine hK _ _ ?_
      clear hK K
      (try simp only [Act.put, List.setIfInBounds_toArray, List.set_cons_zero, List.set_cons_succ])
      with_reducible refine wpList_plain rfl ?_
      intro K hK
      go_simp
      first | with_reducible refine hK _ _ ?_ | refine hK _ _ ?_
      clear hK K
      (try simp only [Act.put, List.setIfInBounds_toArray, List.set_cons_zero, List.set_cons_succ])
      with_reducible refine wpList_plain rfl ?_
      intro K hK
      go_simp
      first | with_reducible refine hK _ _ ?_ | refine hK _ _ ?_
      clear hK K
      (try simp only [Act.put, List.setIfInBounds_toArray, List.set_cons_zero, List.set_cons_succ])
      have k0 := heap_cell E1.out (o := 0)
      have k1 := heap_cell E1.out (o := 1)
      with_reducible refine wpList_step ?_
      intro K hK
      rw [if_pos (by rfl)]
      go_simp
      first | with_reducible refine hK _ _ ?_ | refine hK _ _ ?_
      clear hK K
      (try simp only [Act.put, List.setIfInBounds_toArray, List.set_cons_zero, List.set_cons_succ])
      with_reducible refine wpList_step ?_
      intro K hK
      rw [if_pos (by rfl)]
      go_simp
      first | with_reducible refine hK _ _ ?_ | refine hK _ _ ?_
      clear hK K
      (try simp only [Act.put, List.setIfInBounds_toArray, List.set_cons_zero, List.set_cons_succ])
      with_reducible refine wpList_step ?_
      intro K hK
      rw [if_pos (by rfl)]
      go_simp
      first | with_reducible refine hK _ _ ?_ | refine hK _ _ ?_
      clear hK K
      (try simp only [Act.put, List.setIfInBounds_toArray, List.set_cons_zero, List.set_cons_succ])
      with_reducible refine wpList_step ?_
      intro K hK
      rw [if_pos (by rfl)]
      go_simp
      refine (Entries_any a b w1).mono ?_; rintro e w3 ⟨rfl, b3⟩; rw [HE.out]
      first | with_reducible refine hK _ _ ?_ | refine hK _ _ ?_
      clear hK K
      (try simp only [Act.put, List.setIfInBounds_toArray, List.set_cons_zero, List.set_cons_succ])
      have B3 := Lib.hid (B1.out.trans (b3.mono (by have := B1.out.size; have := HN.out; omega)))
      have V3 := Lib.hid (hv.out.below (by rw [HN.out]; exact B3.out))
      clear b3 k0 k1 E1 B1
      by_cases hln : (xs.length : Int) ≤ E
      case neg =>
        have d1 : decide (E < (xs.length : Int)) = true := decide_eq_true (by omega)
        have HLn : Hid (decide ((xs.length : Int) ≤ entI a b) = false) := by show _ = _; rw [HE.out]; exact decide_eq_false hln
        with_reducible refine wpList_step ?_
        intro K hK
        rw [if_pos (by rfl)]
        go_simp
        first | with_reducible refine hK _ _ ?_ | refine hK _ _ ?_
        clear hK K
        (try simp only [Act.put, List.setIfInBounds_toArray, List.set_cons_zero, List.set_cons_succ])
        with_reducible refine wpList_plain rfl ?_
        intro K hK
        go_simp
        first | with_reducible refine hK _ _ ?_ | refine hK _ _ ?_
        clear hK K
        (try simp only [Act.put, List.setIfInBounds_toArray, List.set_cons_zero, List.set_cons_succ])
        with_reducible refine wpList_plain rfl ?_
        intro K hK
        go_simp
        first | with_reducible refine hK _ _ ?_ | refine hK _ _ ?_
        clear hK K
        (try simp only [Act.put, List.setIfInBounds_toArray, List.set_cons_zero, List.set_cons_succ])
        with_reducible refine wpList_step ?_
        intro K hK
        rw [if_neg (Bool.eq_false_iff.1 (by rfl))]
        first | with_reducible refine hK _ _ ?_ | refine hK _ _ ?_
        clear hK K
        (try simp only [Act.put, List.setIfInBounds_toArray, List.set_cons_zero, List.set_cons_succ])
        with_reducible refine wpList_step ?_
        intro K hK
        rw [if_neg (Bool.eq_false_iff.1 (by rfl))]
        first | with_reducible refine hK _ _ ?_ | refine hK _ _ ?_
        clear hK K
        (try simp only [Act.put, List.setIfInBounds_toArray, List.set_cons_zero, List.set_cons_succ])
        with_reducible refine wpList_step ?_
        intro K hK
        rw [if_neg (Bool.eq_false_iff.1 (by rfl))]
        first | with_reducible refine hK _ _ ?_ | refine hK _ _ ?_
        clear hK K
        (try simp only [Act.put, List.setIfInBounds_toArray, List.set_cons_zero, List.set_cons_succ])
        with_reducible refine wpList_plain rfl ?_
        intro K hK
        go_simp
        first | with_reducible refine hK _ _ ?_ | refine hK _ _ ?_
        clear hK K
        (try simp only [Act.put, List.setIfInBounds_toArray, List.set_cons_zero, List.set_cons_succ])
        with_reducible refine wpList_plain rfl ?_
        intro K hK
        go_simp
        first | with_reducible refine hK _ _ ?_ | refine hK _ _ ?_
        clear hK K
        (try simp only [Act.put, List.setIfInBounds_toArray, List.set_cons_zero, List.set_cons_succ])
        with_reducible refine wpList_step ?_
        intro K hK
        rw [if_neg (Bool.eq_false_iff.1 (by rfl))]
        first | with_reducible refine hK _ _ ?_ | refine hK _ _ ?_
        clear hK K
        (try simp only [Act.put, List.setIfInBounds_toArray, List.set_cons_zero, List.set_cons_succ])
        with_reducible refine wpList_step ?_
        intro K hK
        rw [if_neg (Bool.eq_false_iff.1 (by rfl))]
        first | with_reducible refine hK _ _ ?_ | refine hK _ _ ?_
        clear hK K
        (try simp only [Act.put, List.setIfInBounds_toArray, List.set_cons_zero, List.set_cons_succ])
        with_reducible refine wpList_step ?_
        intro K hK
        rw [if_neg (Bool.eq_false_iff.1 (by rfl))]
        first | with_reducible refine hK _ _ ?_ | refine hK _ _ ?_
        clear hK K
        (try simp only [Act.put, List.setIfInBounds_toArray, List.set_cons_zero, List.set_cons_succ])
        with_reducible refine wpList_plain rfl ?_
        intro K hK
        go_simp
        first | with_reducible refine hK _ _ ?_ | refine hK _ _ ?_
        clear hK K
        (try simp only [Act.put, List.setIfInBounds_toArray, List.set_cons_zero, List.set_cons_succ])
        go_wp2_with fail
        exact HFail.out _ (by rw [HB.out, H1.out, HOR.out, HLn.out]; rfl) B3.out
      case pos =>
        have d1 : decide (E < (xs.length : Int)) = false := decide_eq_false (by omega)
        have HLn : Hid (decide ((xs.length : Int) ≤ entI a b) = true) := by show _ = _; rw [HE.out]; exact decide_eq_true hln
        with_reducible refine wpList_step ?_
        intro K hK
        rw [if_pos (by rfl)]
        go_simp
        first | with_reducible refine hK _ _ ?_ | refine hK _ _ ?_
        clear hK K
        (try simp only [Act.put, List.setIfInBounds_toArray, List.set_cons_zero, List.set_cons_succ])
        with_reducible refine wpList_plain rfl ?_
        intro K hK
        go_simp
        first | with_reducible refine hK _ _ ?_ | refine hK _ _ ?_
        clear hK K
        (try simp only [Act.put, List.setIfInBounds_toArray, List.set_cons_zero, List.set_cons_succ])
        with_reducible refine wpList_plain rfl ?_
        intro K hK
        go_simp
        first | with_reducible refine hK _ _ ?_ | refine hK _ _ ?_
        clear hK K
        (try simp only [Act.put, List.setIfInBounds_toArray, List.set_cons_zero, List.set_cons_succ])
        with_reducible refine wpList_step ?_
        intro K hK
        rw [if_pos (by rfl)]
        go_simp
        first | with_reducible refine hK _ _ ?_ | refine hK _ _ ?_
        clear hK K
        (try simp only [Act.put, List.setIfInBounds_toArray, List.set_cons_zero, List.set_cons_succ])
        with_reducible refine wpList_step ?_
        intro K hK
        rw [if_pos (by rfl)]
        go_simp
        first | with_reducible refine hK _ _ ?_ | refine hK _ _ ?_
        clear hK K
        (try simp only [Act.put, List.setIfInBounds_toArray, List.set_cons_zero, List.set_cons_succ])
        with_reducible refine wpList_step ?_
        intro K hK
        rw [if_pos (by rfl)]
        go_simp
        refine (ContainsFunc_odd _ xs w3 V3).mono ?_; rintro e w4 ⟨rfl, rfl⟩; rw [H4.out]
        first | with_reducible refine hK _ _ ?_ | refine hK _ _ ?_
        clear hK K
        (try simp only [Act.put, List.setIfInBounds_toArray, List.set_cons_zero, List.set_cons_succ])
        cases q4
        case true =>
          with_reducible refine wpList_plain rfl ?_
          intro K hK
          go_simp
          first | with_reducible refine hK _ _ ?_ | refine hK _ _ ?_
          clear hK K
          (try simp only [Act.put, List.setIfInBounds_toArray, List.set_cons_zero, List.set_cons_succ])
          with_reducible refine wpList_plain rfl ?_
          intro K hK
          go_simp
          first | with_reducible refine hK _ _ ?_ | refine hK _ _ ?_
          clear hK K
          (try simp only [Act.put, List.setIfInBounds_toArray, List.set_cons_zero, List.set_cons_succ])
          with_reducible refine wpList_step ?_
          intro K hK
          rw [if_neg (Bool.eq_false_iff.1 (by rfl))]
          first | with_reducible refine hK _ _ ?_ | refine hK _ _ ?_
          clear hK K
          (try simp only [Act.put, List.setIfInBounds_toArray, List.set_cons_zero, List.set_cons_succ])
          with_reducible refine wpList_step ?_
          intro K hK
          rw [if_neg (Bool.eq_false_iff.1 (by rfl))]
          first | with_reducible refine hK _ _ ?_ | refine hK _ _ ?_
          clear hK K
          (try simp only [Act.put, List.setIfInBounds_toArray, List.set_cons_zero, List.set_cons_succ])
          with_reducible refine wpList_step ?_
          intro K hK
          rw [if_neg (Bool.eq_false_iff.1 (by rfl))]
          first | with_reducible refine hK _ _ ?_ | refine hK _ _ ?_
          clear hK K
          (try simp only [Act.put, List.setIfInBounds_toArray, List.set_cons_zero, List.set_cons_succ])
          with_reducible refine wpList_plain rfl ?_
          intro K hK
          go_simp
          first | with_reducible refine hK _ _ ?_ | refine hK _ _ ?_
          clear hK K
          (try simp only [Act.put, List.setIfInBounds_toArray, List.set_cons_zero, List.set_cons_succ])
          go_wp2_with fail
          exact HFail.out _ (by rw [HB.out, H1.out, HOR.out, HLn.out, H4.out]; rfl) B3.out
        case false =>
          with_reducible refine wpList_plain rfl ?_
          intro K hK
          go_simp
          first | with_reducible refine hK _ _ ?_ | refine hK _ _ ?_
          clear hK K
          (try simp only [Act.put, List.setIfInBounds_toArray, List.set_cons_zero, List.set_cons_succ])
          with_reducible refine wpList_plain rfl ?_
          intro K hK
          go_simp
          first | with_reducible refine hK _ _ ?_ | refine hK _ _ ?_
          clear hK K
          (try simp only [Act.put, List.setIfInBounds_toArray, List.set_cons_zero, List.set_cons_succ])
          with_reducible refine wpList_step ?_
          intro K hK
          rw [if_pos (by rfl)]
          go_simp
          first | with_reducible refine hK _ _ ?_ | refine hK _ _ ?_
          clear hK K
          (try simp only [Act.put, List.setIfInBounds_toArray, List.set_cons_zero, List.set_cons_succ])
          with_reducible refine wpList_step ?_
          intro K hK
          rw [if_pos (by rfl)]
          go_simp
          refine (rising_any _ xs w3 V3).mono ?_; rintro e w4 ⟨rfl, b4⟩; rw [H5.out]
          first | with_reducible refine hK _ _ ?_ | refine hK _ _ ?_
          clear hK K
          (try simp only [Act.put, List.setIfInBounds_toArray, List.set_cons_zero, List.set_cons_succ])
          have B4 := Lib.hid (B3.out.trans (b4.mono (by have := B3.out.size; have := HN.out; omega)))
          have V4 := Lib.hid (V3.out.below b4)
          clear b4 B3 V3
          with_reducible refine wpList_step ?_
          intro K hK
          rw [if_pos (by rfl)]
          go_simp
          first | with_reducible refine hK _ _ ?_ | refine hK _ _ ?_
          clear hK K
          (try simp only [Act.put, List.setIfInBounds_toArray, List.set_cons_zero, List.set_cons_succ])
          with_reducible refine wpList_plain rfl ?_
          intro K hK
          go_simp
          first | with_reducible refine hK _ _ ?_ | refine hK _ _ ?_
          clear hK K
          (try simp only [Act.put, List.setIfInBounds_toArray, List.set_cons_zero, List.set_cons_succ])
          cases q5
          case false =>
            go_wp2_with fail
            exact HFail.out _ (by rw [HB.out, H1.out, HOR.out, HLn.out, H4.out, H5.out]; rfl) B4.out
          case true =>
            go_upto_region 4 with fail
            with_reducible refine wp_region_list ?_
            with_reducible refine wpList_plain rfl ?_
            intro K hK
            go_simp
            refine (New_any w4).mono ?_; rintro e w5 ⟨rfl, hw5⟩
            first | with_reducible refine hK _ _ ?_ | refine hK _ _ ?_
            clear hK K
            (try simp only [Act.put, List.setIfInBounds_toArray, List.set_cons_zero, List.set_cons_succ])
            obtain ⟨p, hp⟩ : ∃ p, w4.heap.size = p := ⟨_, rfl⟩
            have W5 : Hid (Wr w5 p p []) := by rw [← hp, ← hw5]; exact Wr.new w4
            have b5 : Below p w4 w5 := by rw [← hp, ← hw5]; exact (Below.refl _ _).alloc (Nat.le_refl _) _
            have B5 := Lib.hid b5
            have hz4 : N ≤ p := by have := B4.out.size; have := HN.out; omega
            have hz5 : p ≤ w5.heap.size := by have := b5.size; omega
            rw [hp]
            have Hp := Lib.hid hp
            clear hp hw5 b5
            with_reducible refine wpList_plain rfl ?_
            intro K hK
            go_simp
            first | with_reducible refine hK _ _ ?_ | refine hK _ _ ?_
            clear hK K
            (try simp only [Act.put, List.setIfInBounds_toArray, List.set_cons_zero, List.set_cons_succ])
            go_upto_region 5 with fail
            with_reducible refine wp_region_list ?_
            with_reducible refine wpList_plain rfl ?_
            intro K hK
            go_simp
            first | with_reducible refine hK _ _ ?_ | refine hK _ _ ?_
            clear hK K
            (try simp only [Act.put, List.setIfInBounds_toArray, List.set_cons_zero, List.set_cons_succ])
            with_reducible refine wpList_plain rfl ?_
            intro K hK
            go_simp
            first | with_reducible refine hK _ _ ?_ | refine hK _ _ ?_
            clear hK K
            (try simp only [Act.put, List.setIfInBounds_toArray, List.set_cons_zero, List.set_cons_succ])
            with_reducible refine wpList_plain rfl ?_
            intro K hK
            go_simp
            refine (Put_uint32 (next : Int) p p [] w5 (by omega) W5.out (by simp)).mono ?_; rintro e w6 ⟨rfl, hw6, b6⟩; rw [Int.toNat_natCast, List.nil_append] at hw6
            first | with_reducible refine hK _ _ ?_ | refine hK _ _ ?_
            clear hK K
            (try simp only [Act.put, List.setIfInBounds_toArray, List.set_cons_zero, List.set_cons_succ])
            have W6 := Lib.hid hw6
            have B6 := Lib.hid (B5.out.trans b6)
            have hz6 : p ≤ w6.heap.size := by have := b6.size; omega
            clear hw6 b6 W5 B5
            have wl : IntKind.u32.wrap (xs.length : Int) = (xs.length : Int) := IntWalk.u32_in _ (by omega)
            go_upto_region 6 with fail
            with_reducible refine wp_region_list ?_
            with_reducible refine wpList_plain rfl ?_
            intro K hK
            go_simp
            first | with_reducible refine hK _ _ ?_ | refine hK _ _ ?_
            clear hK K
            (try simp only [Act.put, List.setIfInBounds_toArray, List.set_cons_zero, List.set_cons_succ])
            with_reducible refine wpList_plain rfl ?_
            intro K hK
            go_simp
            first | with_reducible refine hK _ _ ?_ | refine hK _ _ ?_
            clear hK K
            (try simp only [Act.put, List.setIfInBounds_toArray, List.set_cons_zero, List.set_cons_succ])
            with_reducible refine wpList_plain rfl ?_
            intro K hK
            go_simp
            first | with_reducible refine hK _ _ ?_ | refine hK _ _ ?_
            clear hK K
            (try simp only [Act.put, List.setIfInBounds_toArray, List.set_cons_zero, List.set_cons_succ])
            with_reducible refine wpList_plain rfl ?_
            intro K hK
            go_simp
            first | with_reducible refine hK _ _ ?_ | refine hK _ _ ?_
            clear hK K
            (try simp only [Act.put, List.setIfInBounds_toArray, List.set_cons_zero, List.set_cons_succ])
            with_reducible refine wpList_plain rfl ?_
            intro K hK
            go_simp
            refine (Put_uint32 (xs.length : Int) p p (be 4 next) w6 (by omega) W6.out (by simp [be_length])).mono ?_; rintro e w7 ⟨rfl, hw7, b7⟩; rw [Int.toNat_natCast] at hw7
            first | with_reducible refine hK _ _ ?_ | refine hK _ _ ?_
            clear hK K
            (try simp only [Act.put, List.setIfInBounds_toArray, List.set_cons_zero, List.set_cons_succ])
            have W7 := Lib.hid hw7
            have B7 := Lib.hid (B6.out.trans b7)
            clear hw7 b7 W6 B6 wl
            go_upto_region 8 with fail
            go_loopw [52] (fun i wr => ∃ (k : Nat), k ≤ xs.length ∧ Hid (Wr wr p p (be 4 next ++ be 4 xs.length ++ (xs.take k).flatMap (be 4))) ∧ Hid (Below p w4 wr) ∧ i = .int .i64 (k : Int)) (fun i _ => xs.length - (intOf i).toNat)
            case atStart => exact ⟨0, Nat.zero_le _, by simpa using W7, B7, rfl⟩
            case round =>
              obtain ⟨k, hk, Wk, Bk, rfl⟩ := hrel
              by_cases hlt : k < xs.length
              case pos =>
                have dk : decide (k < xs.length) = true := decide_eq_true hlt
                have dk2 : decide ((k : Int) < (xs.length : Int)) = true := decide_eq_true (by omega)
                have ik : (k : Int) < (xs.length : Int) := by omega
                have vk : URow wr (.slice ad xs.length c) xs := V4.out.mod (S := fun k => p ≤ k) ⟨Bk.out.os, Bk.out.tape, Bk.out.output, Bk.out.size, fun k hk hn => Bk.out.block k (by omega)⟩ (fun hp k hk e => by have := V4.out.lt hp k hk; have := Hp.out; omega)
                have hx4 := vk.1 _ (List.getElem_mem hlt)
                obtain ⟨_, _, e9, _, hc⟩ := vk.form
                obtain ⟨vb, vo, e8, hcs⟩ := hc (by omega)
                have e7 := (Value.slice.inj e9).1
                rw [e8] at e7
                subst e7
                have hcc := hcs k hlt
                have hnx : (xs.take (k + 1)).flatMap (be 4) = (xs.take k).flatMap (be 4) ++ be 4 xs[k] := by rw [List.take_add_one, List.getElem?_eq_getElem hlt, List.flatMap_append]; simp
                have hfl := flat4 (xs.take k)
                rw [List.length_take] at hfl
                obtain ⟨x, hx⟩ : ∃ x, xs[k] = x := ⟨_, rfl⟩
                rw [hx] at hcc hnx hx4
                have HX := Lib.hid hnx
                have HF := Lib.hid hfl
                unfold uN at hcc
                have Hcc := Lib.hid hcc
                clear vk e8 e9 hcs hc hx hnx hfl hcc
                have hcc := Hcc.out
                go_upto_region 10 with fail
                clear dk dk2 hcc
                with_reducible refine wp_region_list ?_
                with_reducible refine wpList_plain rfl ?_
                intro K hK
                go_simp
                first | with_reducible refine hK _ _ ?_ | refine hK _ _ ?_
                clear hK K
                (try simp only [Act.put, List.setIfInBounds_toArray, List.set_cons_zero, List.set_cons_succ])
                with_reducible refine wpList_plain rfl ?_
                intro K hK
                go_simp
                first | with_reducible refine hK _ _ ?_ | refine hK _ _ ?_
                clear hK K
                (try simp only [Act.put, List.setIfInBounds_toArray, List.set_cons_zero, List.set_cons_succ])
                with_reducible refine wpList_plain rfl ?_
                intro K hK
                go_simp
                refine (Put_uint32 (x : Int) p p _ wr (by omega) Wk.out (by rw [List.length_append, List.length_append, be_length, be_length, HF.out]; omega)).mono ?_; rintro e w8 ⟨rfl, hw8, b8⟩; rw [Int.toNat_natCast] at hw8
                first | with_reducible refine hK _ _ ?_ | refine hK _ _ ?_
                clear hK K
                (try simp only [Act.put, List.setIfInBounds_toArray, List.set_cons_zero, List.set_cons_succ])
                have W8 : Hid (Wr w8 p p (be 4 next ++ be 4 xs.length ++ (xs.take (k + 1)).flatMap (be 4))) := by show Wr _ _ _ _; rw [HX.out, ← List.append_assoc]; exact hw8
                have B8 := Lib.hid (Bk.out.trans b8)
                clear hw8 b8 Wk Bk
                go_wp2_with fail
                exact ⟨⟨k + 1, by omega, W8, B8, by go_num⟩, by simp [intOf]; omega⟩
              case neg =>
                have dk : decide (k < xs.length) = false := decide_eq_false hlt
                have dk2 : decide ((k : Int) < (xs.length : Int)) = false := decide_eq_false (by omega)
                have hfull : xs.take k = xs := List.take_of_length_le (by omega)
                have hW := Wk.out
                rw [hfull, List.append_assoc] at hW
                have HW := Lib.hid hW
                have hf := HOk.out wr (by rw [HB.out, H1.out, HOR.out, HLn.out, H4.out, H5.out]; rfl) (B4.out.trans (Bk.out.mono hz4))
                unfold bodyL at hf
                have Hf := Lib.hid hf
                clear hfull hW hf
                go_wp2_with (go_at_call 62; refine (WString_any p p _ _ HW.out).mono ?_; rintro e w9 ⟨rfl, rfl⟩)
                exact Hf.out
    case neg =>
      have n1 : ((next : Int) != 0) = true := by simp; omega
      have n2 : (next != 0) = true := by simp [hnz]
      have HOR : Hid ((decide (next = 0) || numB next) = q2) := by show _ = _; rw [decide_eq_false hnz, H2.out]; rfl
      with_reducible refine wpList_step ?_
      intro K hK
      rw [if_pos (by rfl)]
      go_simp
      first | with_reducible refine hK _ _ ?_ | refine hK _ _ ?_
      clear hK K
      (try simp only [Act.put, List.setIfInBounds_toArray, List.set_cons_zero, List.set_cons_succ])
      with_reducible refine wpList_step ?_
      intro K hK
      rw [if_pos (by rfl)]
      go_simp
      first | with_reducible refine hK _ _ ?_ | refine hK _ _ ?_
      clear hK K
      (try simp only [Act.put, List.setIfInBounds_toArray, List.set_cons_zero, List.set_cons_succ])
      with_reducible refine wpList_step ?_
      intro K hK
      rw [if_pos (by rfl)]
      go_simp
      first | with_reducible refine hK _ _ ?_ | refine hK _ _ ?_
      clear hK K
      (try simp only [Act.put, List.setIfInBounds_toArray, List.set_cons_zero, List.set_cons_succ])
      with_reducible refine wpList_step ?_
      intro K hK
      rw [if_pos (by rfl)]
      go_simp
      first | with_reducible refine hK _ _ ?_ | refine hK _ _ ?_
      clear hK K
      (try simp only [Act.put, List.setIfInBounds_toArray, List.set_cons_zero, List.set_cons_succ])
      with_reducible refine wpList_step ?_
      intro K hK
      rw [if_pos (by rfl)]
      go_simp
      refine (number_any next w1).mono ?_; rintro e w2 ⟨rfl, rfl⟩; rw [H2.out]
      first | with_reducible refine hK _ _ ?_ | refine hK _ _ ?_
      clear hK K
      (try simp only [Act.put, List.setIfInBounds_toArray, List.set_cons_zero, List.set_cons_succ])
      cases q2
      case false =>
        with_reducible refine wpList_step ?_
        intro K hK
        rw [if_pos (by rfl)]
        go_simp
        first | with_reducible refine hK _ _ ?_ | refine hK _ _ ?_
        clear hK K
        (try simp only [Act.put, List.setIfInBounds_toArray, List.set_cons_zero, List.set_cons_succ])
        with_reducible refine wpList_step ?_
        intro K hK
        rw [if_pos (by rfl)]
        go_simp
        first | with_reducible refine hK _ _ ?_ | refine hK _ _ ?_
        clear hK K
        (try simp only [Act.put, List.setIfInBounds_toArray, List.set_cons_zero, List.set_cons_succ])
        with_reducible refine wpList_plain rfl ?_
        intro K hK
        go_simp
        first | with_reducible refine hK _ _ ?_ | refine hK _ _ ?_
        clear hK K
        (try simp only [Act.put, List.setIfInBounds_toArray, List.set_cons_zero, List.set_cons_succ])
        with_reducible refine wpList_plain rfl ?_
        intro K hK
        go_simp
        first | with_reducible refine hK _ _ ?_ | refine hK _ _ ?_
        clear hK K
        (try simp only [Act.put, List.setIfInBounds_toArray, List.set_cons_zero, List.set_cons_succ])
        with_reducible refine wpList_step ?_
        intro K hK
        rw [if_neg (Bool.eq_false_iff.1 (by rfl))]
        first | with_reducible refine hK _ _ ?_ | refine hK _ _ ?_
        clear hK K
        (try simp only [Act.put, List.setIfInBounds_toArray, List.set_cons_zero, List.set_cons_succ])
        with_reducible refine wpList_step ?_
        intro K hK
        rw [if_neg (Bool.eq_false_iff.1 (by rfl))]
        first | with_reducible refine hK _ _ ?_ | refine hK _ _ ?_
        clear hK K
        (try simp only [Act.put, List.setIfInBounds_toArray, List.set_cons_zero, List.set_cons_succ])
        with_reducible refine wpList_step ?_
        intro K hK
        rw [if_neg (Bool.eq_false_iff.1 (by rfl))]
        first | with_reducible refine hK _ _ ?_ | refine hK _ _ ?_
        clear hK K
        (try simp only [Act.put, List.setIfInBounds_toArray, List.set_cons_zero, List.set_cons_succ])
        with_reducible refine wpList_step ?_
        intro K hK
        rw [if_neg (Bool.eq_false_iff.1 (by rfl))]
        first | with_reducible refine hK _ _ ?_ | refine hK _ _ ?_
        clear hK K
        (try simp only [Act.put, List.setIfInBounds_toArray, List.set_cons_zero, List.set_cons_succ])
        with_reducible refine wpList_step ?_
        intro K hK
        rw [if_neg (Bool.eq_false_iff.1 (by rfl))]
        first | with_reducible refine hK _ _ ?_ | refine hK _ _ ?_
        clear hK K
        (try simp only [Act.put, List.setIfInBounds_toArray, List.set_cons_zero, List.set_cons_succ])
        with_reducible refine wpList_plain rfl ?_
        intro K hK
        go_simp
        first | with_reducible refine hK _ _ ?_ | refine hK _ _ ?_
        clear hK K
        (try simp only [Act.put, List.setIfInBounds_toArray, List.set_cons_zero, List.set_cons_succ])
        with_reducible refine wpList_plain rfl ?_
        intro K hK
        go_simp
        first | with_reducible refine hK _ _ ?_ | refine hK _ _ ?_
        clear hK K
        (try simp only [Act.put, List.setIfInBounds_toArray, List.set_cons_zero, List.set_cons_succ])
        with_reducible refine wpList_step ?_
        intro K hK
        rw [if_neg (Bool.eq_false_iff.1 (by rfl))]
        first | with_reducible refine hK _ _ ?_ | refine hK _ _ ?_
        clear hK K
        (try simp only [Act.put, List.setIfInBounds_toArray, List.set_cons_zero, List.set_cons_succ])
        with_reducible refine wpList_step ?_
        intro K hK
        rw [if_neg (Bool.eq_false_iff.1 (by rfl))]
        first | with_reducible refine hK _ _ ?_ | refine hK _ _ ?_
        clear hK K
        (try simp only [Act.put, List.setIfInBounds_toArray, List.set_cons_zero, List.set_cons_succ])
        with_reducible refine wpList_step ?_
        intro K hK
        rw [if_neg (Bool.eq_false_iff.1 (by rfl))]
        first | with_reducible refine hK _ _ ?_ | refine hK _ _ ?_
        clear hK K
        (try simp only [Act.put, List.setIfInBounds_toArray, List.set_cons_zero, List.set_cons_succ])
        with_reducible refine wpList_plain rfl ?_
        intro K hK
        go_simp
        first | with_reducible refine hK _ _ ?_ | refine hK _ _ ?_
        clear hK K
        (try simp only [Act.put, List.setIfInBounds_toArray, List.set_cons_zero, List.set_cons_succ])
        with_reducible refine wpList_plain rfl ?_
        intro K hK
        go_simp
        first | with_reducible refine hK _ _ ?_ | refine hK _ _ ?_
        clear hK K
        (try simp only [Act.put, List.setIfInBounds_toArray, List.set_cons_zero, List.set_cons_succ])
        with_reducible refine wpList_step ?_
        intro K hK
        rw [if_neg (Bool.eq_false_iff.1 (by rfl))]
        first | with_reducible refine hK _ _ ?_ | refine hK _ _ ?_
        clear hK K
        (try simp only [Act.put, List.setIfInBounds_toArray, List.set_cons_zero, List.set_cons_succ])
        with_reducible refine wpList_step ?_
        intro K hK
        rw [if_neg (Bool.eq_false_iff.1 (by rfl))]
        first | with_reducible refine hK _ _ ?_ | refine hK _ _ ?_
        clear hK K
        (try simp only [Act.put, List.setIfInBounds_toArray, List.set_cons_zero, List.set_cons_succ])
        with_reducible refine wpList_step ?_
        intro K hK
        rw [if_neg (Bool.eq_false_iff.1 (by rfl))]
        first | with_reducible refine hK _ _ ?_ | refine hK _ _ ?_
        clear hK K
        (try simp only [Act.put, List.setIfInBounds_toArray, List.set_cons_zero, List.set_cons_succ])
        with_reducible refine wpList_plain rfl ?_
        intro K hK
        go_simp
        first | with_reducible refine hK _ _ ?_ | refine hK _ _ ?_
        clear hK K
        (try simp only [Act.put, List.setIfInBounds_toArray, List.set_cons_zero, List.set_cons_succ])
        go_wp2_with fail
        exact HFail.out _ (by rw [HB.out, H1.out, HOR.out]; rfl) B1.out
      case true =>
        with_reducible refine wpList_step ?_
        intro K hK
        rw [if_pos (by rfl)]
        go_simp
        first | with_reducible refine hK _ _ ?_ | refine hK _ _ ?_
        clear hK K
        (try simp only [Act.put, List.setIfInBounds_toArray, List.set_cons_zero, List.set_cons_succ])
        with_reducible refine wpList_step ?_
        intro K hK
        rw [if_pos (by rfl)]
        go_simp
        first | with_reducible refine hK _ _ ?_ | refine hK _ _ ?_
        clear hK K
        (try simp only [Act.put, List.setIfInBounds_toArray, List.set_cons_zero, List.set_cons_succ])
        with_reducible refine wpList_plain rfl ?_
        intro K hK
        go_simp
        first | with_reducible refine hK _ _ ?_ | refine hK _ _ ?_
        clear hK K
        (try simp only [Act.put, List.setIfInBounds_toArray, List.set_cons_zero, List.set_cons_succ])
        with_reducible refine wpList_plain rfl ?_
        intro K hK
        go_simp
        first | with_reducible refine hK _ _ ?_ | refine hK _ _ ?_
        clear hK K
        (try simp only [Act.put, List.setIfInBounds_toArray, List.set_cons_zero, List.set_cons_succ])
        have k0 := heap_cell E1.out (o := 0)
        have k1 := heap_cell E1.out (o := 1)
        with_reducible refine wpList_step ?_
        intro K hK
        rw [if_pos (by rfl)]
        go_simp
        first | with_reducible refine hK _ _ ?_ | refine hK _ _ ?_
        clear hK K
        (try simp only [Act.put, List.setIfInBounds_toArray, List.set_cons_zero, List.set_cons_succ])
        with_reducible refine wpList_step ?_
        intro K hK
        rw [if_pos (by rfl)]
        go_simp
        first | with_reducible refine hK _ _ ?_ | refine hK _ _ ?_
        clear hK K
        (try simp only [Act.put, List.setIfInBounds_toArray, List.set_cons_zero, List.set_cons_succ])
        with_reducible refine wpList_step ?_
        intro K hK
        rw [if_pos (by rfl)]
        go_simp
        first | with_reducible refine hK _ _ ?_ | refine hK _ _ ?_
        clear hK K
        (try simp only [Act.put, List.setIfInBounds_toArray, List.set_cons_zero, List.set_cons_succ])
        with_reducible refine wpList_step ?_
        intro K hK
        rw [if_pos (by rfl)]
        go_simp
        refine (Entries_any a b w1).mono ?_; rintro e w3 ⟨rfl, b3⟩; rw [HE.out]
        first | with_reducible refine hK _ _ ?_ | refine hK _ _ ?_
        clear hK K
        (try simp only [Act.put, List.setIfInBounds_toArray, List.set_cons_zero, List.set_cons_succ])
        have B3 := Lib.hid (B1.out.trans (b3.mono (by have := B1.out.size; have := HN.out; omega)))
        have V3 := Lib.hid (hv.out.below (by rw [HN.out]; exact B3.out))
        clear b3 k0 k1 E1 B1
        by_cases hln : (xs.length : Int) ≤ E
        case neg =>
          have d1 : decide (E < (xs.length : Int)) = true := decide_eq_true (by omega)
          have HLn : Hid (decide ((xs.length : Int) ≤ entI a b) = false) := by show _ = _; rw [HE.out]; exact decide_eq_false hln
          with_reducible refine wpList_step ?_
          intro K hK
          rw [if_pos (by rfl)]
          go_simp
          first | with_reducible refine hK _ _ ?_ | refine hK _ _ ?_
          clear hK K
          (try simp only [Act.put, List.setIfInBounds_toArray, List.set_cons_zero, List.set_cons_succ])
          with_reducible refine wpList_plain rfl ?_
          intro K hK
          go_simp
          first | with_reducible refine hK _ _ ?_ | refine hK _ _ ?_
          clear hK K
          (try simp only [Act.put, List.setIfInBounds_toArray, List.set_cons_zero, List.set_cons_succ])
          with_reducible refine wpList_plain rfl ?_
          intro K hK
          go_simp
          first | with_reducible refine hK _ _ ?_ | refine hK _ _ ?_
          clear hK K
          (try simp only [Act.put, List.setIfInBounds_toArray, List.set_cons_zero, List.set_cons_succ])
          with_reducible refine wpList_step ?_
          intro K hK
          rw [if_neg (Bool.eq_false_iff.1 (by rfl))]
          first | with_reducible refine hK _ _ ?_ | refine hK _ _ ?_
          clear hK K
          (try simp only [Act.put, List.setIfInBounds_toArray, List.set_cons_zero, List.set_cons_succ])
          with_reducible refine wpList_step ?_
          intro K hK
          rw [if_neg (Bool.eq_false_iff.1 (by rfl))]
          first | with_reducible refine hK _ _ ?_ | refine hK _ _ ?_
          clear hK K
          (try simp only [Act.put, List.setIfInBounds_toArray, List.set_cons_zero, List.set_cons_succ])
          with_reducible refine wpList_step ?_
          intro K hK
          rw [if_neg (Bool.eq_false_iff.1 (by rfl))]
          first | with_reducible refine hK _ _ ?_ | refine hK _ _ ?_
          clear hK K
          (try simp only [Act.put, List.setIfInBounds_toArray, List.set_cons_zero, List.set_cons_succ])
          with_reducible refine wpList_plain rfl ?_
          intro K hK
          go_simp
          first | with_reducible refine hK _ _ ?_ | refine hK _ _ ?_
          clear hK K
          (try simp only [Act.put, List.setIfInBounds_toArray, List.set_cons_zero, List.set_cons_succ])
          with_reducible refine wpList_plain rfl ?_
          intro K hK
          go_simp
          first | with_reducible refine hK _ _ ?_ | refine hK _ _ ?_
          clear hK K
          (try simp only [Act.put, List.setIfInBounds_toArray, List.set_cons_zero, List.set_cons_succ])
          with_reducible refine wpList_step ?_
          intro K hK
          rw [if_neg (Bool.eq_false_iff.1 (by rfl))]
          first | with_reducible refine hK _ _ ?_ | refine hK _ _ ?_
          clear hK K
          (try simp only [Act.put, List.setIfInBounds_toArray, List.set_cons_zero, List.set_cons_succ])
          with_reducible refine wpList_step ?_
          intro K hK
          rw [if_neg (Bool.eq_false_iff.1 (by rfl))]
          first | with_reducible refine hK _ _ ?_ | refine hK _ _ ?_
          clear hK K
          (try simp only [Act.put, List.setIfInBounds_toArray, List.set_cons_zero, List.set_cons_succ])
          with_reducible refine wpList_step ?_
          intro K hK
          rw [if_neg (Bool.eq_false_iff.1 (by rfl))]
          first | with_reducible refine hK _ _ ?_ | refine hK _ _ ?_
          clear hK K
          (try simp only [Act.put, List.setIfInBounds_toArray, List.set_cons_zero, List.set_cons_succ])
          with_reducible refine wpList_plain rfl ?_
          intro K hK
          go_simp
          first | with_reducible refine hK _ _ ?_ | refine hK _ _ ?_
          clear hK K
          (try simp only [Act.put, List.setIfInBounds_toArray, List.set_cons_zero, List.set_cons_succ])
          go_wp2_with fail
          exact HFail.out _ (by rw [HB.out, H1.out, HOR.out, HLn.out]; rfl) B3.out
        case pos =>
          have d1 : decide (E < (xs.length : Int)) = false := decide_eq_false (by omega)
          have HLn : Hid (decide ((xs.length : Int) ≤ entI a b) = true) := by show _ = _; rw [HE.out]; exact decide_eq_true hln
          with_reducible refine wpList_step ?_
          intro K hK
          rw [if_pos (by rfl)]
          go_simp
          first | with_reducible refine hK _ _ ?_ | refine hK _ _ ?_
          clear hK K
          (try simp only [Act.put, List.setIfInBounds_toArray, List.set_cons_zero, List.set_cons_succ])
          with_reducible refine wpList_plain rfl ?_
          intro K hK
          go_simp
          first | with_reducible refine hK _ _ ?_ | refine hK _ _ ?_
          clear hK K
          (try simp only [Act.put, List.setIfInBounds_toArray, List.set_cons_zero, List.set_cons_succ])
          with_reducible refine wpList_plain rfl ?_
          intro K hK
          go_simp
          first | with_reducible refine hK _ _ ?_ | refine hK _ _ ?_
          clear hK K
          (try simp only [Act.put, List.setIfInBounds_toArray, List.set_cons_zero, List.set_cons_succ])
          with_reducible refine wpList_step ?_
          intro K hK
          rw [if_pos (by rfl)]
          go_simp
          first | with_reducible refine hK _ _ ?_ | refine hK _ _ ?_
          clear hK K
          (try simp only [Act.put, List.setIfInBounds_toArray, List.set_cons_zero, List.set_cons_succ])
          with_reducible refine wpList_step ?_
          intro K hK
          rw [if_pos (by rfl)]
          go_simp
          first | with_reducible refine hK _ _ ?_ | refine hK _ _ ?_
          clear hK K
          (try simp only [Act.put, List.setIfInBounds_toArray, List.set_cons_zero, List.set_cons_succ])
          with_reducible refine wpList_step ?_
          intro K hK
          rw [if_pos (by rfl)]
          go_simp
          refine (ContainsFunc_odd _ xs w3 V3).mono ?_; rintro e w4 ⟨rfl, rfl⟩; rw [H4.out]
          first | with_reducible refine hK _ _ ?_ | refine hK _ _ ?_
          clear hK K
          (try simp only [Act.put, List.setIfInBounds_toArray, List.set_cons_zero, List.set_cons_succ])
          cases q4
          case true =>
            with_reducible refine wpList_plain rfl ?_
            intro K hK
            go_simp
            first | with_reducible refine hK _ _ ?_ | refine hK _ _ ?_
            clear hK K
            (try simp only [Act.put, List.setIfInBounds_toArray, List.set_cons_zero, List.set_cons_succ])
            with_reducible refine wpList_plain rfl ?_
            intro K hK
            go_simp
            first | with_reducible refine hK _ _ ?_ | refine hK _ _ ?_
            clear hK K
            (try simp only [Act.put, List.setIfInBounds_toArray, List.set_cons_zero, List.set_cons_succ])
            with_reducible refine wpList_step ?_
            intro K hK
            rw [if_neg (Bool.eq_false_iff.1 (by rfl))]
            first | with_reducible refine hK _ _ ?_ | refine hK _ _ ?_
            clear hK K
            (try simp only [Act.put, List.setIfInBounds_toArray, List.set_cons_zero, List.set_cons_succ])
            with_reducible refine wpList_step ?_
            intro K hK
            rw [if_neg (Bool.eq_false_iff.1 (by rfl))]
            first | with_reducible refine hK _ _ ?_ | refine hK _ _ ?_
            clear hK K
            (try simp only [Act.put, List.setIfInBounds_toArray, List.set_cons_zero, List.set_cons_succ])
            with_reducible refine wpList_step ?_
            intro K hK
            rw [if_neg (Bool.eq_false_iff.1 (by rfl))]
            first | with_reducible refine hK _ _ ?_ | refine hK _ _ ?_
            clear hK K
            (try simp only [Act.put, List.setIfInBounds_toArray, List.set_cons_zero, List.set_cons_succ])
            with_reducible refine wpList_plain rfl ?_
            intro K hK
            go_simp
            first | with_reducible refine hK _ _ ?_ | refine hK _ _ ?_
            clear hK K
            (try simp only [Act.put, List.setIfInBounds_toArray, List.set_cons_zero, List.set_cons_succ])
            go_wp2_with fail
            exact HFail.out _ (by rw [HB.out, H1.out, HOR.out, HLn.out, H4.out]; rfl) B3.out
          case false =>
            with_reducible refine wpList_plain rfl ?_
            intro K hK
            go_simp
            first | with_reducible refine hK _ _ ?_ | refine hK _ _ ?_
            clear hK K
            (try simp only [Act.put, List.setIfInBounds_toArray, List.set_cons_zero, List.set_cons_succ])
            with_reducible refine wpList_plain rfl ?_
            intro K hK
            go_simp
            first | with_reducible refine hK _ _ ?_ | refine hK _ _ ?_
            clear hK K
            (try simp only [Act.put, List.setIfInBounds_toArray, List.set_cons_zero, List.set_cons_succ])
            with_reducible refine wpList_step ?_
            intro K hK
            rw [if_pos (by rfl)]
            go_simp
            first | with_reducible refine hK _ _ ?_ | refine hK _ _ ?_
            clear hK K
            (try simp only [Act.put, List.setIfInBounds_toArray, List.set_cons_zero, List.set_cons_succ])
            with_reducible refine wpList_step ?_
            intro K hK
            rw [if_pos (by rfl)]
            go_simp
            refine (rising_any _ xs w3 V3).mono ?_; rintro e w4 ⟨rfl, b4⟩; rw [H5.out]
            first | with_reducible refine hK _ _ ?_ | refine hK _ _ ?_
            clear hK K
            (try simp only [Act.put, List.setIfInBounds_toArray, List.set_cons_zero, List.set_cons_succ])
            have B4 := Lib.hid (B3.out.trans (b4.mono (by have := B3.out.size; have := HN.out; omega)))
            have V4 := Lib.hid (V3.out.below b4)
            clear b4 B3 V3
            with_reducible refine wpList_step ?_
            intro K hK
            rw [if_pos (by rfl)]
            go_simp
            first | with_reducible refine hK _ _ ?_ | refine hK _ _ ?_
            clear hK K
            (try simp only [Act.put, List.setIfInBounds_toArray, List.set_cons_zero, List.set_cons_succ])
            with_reducible refine wpList_plain rfl ?_
            intro K hK
            go_simp
            first | with_reducible refine hK _ _ ?_ | refine hK _ _ ?_
            clear hK K
            (try simp only [Act.put, List.setIfInBounds_toArray, List.set_cons_zero, List.set_cons_succ])
            cases q5
            case false =>
              go_wp2_with fail
              exact HFail.out _ (by rw [HB.out, H1.out, HOR.out, HLn.out, H4.out, H5.out]; rfl) B4.out
            case true =>
              go_upto_region 4 with fail
              with_reducible refine wp_region_list ?_
              with_reducible refine wpList_plain rfl ?_
              intro K hK
              go_simp
              refine (New_any w4).mono ?_; rintro e w5 ⟨rfl, hw5⟩
              first | with_reducible refine hK _ _ ?_ | refine hK _ _ ?_
              clear hK K
              (try simp only [Act.put, List.setIfInBounds_toArray, List.set_cons_zero, List.set_cons_succ])
              obtain ⟨p, hp⟩ : ∃ p, w4.heap.size = p := ⟨_, rfl⟩
              have W5 : Hid (Wr w5 p p []) := by rw [← hp, ← hw5]; exact Wr.new w4
              have b5 : Below p w4 w5 := by rw [← hp, ← hw5]; exact (Below.refl _ _).alloc (Nat.le_refl _) _
              have B5 := Lib.hid b5
              have hz4 : N ≤ p := by have := B4.out.size; have := HN.out; omega
              have hz5 : p ≤ w5.heap.size := by have := b5.size; omega
              rw [hp]
              have Hp := Lib.hid hp
              clear hp hw5 b5
              with_reducible refine wpList_plain rfl ?_
              intro K hK
              go_simp
              first | with_reducible refine hK _ _ ?_ | refine hK _ _ ?_
              clear hK K
              (try simp only [Act.put, List.setIfInBounds_toArray, List.set_cons_zero, List.set_cons_succ])
              go_upto_region 5 with fail
              with_reducible refine wp_region_list ?_
              with_reducible refine wpList_plain rfl ?_
              intro K hK
              go_simp
              first | with_reducible refine hK _ _ ?_ | refine hK _ _ ?_
              clear hK K
              (try simp only [Act.put, List.setIfInBounds_toArray, List.set_cons_zero, List.set_cons_succ])
              with_reducible refine wpList_plain rfl ?_
              intro K hK
              go_simp
              first | with_reducible refine hK _ _ ?_ | refine hK _ _ ?_
              clear hK K
              (try simp only [Act.put, List.setIfInBounds_toArray, List.set_cons_zero, List.set_cons_succ])
              with_reducible refine wpList_plain rfl ?_
              intro K hK
              go_simp
              refine (Put_uint32 (next : Int) p p [] w5 (by omega) W5.out (by simp)).mono ?_; rintro e w6 ⟨rfl, hw6, b6⟩; rw [Int.toNat_natCast, List.nil_append] at hw6
              first | with_reducible refine hK _ _ ?_ | refine hK _ _ ?_
              clear hK K
              (try simp only [Act.put, List.setIfInBounds_toArray, List.set_cons_zero, List.set_cons_succ])
              have W6 := Lib.hid hw6
              have B6 := Lib.hid (B5.out.trans b6)
              have hz6 : p ≤ w6.heap.size := by have := b6.size; omega
              clear hw6 b6 W5 B5
              have wl : IntKind.u32.wrap (xs.length : Int) = (xs.length : Int) := IntWalk.u32_in _ (by omega)
              go_upto_region 6 with fail
              with_reducible refine wp_region_list ?_
              with_reducible refine wpList_plain rfl ?_
              intro K hK
              go_simp
              first | with_reducible refine hK _ _ ?_ | refine hK _ _ ?_
              clear hK K
              (try simp only [Act.put, List.setIfInBounds_toArray, List.set_cons_zero, List.set_cons_succ])
              with_reducible refine wpList_plain rfl ?_
              intro K hK
              go_simp
              first | with_reducible refine hK _ _ ?_ | refine hK _ _ ?_
              clear hK K
              (try simp only [Act.put, List.setIfInBounds_toArray, List.set_cons_zero, List.set_cons_succ])
              with_reducible refine wpList_plain rfl ?_
              intro K hK
              go_simp
              first | with_reducible refine hK _ _ ?_ | refine hK _ _ ?_
              clear hK K
              (try simp only [Act.put, List.setIfInBounds_toArray, List.set_cons_zero, List.set_cons_succ])
              with_reducible refine wpList_plain rfl ?_
              intro K hK
              go_simp
              first | with_reducible refine hK _ _ ?_ | refine hK _ _ ?_
              clear hK K
              (try simp only [Act.put, List.setIfInBounds_toArray, List.set_cons_zero, List.set_cons_succ])
              with_reducible refine wpList_plain rfl ?_
              intro K hK
              go_simp
              refine (Put_uint32 (xs.length : Int) p p (be 4 next) w6 (by omega) W6.out (by simp [be_length])).mono ?_; rintro e w7 ⟨rfl, hw7, b7⟩; rw [Int.toNat_natCast] at hw7
              first | with_reducible refine hK _ _ ?_ | refine hK _ _ ?_
              clear hK K
              (try simp only [Act.put, List.setIfInBounds_toArray, List.set_cons_zero, List.set_cons_succ])
              have W7 := Lib.hid hw7
              have B7 := Lib.hid (B6.out.trans b7)
              clear hw7 b7 W6 B6 wl
              go_upto_region 8 with fail
              go_loopw [52] (fun i wr => ∃ (k : Nat), k ≤ xs.length ∧ Hid (Wr wr p p (be 4 next ++ be 4 xs.length ++ (xs.take k).flatMap (be 4))) ∧ Hid (Below p w4 wr) ∧ i = .int .i64 (k : Int)) (fun i _ => xs.length - (intOf i).toNat)
              case atStart => exact ⟨0, Nat.zero_le _, by simpa using W7, B7, rfl⟩
              case round =>
                obtain ⟨k, hk, Wk, Bk, rfl⟩ := hrel
                by_cases hlt : k < xs.length
                case pos =>
                  have dk : decide (k < xs.length) = true := decide_eq_true hlt
                  have dk2 : decide ((k : Int) < (xs.length : Int)) = true := decide_eq_true (by omega)
                  have ik : (k : Int) < (xs.length : Int) := by omega
                  have vk : URow wr (.slice ad xs.length c) xs := V4.out.mod (S := fun k => p ≤ k) ⟨Bk.out.os, Bk.out.tape, Bk.out.output, Bk.out.size, fun k hk hn => Bk.out.block k (by omega)⟩ (fun hp k hk e => by have := V4.out.lt hp k hk; have := Hp.out; omega)
                  have hx4 := vk.1 _ (List.getElem_mem hlt)
                  obtain ⟨_, _, e9, _, hc⟩ := vk.form
                  obtain ⟨vb, vo, e8, hcs⟩ := hc (by omega)
                  have e7 := (Value.slice.inj e9).1
                  rw [e8] at e7
                  subst e7
                  have hcc := hcs k hlt
                  have hnx : (xs.take (k + 1)).flatMap (be 4) = (xs.take k).flatMap (be 4) ++ be 4 xs[k] := by rw [List.take_add_one, List.getElem?_eq_getElem hlt, List.flatMap_append]; simp
                  have hfl := flat4 (xs.take k)
                  rw [List.length_take] at hfl
                  obtain ⟨x, hx⟩ : ∃ x, xs[k] = x := ⟨_, rfl⟩
                  rw [hx] at hcc hnx hx4
                  have HX := Lib.hid hnx
                  have HF := Lib.hid hfl
                  unfold uN at hcc
                  have Hcc := Lib.hid hcc
                  clear vk e8 e9 hcs hc hx hnx hfl hcc
                  have hcc := Hcc.out
                  go_upto_region 10 with fail
                  clear dk dk2 hcc
                  with_reducible refine wp_region_list ?_
                  with_reducible refine wpList_plain rfl ?_
                  intro K hK
                  go_simp
                  first | with_reducible refine hK _ _ ?_ | refine hK _ _ ?_
                  clear hK K
                  (try simp only [Act.put, List.setIfInBounds_toArray, List.set_cons_zero, List.set_cons_succ])
                  with_reducible refine wpList_plain rfl ?_
                  intro K hK
                  go_simp
                  first | with_reducible refine hK _ _ ?_ | refine hK _ _ ?_
                  clear hK K
                  (try simp only [Act.put, List.setIfInBounds_toArray, List.set_cons_zero, List.set_cons_succ])
                  with_reducible refine wpList_plain rfl ?_
                  intro K hK
                  go_simp
                  refine (Put_uint32 (x : Int) p p _ wr (by omega) Wk.out (by rw [List.length_append, List.length_append, be_length, be_length, HF.out]; omega)).mono ?_; rintro e w8 ⟨rfl, hw8, b8⟩; rw [Int.toNat_natCast] at hw8
                  first | with_reducible refine hK _ _ ?_ | refine hK _ _ ?_
                  clear hK K
                  (try simp only [Act.put, List.setIfInBounds_toArray, List.set_cons_zero, List.set_cons_succ])
                  have W8 : Hid (Wr w8 p p (be 4 next ++ be 4 xs.length ++ (xs.take (k + 1)).flatMap (be 4))) := by show Wr _ _ _ _; rw [HX.out, ← List.append_assoc]; exact hw8
                  have B8 := Lib.hid (Bk.out.trans b8)
                  clear hw8 b8 Wk Bk
                  go_wp2_with fail
                  exact ⟨⟨k + 1, by omega, W8, B8, by go_num⟩, by simp [intOf]; omega⟩
                case neg =>
                  have dk : decide (k < xs.length) = false := decide_eq_false hlt
                  have dk2 : decide ((k : Int) < (xs.length : Int)) = false := decide_eq_false (by omega)
                  have hfull : xs.take k = xs := List.take_of_length_le (by omega)
                  have hW := Wk.out
                  rw [hfull, List.append_assoc] at hW
                  have HW := Lib.hid hW
                  have hf := HOk.out wr (by rw [HB.out, H1.out, HOR.out, HLn.out, H4.out, H5.out]; rfl) (B4.out.trans (Bk.out.mono hz4))
                  unfold bodyL at hf
                  have Hf := Lib.hid hf
                  clear hfull hW hf
                  go_wp2_with (go_at_call 62; refine (WString_any p p _ _ HW.out).mono ?_; rintro e w9 ⟨rfl, rfl⟩)
                  exact Hf.out
end Go.Proofs.Ytkngmnfgdlnddaa
