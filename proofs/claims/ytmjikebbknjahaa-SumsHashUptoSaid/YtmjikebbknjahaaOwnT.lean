/-
  Slices of strings of the call's own.
-/
import Derived.Test.YtmjikebbknjahaaTextW
namespace Go.Proofs.Ytmjikebbknjahaa
open Go.RowKit Go.Lib Hw
set_option linter.unusedVariables false

def OwnT (w : World) (B : Nat) (v : Value) (xs : List ByteArray) : Prop := w.ownsRow B 9 1 v xs.length (xs.map Value.string)
theorem info_str : (Try.prog.info? 9).map (fun i => (i.zero, i.size, i.bytes)) = some (some (.string ⟨#[]⟩), 1, 16) := by kernel_rfl
theorem sv_one (xs : List ByteArray) : ∀ u ∈ xs.map Value.string, u.oneCell' = true := by
  intro u hu
  obtain ⟨_, _, rfl⟩ := List.mem_map.1 hu
  rfl
theorem OwnT.nil (w : World) (B : Nat) : OwnT w B (.slice none 0 0) [] := World.ownsRow_nil w B _ 1
theorem OwnT.lt {w : World} {B : Nat} {v : Value} {xs : List ByteArray} (h : OwnT w B v xs) : ∀ g, v.ownBlock = some g → B ≤ g ∧ g < w.heap.size := World.ownsRow.lt h
theorem OwnT.below {w w' : World} {B C : Nat} {v : Value} {xs : List ByteArray} (h : OwnT w B v xs) (hb : Below C w w') (hC : ∀ g, v.ownBlock = some g → g < C) : OwnT w' B v xs := by
  refine ⟨h.1, ?_⟩
  rcases h.2 with hn | ⟨g, cap, cur, rfl, hB, hg, r⟩
  · exact .inl hn
  · exact .inr ⟨g, cap, cur, rfl, hB, heap_below hg hb (hC g rfl), r⟩
theorem OwnT.form {w : World} {B : Nat} {v : Value} {xs : List ByteArray} (h : OwnT w B v xs) (hn : 0 < xs.length) : ∃ g cap, v = .slice (some ⟨g, 0, none⟩) xs.length cap ∧ B ≤ g ∧ g < w.heap.size ∧ xs.length ≤ cap := by
  rcases h.2 with ⟨_, h0⟩ | ⟨g, cap, cur, hv, hb, hg, hc, _⟩
  · omega
  · exact ⟨g, cap, hv, hb, heap_lt hg, hc⟩
theorem OwnT.cell {w : World} {B g n cap : Nat} {xs : List ByteArray} (h : OwnT w B (.slice (some ⟨g, 0, none⟩) n cap) xs) (j : Nat) (hj : j < xs.length) : w.cell? ⟨g, j, none⟩ = some (.string xs[j]) := by
  have h1 := World.ownsRow.cells (w := w) h (g := g) rfl j (.string xs[j]) (by simp [hj])
  rw [add_flat1, Nat.zero_add] at h1
  exact h1
theorem OwnT.row {w : World} {B g n cap : Nat} {xs : List ByteArray} (h : OwnT w B (.slice (some ⟨g, 0, none⟩) n cap) xs) (k : Nat) (hk : k ≤ xs.length) : StrRow w (.slice (some ⟨g, 0, none⟩) k cap) (xs.take k) := by
  refine ⟨some ⟨g, 0, none⟩, cap, by rw [List.length_take, Nat.min_eq_left hk], (fun h => by cases h), fun _ => ⟨g, 0, rfl, fun i hi => ?_⟩⟩
  rw [List.length_take] at hi
  rw [Nat.zero_add, h.cell i (by omega)]
  simp
/-- append(xs, x): one string, that was laid into a block of its own -/
theorem wpList_appT {ops : Array Oper} {rest : List Oper} {o : Oper} {a : Act} {Q : Exit → Act → World → Prop} (W : World) (t : TypeId) (x : ByteArray) (hgd : o.guard = none) (s y : Operand)
    (ho : o.op = .call { callee := .builtin .append, args := #[s, y], argTypes := #[23, 23] })
    (B : Nat) (v : Value) (xs : List ByteArray) (hs : a.eval s = v) (hown : OwnT W B v xs) (c : Nat) (hy : a.eval y = .slice (some ⟨W.heap.size, 0, none⟩) 1 c)
    (hlen : (xs.length + 1) * 16 ≤ 140737488355328) (hB : B ≤ W.heap.size)
    (h : ∀ v' w', OwnT w' B v' (xs ++ [x]) → Below B W w' → wpList Try.prog ops Q rest (a.put o.dst v') w') :
    wpList Try.prog ops Q (o :: rest) a (W.alloc (.cells #[.string x] t)) := by
  obtain ⟨i, hi, hz0, hz1, hz2⟩ := info_parts info_str
  refine wpList_append_own _ hgd s y 23 ho B 9 i (.string ⟨#[]⟩) 1 16 Try.underlying23 hi hz0 hz1 hz2 rfl (by decide) v xs.length (xs.map Value.string) hs (World.ownsRow.alloc hown _) ⟨W.heap.size, 0, none⟩ 1 c [.string x] hy rfl ?_ (sv_one [x]) (by rw [maxLen_eq]; omega) hlen (by simp only [World.size_alloc]; omega) ?_
  · exact World.news_of_block (heap_alloc_new W _)
  · intro v' w' h1 h2 _
    refine h v' w' ?_ (((Below.refl B W).alloc hB _).grown h2 (by simp only [World.size_alloc]; omega) (fun k hk => (World.ownsRow.lt hown k hk).1))
    unfold OwnT
    rw [List.length_append, List.map_append]
    exact h1
/-- append([]string(nil), xs...) -/
theorem wpList_copyT {ops : Array Oper} {rest : List Oper} {o : Oper} {a : Act} {Q : Exit → Act → World → Prop} (w : World) (hgd : o.guard = none) (s x : Operand)
    (ho : o.op = .call { callee := .builtin .append, args := #[s, x], argTypes := #[23, 23] })
    (hs : a.eval s = .slice none 0 0) (v : Value) (xs : List ByteArray) (hx : a.eval x = v) (hv : StrRow w v xs) (hlen : xs.length * 16 ≤ 140737488355328)
    (h : ∀ v' w', OwnT w' w.heap.size v' xs → Below w.heap.size w w' → wpList Try.prog ops Q rest (a.put o.dst v') w') : wpList Try.prog ops Q (o :: rest) a w := by
  obtain ⟨i, hi, hz0, hz1, hz2⟩ := info_parts info_str
  obtain ⟨ad, c, rfl, hnn, hc⟩ := hv
  cases ad with
  | none =>
    have h0 : xs.length = 0 := by
      rcases Nat.eq_zero_or_pos xs.length with h0 | h0
      · exact h0
      · obtain ⟨b, o, e, _⟩ := hc h0
        cases e
    obtain rfl : xs = [] := List.eq_nil_of_length_eq_zero h0
    obtain rfl := hnn rfl
    exact wpList_append_own_none hgd s x 23 ho w.heap.size 9 i 1 Try.underlying23 hi (.slice none 0 0) 0 [] hs (World.ownsRow_nil w w.heap.size _ 1) hx (h _ w (OwnT.nil _ _) (Below.refl _ _))
  | some ad =>
    refine wpList_append_own w hgd s x 23 ho w.heap.size 9 i (.string ⟨#[]⟩) 1 16 Try.underlying23 hi hz0 hz1 hz2 rfl (by decide) (.slice none 0 0) 0 [] hs (World.ownsRow_nil w w.heap.size _ 1) ad xs.length c (xs.map Value.string) hx (by simp) ?_ (sv_one xs) (by rw [maxLen_eq]; omega) (by omega) (Nat.le_refl _) ?_
    · intro j u hu
      rw [List.getElem?_map] at hu
      obtain ⟨y, hy, rfl⟩ := Option.map_eq_some_iff.1 hu
      obtain ⟨hj, rfl⟩ := List.getElem?_eq_some_iff.1 hy
      obtain ⟨b, o, e, hb⟩ := hc (by omega)
      cases e
      rw [add_flat1]
      exact hb j hj
    · intro v' w' h1 h2 h3
      rw [Nat.zero_add, List.nil_append] at h1
      exact h v' w' h1 ((Below.refl _ _).grown h2 (Nat.le_refl _) (fun k hk => by simp [Value.ownBlock] at hk))
def markS : ByteArray := ⟨#[109, 97, 114, 107]⟩
def marks : List ByteArray := List.replicate 5 markS

/-- what lent gives -/
def LentPost (w : World) (l : List ByteArray) (e : Ending) (w' : World) : Prop :=
  ∃ g cap, e = .returned (.slice (some ⟨g, 0, none⟩) l.length cap) ∧ OwnT w' w.heap.size (.slice (some ⟨g, 0, none⟩) (l.length + 5) cap) (l ++ marks) ∧ Below w.heap.size w w'

set_option maxHeartbeats 1000000 in
theorem lent_any (v : Value) (l : List ByteArray) (w : World) (hv : StrRow w v l) (hl : l.length * 16 ≤ 140737488355240) :
    Calls Try.prog 24 #[v] w (LentPost w l) := by
  obtain ⟨ad, c, rfl, _⟩ := strRow_form hv
  have HV := Lib.hid hv
  clear hv
  go_enter Try.func24, Try.ntmps24
  go_upto_region 3 with (at_builtin; refine wpList_copyT _ rfl _ _ rfl rfl _ l rfl HV.out (by omega) ?_; intro v1 w1 hv1 hb1)
  have HV1 := Lib.hid hv1
  have HB1 := Lib.hid hb1
  clear hv1 hb1
  go_wp2_with fail
  go_loopw [3, 4] (fun v i wr => ∃ (k : Nat), k ≤ 5 ∧ Hid (OwnT wr w.heap.size v (l ++ List.replicate k markS)) ∧ Hid (Below w.heap.size w wr) ∧ i = .int .i64 (k : Int)) (fun _ i _ => 5 - (intOf i).toNat)
  case atStart => exact ⟨0, by omega, by simpa using HV1, HB1, rfl⟩
  case round =>
    clear HV1 HB1
    obtain ⟨k, hk, HO, HB, rfl⟩ := hrel
    by_cases hlt : k < 5
    · have hz := HB.out.size
      have hn : (l ++ List.replicate k markS).length = l.length + k := by simp
      obtain ⟨xs, hxs⟩ : ∃ xs, l ++ List.replicate k markS = xs := ⟨_, rfl⟩
      rw [hxs] at HO hn
      have Hn := Lib.hid hn
      have Hxs := Lib.hid hxs
      clear hn hxs
      go_wp2_with (at_builtin; refine wpList_appT wr 9 markS rfl _ _ rfl w.heap.size u3 xs rfl HO.out _ rfl (by have := Hn.out; omega) hz ?_; intro v2 w2 hv2 hb2)
      exact ⟨⟨k + 1, by omega, by rw [List.replicate_succ', ← List.append_assoc, Hxs.out]; exact hv2, HB.out.trans hb2, by go_num⟩, by simp [intOf]; omega⟩
    · obtain rfl : k = 5 := by omega
      obtain ⟨g, cap, hu, _, _, hcap⟩ := HO.out.form (by simp)
      have hln : (l ++ List.replicate 5 markS).length = l.length + 5 := by simp
      rw [hln] at hu hcap
      subst hu
      have hc2 : l.length ≤ cap := by omega
      go_wp2_with fail
      go_ret
      exact ⟨g, cap, rfl, HO.out, HB.out⟩
end Go.Proofs.Ytmjikebbknjahaa
