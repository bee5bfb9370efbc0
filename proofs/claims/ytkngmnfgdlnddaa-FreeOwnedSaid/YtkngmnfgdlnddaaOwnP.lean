/-
  The plain law of what a plan takes; a number in a list, told by the same world.
-/
import Derived.Test.YtkngmnfgdlnddaaPlnB
namespace Go.Proofs.Ytkngmnfgdlnddaa
open Go.RowKit Go.Lib Hw Go.Maps
set_option linter.unusedSimpArgs false
set_option linter.unusedVariables false

/-- the list pages are apart -/
structure NW (P p0 : Nat) (chain : List (Nat × List Nat)) (t : LSt) : Prop where
  nd : t.lists.Nodup
  cl : ∀ z, t.s.C z = true → z ∉ t.lists
  hi : ∀ x ∈ t.lists, x < P ∨ p0 ≤ x
  fl : ∀ x ∈ t.lists, x < P → x ∈ flat (chain.take t.opened)
theorem stepL_nw {left held : Nat → Bool} {most P p0 : Nat} {chain : List (Nat × List Nat)} {rel : List Nat} {t t2 : LSt} (hP : P ≤ p0) (hg : Good P chain rel) (hl : LW left held P p0 most chain rel t) (h : NW P p0 chain t) (hs : stepL left held most P chain t = some t2) : NW P p0 chain t2 := by
  have hlo := hl.lo
  unfold stepL at hs
  cases hC : setL P t.s.C with
  | cons x r =>
    rw [hC] at hs
    cases hs
    have hx : x < P ∧ t.s.C x = true := setL_mem.1 (by rw [hC]; exact List.mem_cons_self ..)
    refine ⟨List.nodup_append.2 ⟨h.nd, by simp, fun a ha b hb e => ?_⟩, fun z hz hm => ?_, fun y hy => ?_, fun y hy hp => ?_⟩
    · rw [List.mem_singleton.1 hb] at e
      exact h.cl x hx.2 (e ▸ ha)
    · have h1 := Bool.and_eq_true_iff.1 hz
      rcases List.mem_append.1 hm with hm | hm
      · exact h.cl z h1.1 hm
      · rw [List.mem_singleton.1 hm] at h1
        simp at h1
    · rcases List.mem_append.1 hy with hy | hy
      · exact h.hi y hy
      · rw [List.mem_singleton.1 hy]; exact .inl hx.1
    · rcases List.mem_append.1 hy with hy | hy
      · exact h.fl y hy hp
      · rw [List.mem_singleton.1 hy]; exact (hl.sinv.2 x hx.2).2
  | nil =>
    rw [hC] at hs
    cases hc : chain[t.opened]? with
    | some c =>
      rw [hc] at hs
      cases hs
      obtain ⟨hj, hc2⟩ := List.getElem?_eq_some_iff.1 hc
      subst hc2
      obtain ⟨_, hb⟩ := hg.batch hj
      refine ⟨h.nd, fun z hz hm => ?_, h.hi, fun y hy hp => ?_⟩
      · simp only [openB, Bool.or_eq_true, Bool.and_eq_true, List.contains_iff_mem] at hz
        rcases hz with h1 | h1
        · exact h.cl z h1 hm
        · have h2 := hb z (List.mem_cons_of_mem _ h1.1)
          exact h2.2.2 (h.fl z hm h2.1)
      · show y ∈ flat (chain.take (t.opened + 1))
        rw [flat_take_succ hj]
        exact List.mem_append_left _ (h.fl y hy hp)
    | none =>
      rw [hc] at hs
      by_cases hp : t.pages < most
      · dsimp only at hs
        rw [if_pos hp] at hs
        cases hs
        refine ⟨List.nodup_append.2 ⟨h.nd, by simp, fun a ha b hb e => ?_⟩, fun z hz hm => ?_, fun y hy => ?_, fun y hy hp => ?_⟩
        · rw [List.mem_singleton.1 hb] at e
          have := (hl.ls a ha).1
          omega
        · rcases List.mem_append.1 hm with hm | hm
          · exact h.cl z hz hm
          · have h1 := (hl.sinv.2 z hz).2
            have h2 : z ∈ flat chain := by rw [flat_split chain t.opened]; exact List.mem_append_left _ h1
            have h3 := hg.2 z (List.mem_append_left _ h2)
            have := List.mem_singleton.1 hm
            omega
        · rcases List.mem_append.1 hy with hy | hy
          · exact h.hi y hy
          · rw [List.mem_singleton.1 hy]; exact .inr hlo
        · rcases List.mem_append.1 hy with hy | hy
          · exact h.fl y hy hp
          · have := List.mem_singleton.1 hy
            omega
      · dsimp only at hs
        rw [if_neg hp] at hs
        cases hs
theorem PMade.nw {a b : Int} {chain : List (Nat × List Nat)} {pages most : Nat} {held rel : List Nat} {trees : Int} {p : PlanV} {s : TS} {t : LSt} (h : PMade a b chain pages held trees rel most p s t) : NW pages s.pages chain t := by
  have f := h.facts
  exact (listG_ind (fun u => LW s.left (heldS held) pages s.pages most chain rel u ∧ NW pages s.pages chain u) (fun u u2 hu _ hs => ⟨stepL_lw f.tok.lo hu.1 hs, stepL_nw f.tok.lo f.good hu.1 hu.2 hs⟩) _ _ _ ⟨lw_start f.tok.op f.tok.hi, ⟨List.nodup_nil, fun z _ hm => by simp at hm, fun x hx => by simp at hx, fun x hx => by simp at hx⟩⟩ h.lt).2
theorem owned_plain {a b : Int} {chain : List (Nat × List Nat)} {pages most : Nat} {held rel : List Nat} {trees : Int} {p : PlanV} (h : planF a b chain pages held trees rel most = .inr p) :
    (p.trees.length : Int) = trees ∧ pages ≤ p.pages ∧ p.pages ≤ most ∧ p.opened ≤ chain.length ∧ (p.trees ++ p.lists.map (·.1)).Nodup ∧ (∀ x ∈ p.trees ++ p.lists.map (·.1), x < p.pages ∧ (x < pages → leftS chain x = true ∧ held.contains x = false ∧ rel.contains x = false)) ∧ Good pages chain rel ∧ pages ≤ 65536 := by
  obtain ⟨s, t, hm⟩ := planF_inr h
  have f := hm.facts
  have nw := hm.nw
  have ha := hm.arg
  unfold argB at ha
  simp only [Bool.and_eq_true, decide_eq_true_eq] at ha
  have e1 : p.lists.map (·.1) = t.lists := by rw [hm.eq]; exact dealL_fst _ _ _
  have e2 : p.trees = s.trees := by rw [hm.eq]
  have e3 : p.opened = t.opened := by rw [hm.eq]
  have e4 : p.pages = t.pages := by rw [hm.eq]
  have hlen := treesF_len _ _ _ hm.st
  have hlo := f.lw.lo
  have hsl := f.tok.lo
  rw [e1, e2, e3, e4]
  have hrel : ∀ x, leftS chain x = true → rel.contains x = false := fun x hx => by
    rw [Bool.eq_false_iff]
    intro hc
    exact (List.nodup_append.1 f.good.1).2.2 x (left_mem hx) x (List.contains_iff_mem.1 hc) rfl
  refine ⟨by rw [hlen]; have := ha.2.2.2.2.2; simp; omega, by omega, f.lw.hi, f.lw.op, List.nodup_append.2 ⟨f.tok.inv.1.1, nw.nd, fun x hx y hy e => ?_⟩, fun x hx => ?_, f.good, by have := f.pm; have := f.m6; omega⟩
  · subst e
    rcases nw.hi x hy with h1 | h1
    · have h2 := f.lw.lm x hy h1
      unfold mayF at h2
      exact ((f.tw.lf x).1 (Bool.and_eq_true_iff.1 h2).1).2 hx
    · have := f.tok.inv.1.2 x hx
      omega
  · rcases List.mem_append.1 hx with hx | hx
    · refine ⟨by have := f.tok.inv.1.2 x hx; omega, fun hp => ?_⟩
      obtain ⟨h1, h2⟩ := f.tw.tr x hx hp
      exact ⟨h1, h2, hrel x h1⟩
    · refine ⟨(f.lw.ls x hx).1, fun hp => ?_⟩
      have h2 := f.lw.lm x hx hp
      unfold mayF at h2
      have h3 := Bool.and_eq_true_iff.1 h2
      have h4 := ((f.tw.lf x).1 h3.1).1
      exact ⟨h4, by have := h3.2; unfold heldS at this; simpa using this, hrel x h4⟩
set_option maxHeartbeats 4000000 in
theorem has_same (v : Value) (xs : List Nat) (x : Nat) (w : World) (hv : Hid (URow w v xs)) : Calls Try.prog 37 #[v, .int .u32 (x : Int)] w (fun e w' => e = .returned (.bool (xs.contains x)) ∧ w' = w) := by
  obtain ⟨ad, c, hv1, hl, hx1⟩ := hv.out.form
  clear hx1
  subst hv1
  obtain ⟨R, hR⟩ : ∃ R, (fun (e : Ending) (w' : World) => e = .returned (.bool (xs.contains x)) ∧ w' = w) = R := ⟨_, rfl⟩
  have HNo : Hid (∀ W, xs.contains x = false → W = w → R (.returned (.bool false)) W) := fun W h1 h2 => by
    rw [← hR]
    exact ⟨by rw [h1], h2⟩
  have HYes : Hid (∀ W, xs.contains x = true → W = w → R (.returned (.bool true)) W) := fun W h1 h2 => by
    rw [← hR]
    exact ⟨by rw [h1], h2⟩
  rw [hR]
  clear hR
  obtain ⟨n, hn⟩ : ∃ n, xs.length = n := ⟨_, rfl⟩
  have HN := Lib.hid hn
  rw [hn] at hv hl ⊢
  clear hn
  go_enter Try.func37, Try.ntmps37
  go_upto_region 2 with fail
  go_loopw [5] (fun iv wr => ∃ (k : Nat), k ≤ n ∧ Hid ((xs.take k).contains x = false) ∧ Hid (wr = w) ∧ iv = .int .i64 (k : Int)) (fun iv _ => n - (intOf iv).toNat)
  case atStart => exact ⟨0, Nat.zero_le _, by show _ = _; rw [List.take_zero]; rfl, rfl, rfl⟩
  case round =>
    obtain ⟨k, hk, HT, HB, rfl⟩ := hrel
    by_cases hlt : k < n
    case neg =>
      have ik : ¬ (k : Int) < (n : Int) := by omega
      have hR := HNo.out wr (by
        have h := HT.out
        rw [List.take_of_length_le (by rw [HN.out]; omega)] at h
        exact h) HB.out
      have HR := Lib.hid hR
      clear hR
      go_wp2_with fail
      exact HR.out
    case pos =>
      have ik : (k : Int) < (n : Int) := by omega
      have hkx : k < xs.length := by rw [HN.out]; exact hlt
      obtain ⟨a1, c1, e1, _, g1⟩ := (by have := hv.out; rw [← HB.out] at this; exact this : URow wr _ xs).form
      obtain ⟨b1, o1, e2, hc1⟩ := g1 (by omega)
      have e3 := (Value.slice.inj e1).1
      rw [e2] at e3
      subst e3
      have h1 := hc1 k hkx
      have t1 := List.take_succ_eq_append_getElem hkx
      obtain ⟨y, hy⟩ : ∃ y, xs[k] = y := ⟨_, rfl⟩
      have HY : Hid (y ∈ xs) := by show y ∈ xs; rw [← hy]; exact List.getElem_mem hkx
      rw [hy] at h1 t1
      unfold uN at h1
      have T1 := Lib.hid t1
      clear t1 hy hc1 e1 e2 g1 hkx
      by_cases hxy : y = x
      case neg =>
        have en : decide ((y : Int) = (x : Int)) = false := decide_eq_false (by omega)
        have en2 : ((y : Int) == (x : Int)) = false := by simp; omega
        have HT2 : Hid ((xs.take (k + 1)).contains x = false) := by
          show _ = _
          have h := HT.out
          rw [T1.out]
          rw [Bool.eq_false_iff] at h ⊢
          intro hc
          rcases List.mem_append.1 (List.contains_iff_mem.1 hc) with h2 | h2
          · exact h (List.contains_iff_mem.2 h2)
          · exact hxy (List.mem_singleton.1 h2).symm
        have HB2 : Hid (wr = w) := HB.out
        go_wp2_with fail
        exact ⟨⟨k + 1, by omega, HT2, HB2, by go_num⟩, by simp [intOf]; omega⟩
      case pos =>
        subst hxy
        have en : ((y : Int) == (y : Int)) = true := by simp
        have hR := HYes.out wr (List.contains_iff_mem.2 HY.out) (HB.out)
        have HR := Lib.hid hR
        clear hR
        go_wp2_with fail
        exact HR.out
end Go.Proofs.Ytkngmnfgdlnddaa
