/-
  Two climbs to one digest, in plain words: the last step at which they are unlike, and the two texts of it. Rows of pairs and of steps: places, loads; the boxes that Unlike holds. The walk of rings.Unlike.
-/
import Derived.Test.YtihbhpggpnmifaaGX
import Derived.Test.YtihbhpggpnmifaaGU
import Derived.Test.YtihbhpggpnmifaaGG
set_option linter.unusedSimpArgs false
set_option linter.unusedVariables false
namespace Go.Proofs.Ytihbhpggpnmifaa
open Hw
set_option linter.unusedVariables false

theorem rclimb_len (w : Nat) (a b : Dg) : ∀ (n i : Nat) (p q : List Dg), (rclimb w a i n p).2.2 = true → (rclimb w b i n q).2.2 = true → (rclimb w a i n p).2.1.length = (rclimb w b i n q).2.1.length := by
  intro n
  induction n using Nat.strongRecOn with
  | _ n ih =>
    intro i p q hp hq
    by_cases h1 : n ≤ 1
    · rw [rclimb_one _ _ _ _ _ h1, rclimb_one _ _ _ _ _ h1]
    · have hs := half_spec (n := n) (by omega)
      rcases List.eq_nil_or_concat p with rfl | ⟨p', l, rfl⟩
      · rw [rclimb_nil _ _ _ _ (by omega)] at hp; cases hp
      rcases List.eq_nil_or_concat q with rfl | ⟨q', m, rfl⟩
      · rw [rclimb_nil _ _ _ _ (by omega)] at hq; cases hq
      simp only [List.concat_eq_append] at hp hq ⊢
      by_cases hk : i < halfN n
      · rw [rclimb_left _ _ _ _ _ _ (by omega) hk] at hp hq ⊢
        rw [rclimb_left _ _ _ _ _ _ (by omega) hk]
        simp only [List.length_append, List.length_singleton]
        rw [ih (halfN n) (by omega) i p' q' hp hq]
      · rw [rclimb_right _ _ _ _ _ _ (by omega) hk] at hp hq ⊢
        rw [rclimb_right _ _ _ _ _ _ (by omega) hk]
        simp only [List.length_append, List.length_singleton]
        rw [ih (n - halfN n) (by omega) (i - halfN n) p' q' hp hq]
theorem rclimb_fit (w : Nat) (h1w : 1 ≤ w) (h2w : w ≤ 32) (a : Dg) (fa : fitB w a = true) (n i : Nat) (p : List Dg) : fitB w (rclimb w a i n p).1 = true := by
  by_cases h1 : n ≤ 1
  · rw [rclimb_one _ _ _ _ _ h1]; exact fa
  rcases List.eq_nil_or_concat p with rfl | ⟨p', l, rfl⟩
  · rw [rclimb_nil _ _ _ _ (by omega)]; exact fa
  simp only [List.concat_eq_append]
  by_cases hk : i < halfN n
  · rw [rclimb_left _ _ _ _ _ _ (by omega) hk]; exact fit_knot w _ _ h1w h2w
  · rw [rclimb_right _ _ _ _ _ _ (by omega) hk]; exact fit_knot w _ _ h1w h2w
/-- two knots of one digest that are unlike -/
def Uneq (w : Nat) (xa xb ya yb : Dg) : Prop :=
  (xa.length = 32 ∧ xb.length = 32 ∧ ya.length = 32 ∧ yb.length = 32) ∧ (fitB w xa = true ∧ fitB w xb = true ∧ fitB w ya = true ∧ fitB w yb = true) ∧ xa ++ xb ≠ ya ++ yb ∧ knotD w xa xb = knotD w ya yb
theorem climb_ne (w : Nat) (h1w : 1 ≤ w) (h2w : w ≤ 32) (a b : Dg) (ha : a.length = 32) (hb : b.length = 32) (hab : a ≠ b) (fa : fitB w a = true) (fb : fitB w b = true) : ∀ (n i : Nat) (p q : List Dg), All32 p → All32 q → AllFit w p → AllFit w q → (rclimb w a i n p).2.2 = true → (rclimb w b i n q).2.2 = true → (rclimb w a i n p).1 = (rclimb w b i n q).1 →
    ∃ (k : Nat) (xa xb ya yb : Dg), (rclimb w a i n p).2.1[k]? = some (xa ++ xb) ∧ (rclimb w b i n q).2.1[k]? = some (ya ++ yb) ∧ Uneq w xa xb ya yb ∧ ∀ j, k < j → (rclimb w a i n p).2.1[j]? = (rclimb w b i n q).2.1[j]? := by
  intro n
  induction n using Nat.strongRecOn with
  | _ n ih =>
    intro i p q lp lq fp fq hp hq hd
    by_cases h1 : n ≤ 1
    · rw [rclimb_one _ _ _ _ _ h1, rclimb_one _ _ _ _ _ h1] at hd
      exact absurd hd hab
    have hs := half_spec (n := n) (by omega)
    rcases List.eq_nil_or_concat p with rfl | ⟨p', l, rfl⟩
    · rw [rclimb_nil _ _ _ _ (by omega)] at hp; cases hp
    rcases List.eq_nil_or_concat q with rfl | ⟨q', m, rfl⟩
    · rw [rclimb_nil _ _ _ _ (by omega)] at hq; cases hq
    simp only [List.concat_eq_append] at lp lq fp fq hp hq hd ⊢
    have ll : l.length = 32 := lp l (by simp)
    have lm : m.length = 32 := lq m (by simp)
    have fl : fitB w l = true := fp l (by simp)
    have fm : fitB w m = true := fq m (by simp)
    have lp' : All32 p' := fun d hd => lp d (by simp [hd])
    have lq' : All32 q' := fun d hd => lq d (by simp [hd])
    have fp' : AllFit w p' := fun d hd => fp d (by simp [hd])
    have fq' : AllFit w q' := fun d hd => fq d (by simp [hd])
    by_cases hk : i < halfN n
    · rw [rclimb_left _ _ _ _ _ _ (by omega) hk] at hp hd ⊢
      rw [rclimb_left _ _ _ _ _ _ (by omega) hk] at hq hd ⊢
      simp only at hp hq hd ⊢
      have hlen := rclimb_len w a b (halfN n) i p' q' hp hq
      have sa := (rclimb_shape w a ha (halfN n) i p' lp').1
      have sb := (rclimb_shape w b hb (halfN n) i q' lq').1
      by_cases he : (rclimb w a i (halfN n) p').1 ++ l = (rclimb w b i (halfN n) q').1 ++ m
      · obtain ⟨e1, e2⟩ := List.append_inj he (by omega)
        obtain ⟨k, xa, xb, ya, yb, g1, g2, g3, g4⟩ := ih (halfN n) (by omega) i p' q' lp' lq' fp' fq' hp hq e1
        have hkl : k < (rclimb w a i (halfN n) p').2.1.length := by
          rcases Nat.lt_or_ge k (rclimb w a i (halfN n) p').2.1.length with h | h
          · exact h
          · rw [List.getElem?_eq_none h] at g1; cases g1
        refine ⟨k, xa, xb, ya, yb, by rw [List.getElem?_append_left hkl]; exact g1, by rw [List.getElem?_append_left (by omega)]; exact g2, g3, fun j hj => ?_⟩
        rw [he]
        rcases Nat.lt_or_ge j (rclimb w a i (halfN n) p').2.1.length with h | h
        · rw [List.getElem?_append_left h, List.getElem?_append_left (by omega)]; exact g4 j hj
        · rw [List.getElem?_append_right h, List.getElem?_append_right (by omega), hlen]
      · refine ⟨(rclimb w a i (halfN n) p').2.1.length, _, l, _, m, by rw [List.getElem?_append_right (Nat.le_refl _), Nat.sub_self]; rfl, by rw [hlen, List.getElem?_append_right (Nat.le_refl _), Nat.sub_self]; rfl, ⟨⟨sa, ll, sb, lm⟩, ⟨rclimb_fit w h1w h2w a fa _ _ _, fl, rclimb_fit w h1w h2w b fb _ _ _, fm⟩, he, hd⟩, fun j hj => ?_⟩
        rw [List.getElem?_eq_none (by simp; omega), List.getElem?_eq_none (by simp; omega)]
    · rw [rclimb_right _ _ _ _ _ _ (by omega) hk] at hp hd ⊢
      rw [rclimb_right _ _ _ _ _ _ (by omega) hk] at hq hd ⊢
      simp only at hp hq hd ⊢
      have hlen := rclimb_len w a b (n - halfN n) (i - halfN n) p' q' hp hq
      have sa := (rclimb_shape w a ha (n - halfN n) (i - halfN n) p' lp').1
      have sb := (rclimb_shape w b hb (n - halfN n) (i - halfN n) q' lq').1
      by_cases he : l ++ (rclimb w a (i - halfN n) (n - halfN n) p').1 = m ++ (rclimb w b (i - halfN n) (n - halfN n) q').1
      · obtain ⟨e1, e2⟩ := List.append_inj he (by omega)
        obtain ⟨k, xa, xb, ya, yb, g1, g2, g3, g4⟩ := ih (n - halfN n) (by omega) (i - halfN n) p' q' lp' lq' fp' fq' hp hq e2
        have hkl : k < (rclimb w a (i - halfN n) (n - halfN n) p').2.1.length := by
          rcases Nat.lt_or_ge k (rclimb w a (i - halfN n) (n - halfN n) p').2.1.length with h | h
          · exact h
          · rw [List.getElem?_eq_none h] at g1; cases g1
        refine ⟨k, xa, xb, ya, yb, by rw [List.getElem?_append_left hkl]; exact g1, by rw [List.getElem?_append_left (by omega)]; exact g2, g3, fun j hj => ?_⟩
        rw [he]
        rcases Nat.lt_or_ge j (rclimb w a (i - halfN n) (n - halfN n) p').2.1.length with h | h
        · rw [List.getElem?_append_left h, List.getElem?_append_left (by omega)]; exact g4 j hj
        · rw [List.getElem?_append_right h, List.getElem?_append_right (by omega), hlen]
      · refine ⟨(rclimb w a (i - halfN n) (n - halfN n) p').2.1.length, l, _, m, _, by rw [List.getElem?_append_right (Nat.le_refl _), Nat.sub_self]; rfl, by rw [hlen, List.getElem?_append_right (Nat.le_refl _), Nat.sub_self]; rfl, ⟨⟨ll, sa, lm, sb⟩, ⟨fl, rclimb_fit w h1w h2w a fa _ _ _, fm, rclimb_fit w h1w h2w b fb _ _ _⟩, he, hd⟩, fun j hj => ?_⟩
        rw [List.getElem?_eq_none (by simp; omega), List.getElem?_eq_none (by simp; omega)]
/-- a digest that fits is known by its first bytes -/
theorem fit_take {w : Nat} {x y : Dg} (h1w : 1 ≤ w) (h2w : w ≤ 32) (hx : fitB w x = true) (hy : fitB w y = true) (h : x.take w = y.take w) : x = y := by
  have hw : wideB (w : Int) = true := by simp [wideB]; omega
  unfold fitB cutL at hx hy
  rw [hw] at hx hy
  simp only [cond_true, Int.toNat_natCast] at hx hy
  have e1 := eq_of_beq hx
  have e2 := eq_of_beq hy
  rw [← e1, ← e2]
  unfold lay32
  rw [h]
theorem knotT_inj {w : Nat} {xa xb ya yb : Dg} (h1w : 1 ≤ w) (h2w : w ≤ 32) (hl : xa.length = 32 ∧ xb.length = 32 ∧ ya.length = 32 ∧ yb.length = 32) (hf : fitB w xa = true ∧ fitB w xb = true ∧ fitB w ya = true ∧ fitB w yb = true) (h : textL knotTag [bsOf (xa.take w), bsOf (xb.take w)] = textL knotTag [bsOf (ya.take w), bsOf (yb.take w)]) : xa = ya ∧ xb = yb := by
  obtain ⟨l1, l2, l3, l4⟩ := hl
  obtain ⟨f1, f2, f3, f4⟩ := hf
  unfold textL at h
  have h2 := List.append_cancel_left (List.cons.inj h).2
  simp only [List.flatMap_cons, List.flatMap_nil, List.append_nil] at h2
  have z : ∀ d : Dg, d.length = 32 → partL (bsOf (d.take w)) = be 4 w ++ d.take w := fun d hd => by
    unfold partL
    have e : (bsOf (d.take w)).size = w := by
      show (d.take w).toArray.size = w
      rw [List.size_toArray, List.length_take]; omega
    rw [e]
    rfl
  rw [z _ l1, z _ l2, z _ l3, z _ l4] at h2
  obtain ⟨h3, h4⟩ := List.append_inj h2 (by simp [List.length_take]; omega)
  exact ⟨fit_take h1w h2w f1 f3 (List.append_cancel_left h3), fit_take h1w h2w f2 f4 (List.append_cancel_left h4)⟩
theorem Uneq.text {w : Nat} {xa xb ya yb : Dg} (h1w : 1 ≤ w) (h2w : w ≤ 32) (h : Uneq w xa xb ya yb) : ((knotT w xa xb).toList == (knotT w ya yb).toList) = false := by
  obtain ⟨hl, hf, hn, _⟩ := h
  refine beq_eq_false_iff_ne.2 (fun e => hn ?_)
  have e2 : textL knotTag [bsOf (xa.take w), bsOf (xb.take w)] = textL knotTag [bsOf (ya.take w), bsOf (yb.take w)] := by
    have := congrArg (fun l : List UInt8 => l) e
    simpa [knotT, ByteArray.toList_eq] using this
  obtain ⟨e3, e4⟩ := knotT_inj h1w h2w hl hf e2
  rw [e3, e4]
theorem Uneq.clash {w : Nat} {xa xb ya yb : Dg} (h1w : 1 ≤ w) (h2w : w ≤ 32) (h : Uneq w xa xb ya yb) : clashB w (knotT w xa xb) (knotT w ya yb) = true := by
  have hw : wideB (w : Int) = true := by simp [wideB]; omega
  unfold clashB
  rw [h.text h1w h2w, hw, knotD_of w xa xb hw, knotD_of w ya yb hw, h.2.2.2]
  simp
/-! ### what Unlike answers -/
def unB (n : Int) (s : Nat) (hd : Dg) (i : Nat) (a b : Dg) (p q : List Dg) : Bool := !(a == b) && holdsB n s hd i a p && holdsB n s hd i b q
structure UnY (wd s i : Nat) (a b : Dg) (p q : List Dg) (k : Nat) (xa xb ya yb : Dg) : Prop where
  w1 : 1 ≤ wd
  w2 : wd ≤ 32
  his : i < s
  hs : s ≤ 1048576
  ok1 : (rclimb wd a i s p).2.2 = true
  ok2 : (rclimb wd b i s q).2.2 = true
  e1 : (rclimb wd a i s p).2.1[k]? = some (xa ++ xb)
  e2 : (rclimb wd b i s q).2.1[k]? = some (ya ++ yb)
  ne : Uneq wd xa xb ya yb
  tail : ∀ j, k < j → (rclimb wd a i s p).2.1[j]? = (rclimb wd b i s q).2.1[j]?
abbrev UnRes := ByteArray × ByteArray × Nat
def UnS (n : Int) (s : Nat) (hd : Dg) (i : Nat) (a b : Dg) (p q : List Dg) (R : UnRes) : Prop :=
  (unB n s hd i a b p q = false ∧ R = (⟨#[]⟩, ⟨#[]⟩, 191)) ∨
  (unB n s hd i a b p q = true ∧ ∃ (wd k : Nat) (xa xb ya yb : Dg), n = (wd : Int) ∧ UnY wd s i a b p q k xa xb ya yb ∧ R = (knotT wd xa xb, knotT wd ya yb, 0))
theorem holds_climb {n : Int} {s : Nat} {hd : Dg} {i : Nat} {a : Dg} {p : List Dg} (h : holdsB n s hd i a p = true) :
    ∃ wd : Nat, n = (wd : Int) ∧ 1 ≤ wd ∧ wd ≤ 32 ∧ fitB wd a = true ∧ AllFit wd p ∧ i < s ∧ s ≤ 1048576 ∧ (rclimb wd a i s p).2.2 = true ∧ (rclimb wd a i s p).1 = hd := by
  unfold holdsB at h
  rw [climb_same] at h
  simp only [Bool.and_eq_true, decide_eq_true_eq, beq_iff_eq] at h
  obtain ⟨⟨⟨⟨⟨hw, hf⟩, hp⟩, hi⟩, hs⟩, hok, hdd⟩ := h
  have hw2 := hw
  simp only [wideB, Bool.and_eq_true, decide_eq_true_eq] at hw2
  obtain ⟨wd, rfl⟩ : ∃ wd : Nat, n = (wd : Int) := ⟨n.toNat, by omega⟩
  rw [Int.toNat_natCast] at hok hdd
  unfold fitsL at hf hp
  rw [List.all_eq_true] at hf hp
  exact ⟨wd, rfl, by omega, by omega, hf a (by simp), hp, hi, hs, hok, hdd⟩
theorem unS_any (n : Int) (s : Nat) (hd : Dg) (i : Nat) (a b : Dg) (p q : List Dg) (ha : a.length = 32) (hb : b.length = 32) (hp : All32 p) (hq : All32 q) : ∃ R, UnS n s hd i a b p q R := by
  cases h : unB n s hd i a b p q with
  | false => exact ⟨_, .inl ⟨h, rfl⟩⟩
  | true =>
    have h2 := h
    simp only [unB, Bool.and_eq_true, Bool.not_eq_true', beq_eq_false_iff_ne] at h2
    obtain ⟨⟨hab, h3⟩, h4⟩ := h2
    obtain ⟨wd, rfl, w1, w2, fa, fp, hi, hs, ok1, d1⟩ := holds_climb h3
    obtain ⟨wd', e, _, _, fb, fq, _, _, ok2, d2⟩ := holds_climb h4
    obtain rfl : wd = wd' := by omega
    obtain ⟨k, xa, xb, ya, yb, e1, e2, hne, ht⟩ := climb_ne wd w1 w2 a b ha hb hab fa fb s i p q hp hq fp fq ok1 ok2 (by rw [d1, d2])
    exact ⟨_, .inr ⟨h, wd, k, xa, xb, ya, yb, rfl, ⟨w1, w2, hi, hs, ok1, ok2, e1, e2, hne, ht⟩, rfl⟩⟩
theorem UnS.clash {n : Int} {s : Nat} {hd : Dg} {i : Nat} {a b : Dg} {p q : List Dg} {R : UnRes} (h : UnS n s hd i a b p q R) (h0 : R.2.2 = 0) : clashB n R.1 R.2.1 = true := by
  rcases h with ⟨_, rfl⟩ | ⟨_, wd, k, xa, xb, ya, yb, rfl, hy, rfl⟩
  · cases h0
  · exact hy.ne.clash hy.w1 hy.w2
end Go.Proofs.Ytihbhpggpnmifaa

namespace Go.Proofs.Ytihbhpggpnmifaa
open Go.RowKit Go.Lib Hw
set_option linter.unusedVariables false

theorem rowV_at64 : ∀ {xs : List Dg}, All64 xs → ∀ (i : Nat) (h : i < xs.length) (j : Nat), j < 64 → (rowV xs)[i * 64 + j]? = (xs[i].map bv)[j]?
  | d :: xs, hA, 0, h, j, hj => by
    have hd : (d.map bv).length = 64 := by rw [List.length_map]; exact hA d (List.mem_cons_self ..)
    show (d.map bv ++ rowV xs)[0 * 64 + j]? = _
    rw [List.getElem?_append_left (by omega), Nat.zero_mul, Nat.zero_add]
    rfl
  | d :: xs, hA, i + 1, h, j, hj => by
    have hd : (d.map bv).length = 64 := by rw [List.length_map]; exact hA d (List.mem_cons_self ..)
    have e : (i + 1) * 64 + j = 64 + (i * 64 + j) := by omega
    show (d.map bv ++ rowV xs)[(i + 1) * 64 + j]? = _
    rw [e, List.getElem?_append_right (by omega)]
    have e2 : 64 + (i * 64 + j) - (d.map bv).length = i * 64 + j := by omega
    rw [e2, rowV_at64 (fun x hx => hA x (List.mem_cons_of_mem _ hx)) i (by simpa using h) j hj]
    rfl
theorem row64_range {w : World} {t : TypeId} {B g n cap : Nat} {xs : List Dg} (h : w.ownsRow B t 64 (.slice (some ⟨g, 0, none⟩) n cap) xs.length (rowV xs)) (hA : All64 xs) (i : Nat) (hi : i < xs.length) : w.rangeAt g (i * 64) (xs[i].map bv) := by
  intro j v hv
  have hj : j < 64 := by
    rcases Nat.lt_or_ge j (xs[i].map bv).length with h1 | h1
    · rw [List.length_map, hA _ (List.getElem_mem hi)] at h1; exact h1
    · rw [List.getElem?_eq_none h1] at hv; cases hv
  have h1 := World.ownsRow.cells (w := w) h (g := g) rfl (i * 64 + j) v (by rw [rowV_at64 hA i hi j hj]; exact hv)
  have hadd : (⟨g, 0, none⟩ : Addr).add (i * 64 + j) = ⟨g, i * 64 + j, none⟩ := by unfold Addr.add; split <;> simp_all
  rw [hadd] at h1
  exact h1
theorem row64_form {w : World} {t : TypeId} {B : Nat} {v : Value} {xs : List Dg} (h : w.ownsRow B t 64 v xs.length (rowV xs)) (hp : 0 < xs.length) : ∃ g cap, v = .slice (some ⟨g, 0, none⟩) xs.length cap := by
  rcases h.2 with ⟨_, h0⟩ | ⟨g, cap, cur, e, _⟩
  · omega
  · exact ⟨g, cap, e⟩
theorem OwnS.below {w w' : World} {B C : Nat} {v : Value} {xs : List Dg} (h : OwnS w B v xs) (hb : Below C w w') (hC : ∀ g, v.ownBlock = some g → g < C) : OwnS w' B v xs := h.heap (fun g hg => hb.block g (hC g hg))
theorem rng_left {w : World} {b o : Nat} {x y : Dg} (h : w.rangeAt b o ((x ++ y).map bv)) : w.rangeAt b o (x.map bv) := fun j v hv => h j v (by
  rw [List.map_append, List.getElem?_append_left (by
    rcases Nat.lt_or_ge j (x.map bv).length with h1 | h1
    · exact h1
    · rw [List.getElem?_eq_none h1] at hv; cases hv)]
  exact hv)
theorem rng_right {w : World} {b o : Nat} {x y : Dg} (hx : x.length = 32) (h : w.rangeAt b o ((x ++ y).map bv)) : w.rangeAt b (o + 32) (y.map bv) := fun j v hv => by
  have h1 := h (32 + j) v (by
    rw [List.map_append, List.getElem?_append_right (by rw [List.length_map]; omega), List.length_map, hx, Nat.add_sub_cancel_left]
    exact hv)
  rw [Nat.add_assoc]
  exact h1
theorem info_Pr : (Try.prog.info? 108).map (·.size) = some 64 := by kernel_rfl
theorem info_Qs : (Try.prog.info? 106).map (·.size) = some 64 := by kernel_rfl
theorem yieldsIf_loadPr {ops : Array Oper} {S : World → Prop} {op : Oper} {a : Act} (hw : Region.wanted op (yielded ops a.tmps) = true) (x : Operand) (ho : op.op = .load 108 x) (b off : Nat) (hx : a.eval x = .pointer (some ⟨b, off, none⟩)) (m : Dg) (hm : m.length = 64) (hd : ∀ W, S W → W.rangeAt b off (m.map bv)) :
    YieldsIf Try.prog ops S op (dv m) a :=
  have hml : (m.map bv).length = 64 := by rw [List.length_map, hm]
  yieldsIf_load_mid hw 108 x ho b off hx (m.map bv) _ (fun W h => hd W h) Try.underlying108 rfl (info_Pr.trans (congrArg some hml.symm))
theorem yieldsIf_loadQ {ops : Array Oper} {S : World → Prop} {op : Oper} {a : Act} (hw : Region.wanted op (yielded ops a.tmps) = true) (x : Operand) (ho : op.op = .load 106 x) (b off : Nat) (hx : a.eval x = .pointer (some ⟨b, off, none⟩)) (m : Dg) (hm : m.length = 64) (hd : ∀ W, S W → W.rangeAt b off (m.map bv)) :
    YieldsIf Try.prog ops S op (dv m) a :=
  have hml : (m.map bv).length = 64 := by rw [List.length_map, hm]
  yieldsIf_load_mid hw 106 x ho b off hx (m.map bv) _ (fun W h => hd W h) Try.underlying106 rfl (info_Qs.trans (congrArg some hml.symm))
theorem yieldsIf_loadHd {ops : Array Oper} {a : Act} {S : World → Prop} {op : Oper} (hw : Region.wanted op (yielded ops a.tmps) = true) (x : Operand) (ho : op.op = .load 31 x) (b : Nat) (hx : a.eval x = .pointer (some ⟨b, 0, none⟩)) (s : Nat) (d : Dg) (hd : d.length = 32) (hS : ∀ W, S W → HB W b s d) :
    YieldsIf Try.prog ops S op (hv s d) a := yieldsIf_loadH hw x ho b 0 hx (s, d) hd (fun W h => range_all (cs := hcs s d) (hS W h))
/-- the boxes of a head and two digests -/
structure UB (w W : World) (N s : Nat) (hd a b : Dg) : Prop where
  bh : HB W N s hd
  ba : DB W (N + 1) a
  bb : DB W (N + 2) b
  bl : Below N w W
section
variable {w W W' : World} {N s : Nat} {hd a b : Dg}
theorem UB.big (h : UB w W N s hd a b) : N + 3 ≤ W.heap.size := heap_lt h.bb
theorem UB.low (h : UB w W N s hd a b) {k : Nat} (hb : Below k W W') (hk : N + 3 ≤ k) : UB w W' N s hd a b :=
  ⟨heap_below h.bh hb (by omega), heap_below h.ba hb (by omega), heap_below h.bb hb (by omega), h.bl.trans (hb.mono (by omega))⟩
theorem UB.drew (h : UB w W N s hd a b) : UB w W.drew N s hd a b := h.low (k := W.heap.size) (Below.refl _ _).drew h.big
theorem UB.c0 (h : UB w W N s hd a b) : W.cell? ⟨N, 0, none⟩ = some (.int .u64 (s : Int)) := by rw [heap_cell h.bh]; rfl
end
theorem eqP64 (l m : Dg) (hl : l.length = 64) (hm : m.length = 64) : ∀ w, (binOp .eql 108 (dv l) (dv m)).run Try.prog w = .ok (.bool (l == m)) w := by
  have h := eqP (l.take 32) (l.drop 32) (m.take 32) (m.drop 32) (by rw [List.length_take]; omega) (by rw [List.length_drop]; omega) (by rw [List.length_take]; omega) (by rw [List.length_drop]; omega)
  rw [List.take_append_drop, List.take_append_drop] at h
  exact h
theorem neQ64 (l m : Dg) (hl : l.length = 64) (hm : m.length = 64) : ∀ w, (binOp .neq 106 (dv l) (dv m)).run Try.prog w = .ok (.bool (!(l == m))) w := by
  have h := neQ (l.take 32) (l.drop 32) (m.take 32) (m.drop 32) (by rw [List.length_take]; omega) (by rw [List.length_drop]; omega) (by rw [List.length_take]; omega) (by rw [List.length_drop]; omega)
  rw [List.take_append_drop, List.take_append_drop] at h
  exact h
/-- the two rows of pairs -/
structure UC (w W : World) (t : TypeId) (N B1 B2 g1 c1 : Nat) (XS : List Dg) (g2 c2 : Nat) (YS : List Dg) : Prop where
  x : W.ownsRow B1 t 64 (.slice (some ⟨g1, 0, none⟩) XS.length c1) XS.length (rowV XS)
  y : W.ownsRow B2 t 64 (.slice (some ⟨g2, 0, none⟩) YS.length c2) YS.length (rowV YS)
  ax : All64 XS
  ay : All64 YS
  bl : Below N w W
section
variable {w W W' : World} {t : TypeId} {N B1 B2 g1 c1 : Nat} {XS : List Dg} {g2 c2 : Nat} {YS : List Dg}
theorem row64_low {B : Nat} {v : Value} {xs : List Dg} (h : W.ownsRow B t 64 v xs.length (rowV xs)) (hb : Below W.heap.size W W') : W'.ownsRow B t 64 v xs.length (rowV xs) := by
  have hlt := World.ownsRow.lt h
  refine ⟨h.1, ?_⟩
  rcases h.2 with hn | ⟨g, cap, cur, rfl, hB, hg, r⟩
  · exact .inl hn
  · exact .inr ⟨g, cap, cur, rfl, hB, (hb.block g (hlt g rfl).2).trans hg, r⟩
theorem UC.low (h : UC w W t N B1 B2 g1 c1 XS g2 c2 YS) (hN : N ≤ W.heap.size) (hb : Below W.heap.size W W') : UC w W' t N B1 B2 g1 c1 XS g2 c2 YS :=
  ⟨row64_low h.x hb, row64_low h.y hb, h.ax, h.ay, h.bl.trans (hb.mono hN)⟩
theorem UC.big (h : UC w W t N B1 B2 g1 c1 XS g2 c2 YS) (hN : w.heap.size = N) : N ≤ W.heap.size := by have := h.bl.size; omega
theorem UC.rx (h : UC w W t N B1 B2 g1 c1 XS g2 c2 YS) (j : Nat) (X : Dg) (hj : XS[j]? = some X) : W.rangeAt g1 (j * 64) (X.map bv) := by
  obtain ⟨hl, rfl⟩ := List.getElem?_eq_some_iff.1 hj
  exact row64_range h.x h.ax j hl
theorem UC.ry (h : UC w W t N B1 B2 g1 c1 XS g2 c2 YS) (j : Nat) (Y : Dg) (hj : YS[j]? = some Y) : W.rangeAt g2 (j * 64) (Y.map bv) := by
  obtain ⟨hl, rfl⟩ := List.getElem?_eq_some_iff.1 hj
  exact row64_range h.y h.ay j hl
end
end Go.Proofs.Ytihbhpggpnmifaa

namespace Go.Proofs.Ytihbhpggpnmifaa
open Go.RowKit Go.Lib Hw
set_option linter.unusedVariables false

set_option maxRecDepth 20000 in
set_option maxHeartbeats 16000000 in
theorem Unlike_any (n : Int) (s i : Nat) (hd a b : Dg) (vp vq : Value) (p q : List Dg) (w : World) (R : UnRes) (hR : UnS n s hd i a b p q R) (hdl : Hid (hd.length = 32)) (hal : Hid (a.length = 32)) (hbl : Hid (b.length = 32))
    (hp : Hid (DRow w w.heap.size vp p)) (hq : Hid (DRow w w.heap.size vq q)) (hs : s < 18446744073709551616) (hi : i < 18446744073709551616) :
    Calls Try.prog 33 #[.int .i64 n, hv s hd, .int .u64 (i : Int), dv a, dv b, vp, vq] w fun e w' => e = .returned (.tuple #[.string R.1, .string R.2.1, .int .i64 (R.2.2 : Int)]) ∧ Below w.heap.size w w' := by
  obtain ⟨X, Y, E⟩ := R
  have HR := Lib.hid hR
  clear hR
  obtain ⟨N, hN⟩ : ∃ N, w.heap.size = N := ⟨_, rfl⟩
  rw [hN] at hp hq
  rw [hN]
  have HN := Lib.hid hN
  obtain ⟨Q, hQ⟩ : ∃ Q, (a == b) = Q := ⟨_, rfl⟩
  obtain ⟨H1, hH1⟩ : ∃ x, holdsB n s hd i a p = x := ⟨_, rfl⟩
  obtain ⟨H2, hH2⟩ : ∃ x, holdsB n s hd i b q = x := ⟨_, rfl⟩
  have hno : Hid ((!Q && H1 && H2) = false → (X, Y, E) = ((⟨#[]⟩, ⟨#[]⟩, 191) : UnRes)) := fun h => by
    rcases HR.out with ⟨_, e⟩ | ⟨e, _⟩
    · exact e
    · unfold unB at e
      rw [hQ, hH1, hH2, h] at e
      cases e
  have hyes : Hid ((!Q && H1 && H2) = true → ∃ (wd k : Nat) (xa xb ya yb : Dg), n = (wd : Int) ∧ UnY wd s i a b p q k xa xb ya yb ∧ (X, Y, E) = ((knotT wd xa xb, knotT wd ya yb, 0) : UnRes)) := fun h => by
    rcases HR.out with ⟨e, _⟩ | ⟨_, e⟩
    · unfold unB at e
      rw [hQ, hH1, hH2, h] at e
      cases e
    · exact e
  have HQ := Lib.hid hQ
  have HH1 := Lib.hid hH1
  have HH2 := Lib.hid hH2
  have hq0 := eqD a b hal.out hbl.out
  rw [hQ] at hq0
  have hqg := eqGuardD a b
  clear HR hN hQ hH1 hH2
  cases Q
  case true =>
    have hres := hno.out rfl
    simp only [Prod.mk.injEq] at hres
    obtain ⟨rfl, rfl, rfl⟩ := hres
    clear hno hyes HQ HH1 HH2
    go_enter Try.func33, Try.ntmps33
    go_upto_region 0 with fail
    with_reducible refine wp_region_list ?_
    refine wpList_boxB rfl _ _ rfl N HN.out (hcs s hd).toArray rfl ?_
    intro w0 e0 b0 z0
    (try simp only [Act.put, nA, nB, nC])
    refine wpList_boxD rfl _ rfl a rfl (N + 1) z0 ?_
    intro w1 e1 b1 z1
    (try simp only [Act.put, nA, nB, nC])
    refine wpList_boxD rfl _ rfl b rfl (N + 2) z1 ?_
    intro w2 e2 b2 z2
    (try simp only [Act.put, nA, nB, nC])
    with_reducible refine wpList_plain rfl ?_
    intro K hK
    go_simp
    first | with_reducible refine hK _ _ ?_ | refine hK _ _ ?_
    clear hK K
    (try simp only [Act.put, nA, nB, nC])
    with_reducible refine wpList_plain rfl ?_
    intro K hK
    go_simp
    first | with_reducible refine hK _ _ ?_ | refine hK _ _ ?_
    clear hK K
    (try simp only [Act.put, nA, nB, nC])
    with_reducible refine wpList_plain rfl ?_
    intro K hK
    go_simp
    first | with_reducible refine hK _ _ ?_ | refine hK _ _ ?_
    clear hK K
    (try simp only [Act.put, nA, nB, nC])
    have F : Hid (UB w w2 N s hd a b) := ⟨heap_below (heap_below e0 b1 (by omega)) b2 (by omega), heap_below e1 b2 (by omega), e2, (b0.trans (b1.mono (by omega))).trans (b2.mono (by omega))⟩
    clear e0 b0 z0 e1 b1 z1 e2 b2 z2
    have P2 := hp.out.low F.out.bl (by rw [HN.out]; exact Nat.le_refl _)
    have hbig := F.out.big
    have DP : Hid (DRow w2 w2.heap.size vp p) := Lib.hid (P2.mono (lim' := w2.heap.size) (by omega))
    clear P2
    go_upto_region 1 with fail
    with_reducible refine wp_region_list ?_
    refine wpList_loadD rfl _ rfl (N + 1) rfl a hal.out F.out.ba ?_
    (try simp only [Act.put, nA, nB, nC])
    refine wpList_loadD rfl _ rfl (N + 2) rfl b hbl.out F.out.bb ?_
    (try simp only [Act.put, nA, nB, nC])
    with_reducible refine wpList_plain rfl ?_
    intro K hK
    go_simp
    first | with_reducible refine hK _ _ ?_ | refine hK _ _ ?_
    clear hK K
    (try simp only [Act.put, nA, nB, nC])
    with_reducible refine wpList_plain rfl ?_
    intro K hK
    go_simp
    first | with_reducible refine hK _ _ ?_ | refine hK _ _ ?_
    clear hK K
    (try simp only [Act.put, nA, nB, nC])
    clear hq0 hqg
    with_reducible refine wpList_step ?_
    intro K hK
    rw [if_neg (Bool.eq_false_iff.1 (by rfl))]
    first | with_reducible refine hK _ _ ?_ | refine hK _ _ ?_
    clear hK K
    (try simp only [Act.put, nA, nB, nC])
    with_reducible refine wpList_step ?_
    intro K hK
    rw [if_neg (Bool.eq_false_iff.1 (by rfl))]
    first | with_reducible refine hK _ _ ?_ | refine hK _ _ ?_
    clear hK K
    (try simp only [Act.put, nA, nB, nC])
    with_reducible refine wpList_step ?_
    intro K hK
    rw [if_neg (Bool.eq_false_iff.1 (by rfl))]
    first | with_reducible refine hK _ _ ?_ | refine hK _ _ ?_
    clear hK K
    (try simp only [Act.put, nA, nB, nC])
    with_reducible refine wpList_step ?_
    intro K hK
    rw [if_neg (Bool.eq_false_iff.1 (by rfl))]
    first | with_reducible refine hK _ _ ?_ | refine hK _ _ ?_
    clear hK K
    (try simp only [Act.put, nA, nB, nC])
    with_reducible refine wpList_step ?_
    intro K hK
    rw [if_neg (Bool.eq_false_iff.1 (by rfl))]
    first | with_reducible refine hK _ _ ?_ | refine hK _ _ ?_
    clear hK K
    (try simp only [Act.put, nA, nB, nC])
    with_reducible refine wpList_step ?_
    intro K hK
    rw [if_neg (Bool.eq_false_iff.1 (by rfl))]
    first | with_reducible refine hK _ _ ?_ | refine hK _ _ ?_
    clear hK K
    (try simp only [Act.put, nA, nB, nC])
    with_reducible refine wpList_step ?_
    intro K hK
    rw [if_neg (Bool.eq_false_iff.1 (by rfl))]
    first | with_reducible refine hK _ _ ?_ | refine hK _ _ ?_
    clear hK K
    (try simp only [Act.put, nA, nB, nC])
    with_reducible refine wpList_plain rfl ?_
    intro K hK
    go_simp
    first | with_reducible refine hK _ _ ?_ | refine hK _ _ ?_
    clear hK K
    (try simp only [Act.put, nA, nB, nC])
    with_reducible refine wpList_plain rfl ?_
    intro K hK
    go_simp
    first | with_reducible refine hK _ _ ?_ | refine hK _ _ ?_
    clear hK K
    (try simp only [Act.put, nA, nB, nC])
    with_reducible refine wpList_step ?_
    intro K hK
    rw [if_neg (Bool.eq_false_iff.1 (by rfl))]
    first | with_reducible refine hK _ _ ?_ | refine hK _ _ ?_
    clear hK K
    (try simp only [Act.put, nA, nB, nC])
    with_reducible refine wpList_step ?_
    intro K hK
    rw [if_neg (Bool.eq_false_iff.1 (by rfl))]
    first | with_reducible refine hK _ _ ?_ | refine hK _ _ ?_
    clear hK K
    (try simp only [Act.put, nA, nB, nC])
    with_reducible refine wpList_step ?_
    intro K hK
    rw [if_neg (Bool.eq_false_iff.1 (by rfl))]
    first | with_reducible refine hK _ _ ?_ | refine hK _ _ ?_
    clear hK K
    (try simp only [Act.put, nA, nB, nC])
    with_reducible refine wpList_step ?_
    intro K hK
    rw [if_neg (Bool.eq_false_iff.1 (by rfl))]
    first | with_reducible refine hK _ _ ?_ | refine hK _ _ ?_
    clear hK K
    (try simp only [Act.put, nA, nB, nC])
    with_reducible refine wpList_step ?_
    intro K hK
    rw [if_neg (Bool.eq_false_iff.1 (by rfl))]
    first | with_reducible refine hK _ _ ?_ | refine hK _ _ ?_
    clear hK K
    (try simp only [Act.put, nA, nB, nC])
    with_reducible refine wpList_step ?_
    intro K hK
    rw [if_neg (Bool.eq_false_iff.1 (by rfl))]
    first | with_reducible refine hK _ _ ?_ | refine hK _ _ ?_
    clear hK K
    (try simp only [Act.put, nA, nB, nC])
    with_reducible refine wpList_step ?_
    intro K hK
    rw [if_neg (Bool.eq_false_iff.1 (by rfl))]
    first | with_reducible refine hK _ _ ?_ | refine hK _ _ ?_
    clear hK K
    (try simp only [Act.put, nA, nB, nC])
    with_reducible refine wpList_plain rfl ?_
    intro K hK
    go_simp
    first | with_reducible refine hK _ _ ?_ | refine hK _ _ ?_
    clear hK K
    (try simp only [Act.put, nA, nB, nC])
    go_wp2_with fail
    go_ret3
    exact ⟨rfl, F.out.bl⟩
  case false =>
    cases H1
    case false =>
      have hres := hno.out rfl
      simp only [Prod.mk.injEq] at hres
      obtain ⟨rfl, rfl, rfl⟩ := hres
      clear hno hyes HQ HH2
      go_enter Try.func33, Try.ntmps33
      go_upto_region 0 with fail
      with_reducible refine wp_region_list ?_
      refine wpList_boxB rfl _ _ rfl N HN.out (hcs s hd).toArray rfl ?_
      intro w0 e0 b0 z0
      (try simp only [Act.put, nA, nB, nC])
      refine wpList_boxD rfl _ rfl a rfl (N + 1) z0 ?_
      intro w1 e1 b1 z1
      (try simp only [Act.put, nA, nB, nC])
      refine wpList_boxD rfl _ rfl b rfl (N + 2) z1 ?_
      intro w2 e2 b2 z2
      (try simp only [Act.put, nA, nB, nC])
      with_reducible refine wpList_plain rfl ?_
      intro K hK
      go_simp
      first | with_reducible refine hK _ _ ?_ | refine hK _ _ ?_
      clear hK K
      (try simp only [Act.put, nA, nB, nC])
      with_reducible refine wpList_plain rfl ?_
      intro K hK
      go_simp
      first | with_reducible refine hK _ _ ?_ | refine hK _ _ ?_
      clear hK K
      (try simp only [Act.put, nA, nB, nC])
      with_reducible refine wpList_plain rfl ?_
      intro K hK
      go_simp
      first | with_reducible refine hK _ _ ?_ | refine hK _ _ ?_
      clear hK K
      (try simp only [Act.put, nA, nB, nC])
      have F : Hid (UB w w2 N s hd a b) := ⟨heap_below (heap_below e0 b1 (by omega)) b2 (by omega), heap_below e1 b2 (by omega), e2, (b0.trans (b1.mono (by omega))).trans (b2.mono (by omega))⟩
      clear e0 b0 z0 e1 b1 z1 e2 b2 z2
      have P2 := hp.out.low F.out.bl (by rw [HN.out]; exact Nat.le_refl _)
      have hbig := F.out.big
      have DP : Hid (DRow w2 w2.heap.size vp p) := Lib.hid (P2.mono (lim' := w2.heap.size) (by omega))
      clear P2
      go_upto_region 1 with fail
      with_reducible refine wp_region_list ?_
      refine wpList_loadD rfl _ rfl (N + 1) rfl a hal.out F.out.ba ?_
      (try simp only [Act.put, nA, nB, nC])
      refine wpList_loadD rfl _ rfl (N + 2) rfl b hbl.out F.out.bb ?_
      (try simp only [Act.put, nA, nB, nC])
      with_reducible refine wpList_plain rfl ?_
      intro K hK
      go_simp
      first | with_reducible refine hK _ _ ?_ | refine hK _ _ ?_
      clear hK K
      (try simp only [Act.put, nA, nB, nC])
      with_reducible refine wpList_plain rfl ?_
      intro K hK
      go_simp
      first | with_reducible refine hK _ _ ?_ | refine hK _ _ ?_
      clear hK K
      (try simp only [Act.put, nA, nB, nC])
      clear hq0 hqg
      with_reducible refine wpList_step ?_
      intro K hK
      rw [if_pos (by rfl)]
      go_simp
      first | with_reducible refine hK _ _ ?_ | refine hK _ _ ?_
      clear hK K
      (try simp only [Act.put, nA, nB, nC])
      set_option maxRecDepth 20000 in
      refine wpList_loadHG rfl _ rfl N rfl s hd hdl.out F.out.bh ?_
      (try simp only [Act.put, nA, nB, nC])
      with_reducible refine wpList_step ?_
      intro K hK
      rw [if_pos (by rfl)]
      go_simp
      first | with_reducible refine hK _ _ ?_ | refine hK _ _ ?_
      clear hK K
      (try simp only [Act.put, nA, nB, nC])
      set_option maxRecDepth 20000 in
      refine wpList_loadDg rfl _ rfl (N + 1) rfl a hal.out F.out.ba ?_
      (try simp only [Act.put, nA, nB, nC])
      with_reducible refine wpList_step ?_
      intro K hK
      rw [if_pos (by rfl)]
      go_simp
      first | with_reducible refine hK _ _ ?_ | refine hK _ _ ?_
      clear hK K
      (try simp only [Act.put, nA, nB, nC])
      with_reducible refine wpList_step ?_
      intro K hK
      rw [if_pos (by rfl)]
      go_simp
      refine (Holds_any _ s i hd a _ p w2 hdl hal DP hs hi).mono ?_; rintro e w3 ⟨rfl, hb3⟩; rw [HH1.out]
      first | with_reducible refine hK _ _ ?_ | refine hK _ _ ?_
      clear hK K
      (try simp only [Act.put, nA, nB, nC])
      have F3 := Lib.hid (F.out.low hb3 hbig)
      clear hb3 DP F
      with_reducible refine wpList_step ?_
      intro K hK
      rw [if_pos (by rfl)]
      go_simp
      first | with_reducible refine hK _ _ ?_ | refine hK _ _ ?_
      clear hK K
      (try simp only [Act.put, nA, nB, nC])
      with_reducible refine wpList_plain rfl ?_
      intro K hK
      go_simp
      first | with_reducible refine hK _ _ ?_ | refine hK _ _ ?_
      clear hK K
      (try simp only [Act.put, nA, nB, nC])
      with_reducible refine wpList_plain rfl ?_
      intro K hK
      go_simp
      first | with_reducible refine hK _ _ ?_ | refine hK _ _ ?_
      clear hK K
      (try simp only [Act.put, nA, nB, nC])
      with_reducible refine wpList_step ?_
      intro K hK
      rw [if_neg (Bool.eq_false_iff.1 (by rfl))]
      first | with_reducible refine hK _ _ ?_ | refine hK _ _ ?_
      clear hK K
      (try simp only [Act.put, nA, nB, nC])
      with_reducible refine wpList_step ?_
      intro K hK
      rw [if_neg (Bool.eq_false_iff.1 (by rfl))]
      first | with_reducible refine hK _ _ ?_ | refine hK _ _ ?_
      clear hK K
      (try simp only [Act.put, nA, nB, nC])
      with_reducible refine wpList_step ?_
      intro K hK
      rw [if_neg (Bool.eq_false_iff.1 (by rfl))]
      first | with_reducible refine hK _ _ ?_ | refine hK _ _ ?_
      clear hK K
      (try simp only [Act.put, nA, nB, nC])
      with_reducible refine wpList_step ?_
      intro K hK
      rw [if_neg (Bool.eq_false_iff.1 (by rfl))]
      first | with_reducible refine hK _ _ ?_ | refine hK _ _ ?_
      clear hK K
      (try simp only [Act.put, nA, nB, nC])
      with_reducible refine wpList_step ?_
      intro K hK
      rw [if_neg (Bool.eq_false_iff.1 (by rfl))]
      first | with_reducible refine hK _ _ ?_ | refine hK _ _ ?_
      clear hK K
      (try simp only [Act.put, nA, nB, nC])
      with_reducible refine wpList_step ?_
      intro K hK
      rw [if_neg (Bool.eq_false_iff.1 (by rfl))]
      first | with_reducible refine hK _ _ ?_ | refine hK _ _ ?_
      clear hK K
      (try simp only [Act.put, nA, nB, nC])
      with_reducible refine wpList_step ?_
      intro K hK
      rw [if_neg (Bool.eq_false_iff.1 (by rfl))]
      first | with_reducible refine hK _ _ ?_ | refine hK _ _ ?_
      clear hK K
      (try simp only [Act.put, nA, nB, nC])
      with_reducible refine wpList_plain rfl ?_
      intro K hK
      go_simp
      first | with_reducible refine hK _ _ ?_ | refine hK _ _ ?_
      clear hK K
      (try simp only [Act.put, nA, nB, nC])
      go_wp2_with fail
      go_ret3
      exact ⟨rfl, F3.out.bl⟩
    case true =>
      cases H2
      case false =>
        have hres := hno.out rfl
        simp only [Prod.mk.injEq] at hres
        obtain ⟨rfl, rfl, rfl⟩ := hres
        clear hno hyes HQ
        go_enter Try.func33, Try.ntmps33
        go_upto_region 0 with fail
        with_reducible refine wp_region_list ?_
        refine wpList_boxB rfl _ _ rfl N HN.out (hcs s hd).toArray rfl ?_
        intro w0 e0 b0 z0
        (try simp only [Act.put, nA, nB, nC])
        refine wpList_boxD rfl _ rfl a rfl (N + 1) z0 ?_
        intro w1 e1 b1 z1
        (try simp only [Act.put, nA, nB, nC])
        refine wpList_boxD rfl _ rfl b rfl (N + 2) z1 ?_
        intro w2 e2 b2 z2
        (try simp only [Act.put, nA, nB, nC])
        with_reducible refine wpList_plain rfl ?_
        intro K hK
        go_simp
        first | with_reducible refine hK _ _ ?_ | refine hK _ _ ?_
        clear hK K
        (try simp only [Act.put, nA, nB, nC])
        with_reducible refine wpList_plain rfl ?_
        intro K hK
        go_simp
        first | with_reducible refine hK _ _ ?_ | refine hK _ _ ?_
        clear hK K
        (try simp only [Act.put, nA, nB, nC])
        with_reducible refine wpList_plain rfl ?_
        intro K hK
        go_simp
        first | with_reducible refine hK _ _ ?_ | refine hK _ _ ?_
        clear hK K
        (try simp only [Act.put, nA, nB, nC])
        have F : Hid (UB w w2 N s hd a b) := ⟨heap_below (heap_below e0 b1 (by omega)) b2 (by omega), heap_below e1 b2 (by omega), e2, (b0.trans (b1.mono (by omega))).trans (b2.mono (by omega))⟩
        clear e0 b0 z0 e1 b1 z1 e2 b2 z2
        have P2 := hp.out.low F.out.bl (by rw [HN.out]; exact Nat.le_refl _)
        have hbig := F.out.big
        have DP : Hid (DRow w2 w2.heap.size vp p) := Lib.hid (P2.mono (lim' := w2.heap.size) (by omega))
        clear P2
        go_upto_region 1 with fail
        with_reducible refine wp_region_list ?_
        refine wpList_loadD rfl _ rfl (N + 1) rfl a hal.out F.out.ba ?_
        (try simp only [Act.put, nA, nB, nC])
        refine wpList_loadD rfl _ rfl (N + 2) rfl b hbl.out F.out.bb ?_
        (try simp only [Act.put, nA, nB, nC])
        with_reducible refine wpList_plain rfl ?_
        intro K hK
        go_simp
        first | with_reducible refine hK _ _ ?_ | refine hK _ _ ?_
        clear hK K
        (try simp only [Act.put, nA, nB, nC])
        with_reducible refine wpList_plain rfl ?_
        intro K hK
        go_simp
        first | with_reducible refine hK _ _ ?_ | refine hK _ _ ?_
        clear hK K
        (try simp only [Act.put, nA, nB, nC])
        clear hq0 hqg
        with_reducible refine wpList_step ?_
        intro K hK
        rw [if_pos (by rfl)]
        go_simp
        first | with_reducible refine hK _ _ ?_ | refine hK _ _ ?_
        clear hK K
        (try simp only [Act.put, nA, nB, nC])
        set_option maxRecDepth 20000 in
        refine wpList_loadHG rfl _ rfl N rfl s hd hdl.out F.out.bh ?_
        (try simp only [Act.put, nA, nB, nC])
        with_reducible refine wpList_step ?_
        intro K hK
        rw [if_pos (by rfl)]
        go_simp
        first | with_reducible refine hK _ _ ?_ | refine hK _ _ ?_
        clear hK K
        (try simp only [Act.put, nA, nB, nC])
        set_option maxRecDepth 20000 in
        refine wpList_loadDg rfl _ rfl (N + 1) rfl a hal.out F.out.ba ?_
        (try simp only [Act.put, nA, nB, nC])
        with_reducible refine wpList_step ?_
        intro K hK
        rw [if_pos (by rfl)]
        go_simp
        first | with_reducible refine hK _ _ ?_ | refine hK _ _ ?_
        clear hK K
        (try simp only [Act.put, nA, nB, nC])
        with_reducible refine wpList_step ?_
        intro K hK
        rw [if_pos (by rfl)]
        go_simp
        refine (Holds_any _ s i hd a _ p w2 hdl hal DP hs hi).mono ?_; rintro e w3 ⟨rfl, hb3⟩; rw [HH1.out]
        first | with_reducible refine hK _ _ ?_ | refine hK _ _ ?_
        clear hK K
        (try simp only [Act.put, nA, nB, nC])
        have F3 := Lib.hid (F.out.low hb3 hbig)
        clear hb3 DP F
        with_reducible refine wpList_step ?_
        intro K hK
        rw [if_pos (by rfl)]
        go_simp
        first | with_reducible refine hK _ _ ?_ | refine hK _ _ ?_
        clear hK K
        (try simp only [Act.put, nA, nB, nC])
        with_reducible refine wpList_plain rfl ?_
        intro K hK
        go_simp
        first | with_reducible refine hK _ _ ?_ | refine hK _ _ ?_
        clear hK K
        (try simp only [Act.put, nA, nB, nC])
        with_reducible refine wpList_plain rfl ?_
        intro K hK
        go_simp
        first | with_reducible refine hK _ _ ?_ | refine hK _ _ ?_
        clear hK K
        (try simp only [Act.put, nA, nB, nC])
        have hbig3 := F3.out.big
        have DQ : Hid (DRow w3 w3.heap.size vq q) := Lib.hid ((hq.out.low F3.out.bl (by rw [HN.out]; exact Nat.le_refl _)).mono (lim' := w3.heap.size) (by omega))
        with_reducible refine wpList_step ?_
        intro K hK
        rw [if_pos (by rfl)]
        go_simp
        first | with_reducible refine hK _ _ ?_ | refine hK _ _ ?_
        clear hK K
        (try simp only [Act.put, nA, nB, nC])
        set_option maxRecDepth 20000 in
        refine wpList_loadHG rfl _ rfl N rfl s hd hdl.out F3.out.bh ?_
        (try simp only [Act.put, nA, nB, nC])
        with_reducible refine wpList_step ?_
        intro K hK
        rw [if_pos (by rfl)]
        go_simp
        first | with_reducible refine hK _ _ ?_ | refine hK _ _ ?_
        clear hK K
        (try simp only [Act.put, nA, nB, nC])
        set_option maxRecDepth 20000 in
        refine wpList_loadDg rfl _ rfl (N + 2) rfl b hbl.out F3.out.bb ?_
        (try simp only [Act.put, nA, nB, nC])
        with_reducible refine wpList_step ?_
        intro K hK
        rw [if_pos (by rfl)]
        go_simp
        first | with_reducible refine hK _ _ ?_ | refine hK _ _ ?_
        clear hK K
        (try simp only [Act.put, nA, nB, nC])
        with_reducible refine wpList_step ?_
        intro K hK
        rw [if_pos (by rfl)]
        go_simp
        refine (Holds_any _ s i hd b _ q w3 hdl hbl DQ hs hi).mono ?_; rintro e w4 ⟨rfl, hb4⟩; rw [HH2.out]
        first | with_reducible refine hK _ _ ?_ | refine hK _ _ ?_
        clear hK K
        (try simp only [Act.put, nA, nB, nC])
        have F4 := Lib.hid (F3.out.low hb4 hbig3)
        clear hb4 DQ F3
        with_reducible refine wpList_step ?_
        intro K hK
        rw [if_pos (by rfl)]
        go_simp
        first | with_reducible refine hK _ _ ?_ | refine hK _ _ ?_
        clear hK K
        (try simp only [Act.put, nA, nB, nC])
        with_reducible refine wpList_plain rfl ?_
        intro K hK
        go_simp
        first | with_reducible refine hK _ _ ?_ | refine hK _ _ ?_
        clear hK K
        (try simp only [Act.put, nA, nB, nC])
        go_wp2_with fail
        go_ret3
        exact ⟨rfl, F4.out.bl⟩
      case true =>
        obtain ⟨wd, k, xa, xb, ya, yb, rfl, hy, hres⟩ := hyes.out rfl
        simp only [Prod.mk.injEq] at hres
        obtain ⟨rfl, rfl, rfl⟩ := hres
        clear hno hyes HQ
        have hok1 := rclimb_yes wd a s i p hy.ok1
        have hok2 := rclimb_yes wd b s i q hy.ok2
        have hsh1 := rclimb_shape wd a hal.out s i p hp.out.1
        have hsh2 := rclimb_shape wd b hbl.out s i q hq.out.1
        have hlen := rclimb_len wd a b s i p q hy.ok1 hy.ok2
        have hne := hy.ne
        have he1 := hy.e1
        have he2 := hy.e2
        have htl := hy.tail
        have hk1 := hy.ok1
        have hk2 := hy.ok2
        have hw1 := hy.w1
        have hw2 := hy.w2
        have his := hy.his
        have hss := hy.hs
        obtain ⟨K1, hK1⟩ : ∃ x, knotT wd xa xb = x := ⟨_, rfl⟩
        obtain ⟨K2, hK2⟩ : ∃ x, knotT wd ya yb = x := ⟨_, rfl⟩
        rw [hK1, hK2]
        have HKt1 := Lib.hid hK1
        have HKt2 := Lib.hid hK2
        clear hK1 hK2
        obtain ⟨⟨D1, XS, t1⟩, hX⟩ : ∃ r, rclimb wd a i s p = r := ⟨_, rfl⟩
        obtain ⟨⟨D2, YS, t2⟩, hY⟩ : ∃ r, rclimb wd b i s q = r := ⟨_, rfl⟩
        rw [hX] at hok1 hsh1 hlen he1 htl hk1
        rw [hY] at hok2 hsh2 hlen he2 htl hk2
        dsimp only at hok1 hok2 hsh1 hsh2 hlen he1 he2 htl hk1 hk2
        subst hk1
        subst hk2
        obtain ⟨M, hM⟩ : ∃ M, XS.length = M := ⟨_, rfl⟩
        have hkM : k < M := by rw [← hM]; exact (List.getElem?_eq_some_iff.1 he1).1
        have hM2 : YS.length = M := by rw [← hlen, hM]
        have hMs : M ≤ 1048576 := by have := hsh1.2.2; omega
        have hX0 : 0 < XS.length := by omega
        have hY0 : 0 < YS.length := by omega
        have HX := Lib.hid hX
        have HY := Lib.hid hY
        have HOk1 := Lib.hid hok1
        have HOk2 := Lib.hid hok2
        have HD1 : Hid (List.length D1 = 32) := hsh1.1
        have HD2 : Hid (List.length D2 = 32) := hsh2.1
        have HA1 : Hid (All64 XS) := hsh1.2.1
        have HA2 : Hid (All64 YS) := hsh2.2.1
        have HNe := Lib.hid hne
        have HE1 := Lib.hid he1
        have HE2 := Lib.hid he2
        have HTl := Lib.hid htl
        have HM1 := Lib.hid hM
        have HM2 := Lib.hid hM2
        have HX0 := Lib.hid hX0
        have HY0 := Lib.hid hY0
        have wi := IntWalk.i64_in (i : Int) (by omega)
        have wss := IntWalk.i64_in (s : Int) (by omega)
        clear hok1 hok2 hsh1 hsh2 hlen hne he1 he2 htl hX hY hM hM2 hy hX0 hY0
        go_enter Try.func33, Try.ntmps33
        go_upto_region 0 with fail
        with_reducible refine wp_region_list ?_
        refine wpList_boxB rfl _ _ rfl N HN.out (hcs s hd).toArray rfl ?_
        intro w0 e0 b0 z0
        (try simp only [Act.put, nA, nB, nC])
        refine wpList_boxD rfl _ rfl a rfl (N + 1) z0 ?_
        intro w1 e1 b1 z1
        (try simp only [Act.put, nA, nB, nC])
        refine wpList_boxD rfl _ rfl b rfl (N + 2) z1 ?_
        intro w2 e2 b2 z2
        (try simp only [Act.put, nA, nB, nC])
        with_reducible refine wpList_plain rfl ?_
        intro K hK
        go_simp
        first | with_reducible refine hK _ _ ?_ | refine hK _ _ ?_
        clear hK K
        (try simp only [Act.put, nA, nB, nC])
        with_reducible refine wpList_plain rfl ?_
        intro K hK
        go_simp
        first | with_reducible refine hK _ _ ?_ | refine hK _ _ ?_
        clear hK K
        (try simp only [Act.put, nA, nB, nC])
        with_reducible refine wpList_plain rfl ?_
        intro K hK
        go_simp
        first | with_reducible refine hK _ _ ?_ | refine hK _ _ ?_
        clear hK K
        (try simp only [Act.put, nA, nB, nC])
        have F : Hid (UB w w2 N s hd a b) := ⟨heap_below (heap_below e0 b1 (by omega)) b2 (by omega), heap_below e1 b2 (by omega), e2, (b0.trans (b1.mono (by omega))).trans (b2.mono (by omega))⟩
        clear e0 b0 z0 e1 b1 z1 e2 b2 z2
        have P2 := hp.out.low F.out.bl (by rw [HN.out]; exact Nat.le_refl _)
        have hbig := F.out.big
        have DP : Hid (DRow w2 w2.heap.size vp p) := Lib.hid (P2.mono (lim' := w2.heap.size) (by omega))
        clear P2
        go_upto_region 1 with fail
        with_reducible refine wp_region_list ?_
        refine wpList_loadD rfl _ rfl (N + 1) rfl a hal.out F.out.ba ?_
        (try simp only [Act.put, nA, nB, nC])
        refine wpList_loadD rfl _ rfl (N + 2) rfl b hbl.out F.out.bb ?_
        (try simp only [Act.put, nA, nB, nC])
        with_reducible refine wpList_plain rfl ?_
        intro K hK
        go_simp
        first | with_reducible refine hK _ _ ?_ | refine hK _ _ ?_
        clear hK K
        (try simp only [Act.put, nA, nB, nC])
        with_reducible refine wpList_plain rfl ?_
        intro K hK
        go_simp
        first | with_reducible refine hK _ _ ?_ | refine hK _ _ ?_
        clear hK K
        (try simp only [Act.put, nA, nB, nC])
        clear hq0 hqg
        with_reducible refine wpList_step ?_
        intro K hK
        rw [if_pos (by rfl)]
        go_simp
        first | with_reducible refine hK _ _ ?_ | refine hK _ _ ?_
        clear hK K
        (try simp only [Act.put, nA, nB, nC])
        set_option maxRecDepth 20000 in
        refine wpList_loadHG rfl _ rfl N rfl s hd hdl.out F.out.bh ?_
        (try simp only [Act.put, nA, nB, nC])
        with_reducible refine wpList_step ?_
        intro K hK
        rw [if_pos (by rfl)]
        go_simp
        first | with_reducible refine hK _ _ ?_ | refine hK _ _ ?_
        clear hK K
        (try simp only [Act.put, nA, nB, nC])
        set_option maxRecDepth 20000 in
        refine wpList_loadDg rfl _ rfl (N + 1) rfl a hal.out F.out.ba ?_
        (try simp only [Act.put, nA, nB, nC])
        with_reducible refine wpList_step ?_
        intro K hK
        rw [if_pos (by rfl)]
        go_simp
        first | with_reducible refine hK _ _ ?_ | refine hK _ _ ?_
        clear hK K
        (try simp only [Act.put, nA, nB, nC])
        with_reducible refine wpList_step ?_
        intro K hK
        rw [if_pos (by rfl)]
        go_simp
        refine (Holds_any _ s i hd a _ p w2 hdl hal DP hs hi).mono ?_; rintro e w3 ⟨rfl, hb3⟩; rw [HH1.out]
        first | with_reducible refine hK _ _ ?_ | refine hK _ _ ?_
        clear hK K
        (try simp only [Act.put, nA, nB, nC])
        have F3 := Lib.hid (F.out.low hb3 hbig)
        clear hb3 DP F
        with_reducible refine wpList_step ?_
        intro K hK
        rw [if_pos (by rfl)]
        go_simp
        first | with_reducible refine hK _ _ ?_ | refine hK _ _ ?_
        clear hK K
        (try simp only [Act.put, nA, nB, nC])
        with_reducible refine wpList_plain rfl ?_
        intro K hK
        go_simp
        first | with_reducible refine hK _ _ ?_ | refine hK _ _ ?_
        clear hK K
        (try simp only [Act.put, nA, nB, nC])
        with_reducible refine wpList_plain rfl ?_
        intro K hK
        go_simp
        first | with_reducible refine hK _ _ ?_ | refine hK _ _ ?_
        clear hK K
        (try simp only [Act.put, nA, nB, nC])
        have hbig3 := F3.out.big
        have DQ : Hid (DRow w3 w3.heap.size vq q) := Lib.hid ((hq.out.low F3.out.bl (by rw [HN.out]; exact Nat.le_refl _)).mono (lim' := w3.heap.size) (by omega))
        with_reducible refine wpList_step ?_
        intro K hK
        rw [if_pos (by rfl)]
        go_simp
        first | with_reducible refine hK _ _ ?_ | refine hK _ _ ?_
        clear hK K
        (try simp only [Act.put, nA, nB, nC])
        set_option maxRecDepth 20000 in
        refine wpList_loadHG rfl _ rfl N rfl s hd hdl.out F3.out.bh ?_
        (try simp only [Act.put, nA, nB, nC])
        with_reducible refine wpList_step ?_
        intro K hK
        rw [if_pos (by rfl)]
        go_simp
        first | with_reducible refine hK _ _ ?_ | refine hK _ _ ?_
        clear hK K
        (try simp only [Act.put, nA, nB, nC])
        set_option maxRecDepth 20000 in
        refine wpList_loadDg rfl _ rfl (N + 2) rfl b hbl.out F3.out.bb ?_
        (try simp only [Act.put, nA, nB, nC])
        with_reducible refine wpList_step ?_
        intro K hK
        rw [if_pos (by rfl)]
        go_simp
        first | with_reducible refine hK _ _ ?_ | refine hK _ _ ?_
        clear hK K
        (try simp only [Act.put, nA, nB, nC])
        with_reducible refine wpList_step ?_
        intro K hK
        rw [if_pos (by rfl)]
        go_simp
        refine (Holds_any _ s i hd b _ q w3 hdl hbl DQ hs hi).mono ?_; rintro e w4 ⟨rfl, hb4⟩; rw [HH2.out]
        first | with_reducible refine hK _ _ ?_ | refine hK _ _ ?_
        clear hK K
        (try simp only [Act.put, nA, nB, nC])
        have F4 := Lib.hid (F3.out.low hb4 hbig3)
        clear hb4 DQ F3
        with_reducible refine wpList_step ?_
        intro K hK
        rw [if_pos (by rfl)]
        go_simp
        first | with_reducible refine hK _ _ ?_ | refine hK _ _ ?_
        clear hK K
        (try simp only [Act.put, nA, nB, nC])
        with_reducible refine wpList_plain rfl ?_
        intro K hK
        go_simp
        first | with_reducible refine hK _ _ ?_ | refine hK _ _ ?_
        clear hK K
        (try simp only [Act.put, nA, nB, nC])
        have hbig4 := F4.out.big
        have c4 := F4.out.c0
        have dp4 : Hid (DRow w4 w4.heap.size vp p) := Lib.hid ((hp.out.low F4.out.bl (by rw [HN.out]; exact Nat.le_refl _)).mono (lim' := w4.heap.size) (by omega))
        go_upto_region 3 with fail
        with_reducible refine wp_region_list ?_
        with_reducible refine wpList_plain rfl ?_
        intro K hK
        go_simp
        first | with_reducible refine hK _ _ ?_ | refine hK _ _ ?_
        clear hK K
        (try simp only [Act.put, nA, nB, nC])
        with_reducible refine wpList_plain rfl ?_
        intro K hK
        go_simp
        first | with_reducible refine hK _ _ ?_ | refine hK _ _ ?_
        clear hK K
        (try simp only [Act.put, nA, nB, nC])
        with_reducible refine wpList_plain rfl ?_
        intro K hK
        go_simp
        first | with_reducible refine hK _ _ ?_ | refine hK _ _ ?_
        clear hK K
        (try simp only [Act.put, nA, nB, nC])
        with_reducible refine wpList_plain rfl ?_
        intro K hK
        go_simp
        first | with_reducible refine hK _ _ ?_ | refine hK _ _ ?_
        clear hK K
        (try simp only [Act.put, nA, nB, nC])
        with_reducible refine wpList_plain rfl ?_
        intro K hK
        go_simp
        first | with_reducible refine hK _ _ ?_ | refine hK _ _ ?_
        clear hK K
        (try simp only [Act.put, nA, nB, nC])
        with_reducible refine wpList_plain rfl ?_
        intro K hK
        go_simp
        first | with_reducible refine hK _ _ ?_ | refine hK _ _ ?_
        clear hK K
        (try simp only [Act.put, nA, nB, nC])
        refine wpList_loadD rfl _ rfl (N + 1) rfl a hal.out F4.out.ba ?_
        (try simp only [Act.put, nA, nB, nC])
        with_reducible refine wpList_plain rfl ?_
        intro K hK
        go_simp
        first | with_reducible refine hK _ _ ?_ | refine hK _ _ ?_
        clear hK K
        (try simp only [Act.put, nA, nB, nC])
        with_reducible refine wpList_plain rfl ?_
        intro K hK
        go_simp
        refine (climb_any wd i s a _ p w4 hal dp4 (by omega) his hss hw2).mono ?_; rintro e w5 ⟨sv, rfl, o5, a5, b5⟩
        first | with_reducible refine hK _ _ ?_ | refine hK _ _ ?_
        clear hK K
        (try simp only [Act.put, nA, nB, nC])
        rw [HOk1.out] at o5 ⊢
        obtain ⟨g1, c1, rfl⟩ := row64_form o5 HX0.out
        have F5 := Lib.hid (F4.out.low b5 hbig4)
        have O5 := Lib.hid o5
        clear o5 a5 b5 dp4 c4 F4
        with_reducible refine wpList_plain rfl ?_
        intro K hK
        go_simp
        first | with_reducible refine hK _ _ ?_ | refine hK _ _ ?_
        clear hK K
        (try simp only [Act.put, nA, nB, nC])
        with_reducible refine wpList_plain rfl ?_
        intro K hK
        go_simp
        first | with_reducible refine hK _ _ ?_ | refine hK _ _ ?_
        clear hK K
        (try simp only [Act.put, nA, nB, nC])
        with_reducible refine wpList_plain rfl ?_
        intro K hK
        go_simp
        first | with_reducible refine hK _ _ ?_ | refine hK _ _ ?_
        clear hK K
        (try simp only [Act.put, nA, nB, nC])
        with_reducible refine wpList_plain rfl ?_
        intro K hK
        go_simp
        first | with_reducible refine hK _ _ ?_ | refine hK _ _ ?_
        clear hK K
        (try simp only [Act.put, nA, nB, nC])
        obtain ⟨x, hx⟩ : ∃ x, w5.heap.size = x := ⟨_, rfl⟩
        refine wpList_allocD rfl rfl x hx ?_
        intro w6 e6 b6 z6
        (try simp only [Act.put, nA, nB, nC])
        with_reducible refine wpList_plain rfl ?_
        intro K hK
        go_simp
        first | with_reducible refine hK _ _ ?_ | refine hK _ _ ?_
        clear hK K
        (try simp only [Act.put, nA, nB, nC])
        refine wpList_storeD rfl _ _ rfl x rfl zeros32 D1 rfl HD1.out rfl e6 ?_
        intro w7 e7 b7 k7 z7
        (try simp only [Act.put, nA, nB, nC])
        with_reducible refine wpList_plain rfl ?_
        intro K hK
        go_simp
        first | with_reducible refine hK _ _ ?_ | refine hK _ _ ?_
        clear hK K
        (try simp only [Act.put, nA, nB, nC])
        have b57 : Below w5.heap.size w5 w7 := (b6.trans b7).mono (by omega)
        have hbig5 := F5.out.big
        have F7 := Lib.hid (F5.out.low b57 hbig5)
        have O7 := Lib.hid (row64_low O5.out b57)
        clear e6 b6 z6 e7 b7 k7 z7 b57 F5 O5 hx
        have hbig7 := F7.out.big
        have c7 := F7.out.c0
        have dq7 : Hid (DRow w7 w7.heap.size vq q) := Lib.hid ((hq.out.low F7.out.bl (by rw [HN.out]; exact Nat.le_refl _)).mono (lim' := w7.heap.size) (by omega))
        go_upto_region 4 with fail
        with_reducible refine wp_region_list ?_
        with_reducible refine wpList_plain rfl ?_
        intro K hK
        go_simp
        first | with_reducible refine hK _ _ ?_ | refine hK _ _ ?_
        clear hK K
        (try simp only [Act.put, nA, nB, nC])
        with_reducible refine wpList_plain rfl ?_
        intro K hK
        go_simp
        first | with_reducible refine hK _ _ ?_ | refine hK _ _ ?_
        clear hK K
        (try simp only [Act.put, nA, nB, nC])
        with_reducible refine wpList_plain rfl ?_
        intro K hK
        go_simp
        first | with_reducible refine hK _ _ ?_ | refine hK _ _ ?_
        clear hK K
        (try simp only [Act.put, nA, nB, nC])
        with_reducible refine wpList_plain rfl ?_
        intro K hK
        go_simp
        first | with_reducible refine hK _ _ ?_ | refine hK _ _ ?_
        clear hK K
        (try simp only [Act.put, nA, nB, nC])
        with_reducible refine wpList_plain rfl ?_
        intro K hK
        go_simp
        first | with_reducible refine hK _ _ ?_ | refine hK _ _ ?_
        clear hK K
        (try simp only [Act.put, nA, nB, nC])
        with_reducible refine wpList_plain rfl ?_
        intro K hK
        go_simp
        first | with_reducible refine hK _ _ ?_ | refine hK _ _ ?_
        clear hK K
        (try simp only [Act.put, nA, nB, nC])
        refine wpList_loadD rfl _ rfl (N + 2) rfl b hbl.out F7.out.bb ?_
        (try simp only [Act.put, nA, nB, nC])
        with_reducible refine wpList_plain rfl ?_
        intro K hK
        go_simp
        first | with_reducible refine hK _ _ ?_ | refine hK _ _ ?_
        clear hK K
        (try simp only [Act.put, nA, nB, nC])
        with_reducible refine wpList_plain rfl ?_
        intro K hK
        go_simp
        refine (climb_any wd i s b _ q w7 hbl dq7 (by omega) his hss hw2).mono ?_; rintro e w8 ⟨sv2, rfl, o8, a8, b8⟩
        first | with_reducible refine hK _ _ ?_ | refine hK _ _ ?_
        clear hK K
        (try simp only [Act.put, nA, nB, nC])
        rw [HOk2.out] at o8 ⊢
        obtain ⟨g2, c2, rfl⟩ := row64_form o8 HY0.out
        have F8 := Lib.hid (F7.out.low b8 hbig7)
        have O8 := Lib.hid (row64_low O7.out b8)
        have P8 := Lib.hid o8
        clear o8 a8 b8 dq7 c7 F7 O7
        with_reducible refine wpList_plain rfl ?_
        intro K hK
        go_simp
        first | with_reducible refine hK _ _ ?_ | refine hK _ _ ?_
        clear hK K
        (try simp only [Act.put, nA, nB, nC])
        with_reducible refine wpList_plain rfl ?_
        intro K hK
        go_simp
        first | with_reducible refine hK _ _ ?_ | refine hK _ _ ?_
        clear hK K
        (try simp only [Act.put, nA, nB, nC])
        with_reducible refine wpList_plain rfl ?_
        intro K hK
        go_simp
        first | with_reducible refine hK _ _ ?_ | refine hK _ _ ?_
        clear hK K
        (try simp only [Act.put, nA, nB, nC])
        with_reducible refine wpList_plain rfl ?_
        intro K hK
        go_simp
        first | with_reducible refine hK _ _ ?_ | refine hK _ _ ?_
        clear hK K
        (try simp only [Act.put, nA, nB, nC])
        obtain ⟨y, hy⟩ : ∃ y, w8.heap.size = y := ⟨_, rfl⟩
        refine wpList_allocD rfl rfl y hy ?_
        intro w9 e9 b9 z9
        (try simp only [Act.put, nA, nB, nC])
        with_reducible refine wpList_plain rfl ?_
        intro K hK
        go_simp
        first | with_reducible refine hK _ _ ?_ | refine hK _ _ ?_
        clear hK K
        (try simp only [Act.put, nA, nB, nC])
        refine wpList_storeD rfl _ _ rfl y rfl zeros32 D2 rfl HD2.out rfl e9 ?_
        intro wa ea ba ka za
        (try simp only [Act.put, nA, nB, nC])
        with_reducible refine wpList_plain rfl ?_
        intro K hK
        go_simp
        first | with_reducible refine hK _ _ ?_ | refine hK _ _ ?_
        clear hK K
        (try simp only [Act.put, nA, nB, nC])
        have b8a : Below w8.heap.size w8 wa := (b9.trans ba).mono (by omega)
        have hbig8 := F8.out.big
        have C0 : Hid (UC w wa 108 N w4.heap.size w7.heap.size g1 c1 XS g2 c2 YS) := ⟨row64_low O8.out b8a, row64_low P8.out b8a, HA1.out, HA2.out, F8.out.bl.trans (b8a.mono (by omega))⟩
        clear e9 b9 z9 ea ba ka za b8a F8 O8 P8 hy
        obtain ⟨B1, hB1⟩ : ∃ x, w4.heap.size = x := ⟨_, rfl⟩
        obtain ⟨B2, hB2⟩ : ∃ x, w7.heap.size = x := ⟨_, rfl⟩
        rw [hB1, hB2] at C0
        clear hB1 hB2 hbig hbig3 hbig4 hbig5 hbig7 hbig8
        rw [HM1.out, HM2.out]
        obtain ⟨m1, hm1⟩ : ∃ m1, M = m1 + 1 := ⟨M - 1, by omega⟩
        have hm2 : (M : Int) - 1 = (m1 : Int) := by omega
        have hm3 := IntWalk.i64_in (m1 : Int) (by omega)
        have HMm := Lib.hid hm1
        have hkm : k ≤ m1 := by omega
        have hmM : m1 < M := by omega
        clear hm1
        go_upto_region 6 with fail
        go_loopw [23] (fun i wr => ∃ (j : Nat), k ≤ j ∧ j < M ∧ Hid (UC w wr 108 N B1 B2 g1 c1 XS g2 c2 YS) ∧ i = .int .i64 (j : Int)) (fun i _ => (intOf i).toNat)
        case atStart => exact ⟨m1, hkm, hmM, C0, rfl⟩
        case round =>
          obtain ⟨j, hkj, hjM, C, rfl⟩ := hrel
          clear C0
          have dj : decide ((0 : Int) ≤ (j : Int)) = true := decide_eq_true (by omega)
          have ijM : (j : Int) < (M : Int) := by omega
          obtain ⟨X, hXj⟩ : ∃ X, XS[j]? = some X := ⟨_, List.getElem?_eq_getElem (by rw [HM1.out]; exact hjM)⟩
          obtain ⟨Y, hYj⟩ : ∃ Y, YS[j]? = some Y := ⟨_, List.getElem?_eq_getElem (by rw [HM2.out]; exact hjM)⟩
          have hXl : X.length = 64 := HA1.out X (List.mem_of_getElem? hXj)
          have hYl : Y.length = 64 := HA2.out Y (List.mem_of_getElem? hYj)
          obtain ⟨Q, hQ⟩ : ∃ Q, (X == Y) = Q := ⟨_, rfl⟩
          have hq0 := eqP64 X Y hXl hYl
          rw [hQ] at hq0
          have hqg := eqGuardP X Y
          have HXl := Lib.hid hXl
          have HYl := Lib.hid hYl
          have H := Lib.hid (And.intro (C.out.rx j X hXj) (C.out.ry j Y hYj))
          have HQk : Hid (Q = true → k ≠ j) := fun h e => by
            subst e
            rw [HE1.out] at hXj
            rw [HE2.out] at hYj
            have e1 := Option.some.inj hXj
            have e2 := Option.some.inj hYj
            rw [← e1, ← e2, h] at hQ
            exact HNe.out.2.2.1 (beq_iff_eq.1 hQ)
          have HQj : Hid (Q = false → k = j) := fun h => by
            rcases Nat.lt_or_ge k j with hlt | hge
            · have e := HTl.out j hlt
              rw [hXj, hYj] at e
              rw [Option.some.inj e, beq_self_eq_true, h] at hQ
              cases hQ
            · omega
          clear hXj hYj hXl hYl hQ
          have hbigC := C.out.big HN.out
          cases Q
          case true =>
            go_upto_region 8 with fail
            refine wp_region_held_drew (S := fun W => W.rangeAt g1 (j * 64) (X.map bv) ∧ W.rangeAt g2 (j * 64) (Y.map bv)) (by kernel_rfl) H.out (fun hHeld => ?_)
            refine' wpAnyH_take (i := 0) (oi := ⟨some 82, .move (.tmp 17), 84, "rings.go:298", #[], none⟩) rfl (by kernel_rfl) (by kernel_rfl) (by kernel_rfl) (fun _ _ _ h => h) (Or.inl ⟨by rfl, _⟩) (by assumption) _
            rotate_left
            · (intro wS hSw; (try dsimp only at hSw); go_simp; try with_reducible rfl)
            try simp only [Act.put, nA, nB, nC]
            refine' wpAnyH_take (i := 1) (oi := ⟨some 83, .move (.tmp 23), 3, "rings.go:298", #[], none⟩) rfl (by kernel_rfl) (by kernel_rfl) (by kernel_rfl) (fun _ _ _ h => h) (Or.inl ⟨by rfl, _⟩) (by assumption) _
            rotate_left
            · (intro wS hSw; (try dsimp only at hSw); go_simp; try with_reducible rfl)
            try simp only [Act.put, nA, nB, nC]
            refine' wpAnyH_take (i := 2) (oi := ⟨some 84, .indexAddr 84 (.tmp 82) (.tmp 83), 0, "rings.go:298", #[⟨0, .data⟩, ⟨1, .data⟩], none⟩) rfl (by kernel_rfl) (by kernel_rfl) (by kernel_rfl) (fun _ _ _ h => h) (Or.inl ⟨by rfl, _⟩) (by assumption) _
            rotate_left
            · (intro wS hSw; (try dsimp only at hSw); go_simp; try with_reducible rfl)
            try simp only [Act.put, nA, nB, nC]
            refine' wpAnyH_take (i := 3) (oi := ⟨some 85, .load 108 (.tmp 84), 108, "rings.go:298", #[⟨2, .data⟩], none⟩) rfl (by kernel_rfl) (by kernel_rfl) (by kernel_rfl) (fun _ _ _ h => h) (yieldsIf_loadPr (by rfl) _ rfl g1 (j * 64) rfl X HXl.out (fun W hW => hW.1)) (by assumption) _
            (try simp only [Act.put, nA, nB, nC])
            refine' wpAnyH_take (i := 4) (oi := ⟨some 86, .move (.tmp 20), 84, "rings.go:298", #[], none⟩) rfl (by kernel_rfl) (by kernel_rfl) (by kernel_rfl) (fun _ _ _ h => h) (Or.inl ⟨by rfl, _⟩) (by assumption) _
            rotate_left
            · (intro wS hSw; (try dsimp only at hSw); go_simp; try with_reducible rfl)
            try simp only [Act.put, nA, nB, nC]
            refine' wpAnyH_take (i := 5) (oi := ⟨some 87, .move (.tmp 23), 3, "rings.go:298", #[], none⟩) rfl (by kernel_rfl) (by kernel_rfl) (by kernel_rfl) (fun _ _ _ h => h) (Or.inl ⟨by rfl, _⟩) (by assumption) _
            rotate_left
            · (intro wS hSw; (try dsimp only at hSw); go_simp; try with_reducible rfl)
            try simp only [Act.put, nA, nB, nC]
            refine' wpAnyH_take (i := 6) (oi := ⟨some 88, .indexAddr 84 (.tmp 86) (.tmp 87), 0, "rings.go:298", #[⟨4, .data⟩, ⟨5, .data⟩], none⟩) rfl (by kernel_rfl) (by kernel_rfl) (by kernel_rfl) (fun _ _ _ h => h) (Or.inl ⟨by rfl, _⟩) (by assumption) _
            rotate_left
            · (intro wS hSw; (try dsimp only at hSw); go_simp; try with_reducible rfl)
            try simp only [Act.put, nA, nB, nC]
            refine' wpAnyH_take (i := 7) (oi := ⟨some 89, .load 108 (.tmp 88), 108, "rings.go:298", #[⟨6, .data⟩], none⟩) rfl (by kernel_rfl) (by kernel_rfl) (by kernel_rfl) (fun _ _ _ h => h) (yieldsIf_loadPr (by rfl) _ rfl g2 (j * 64) rfl Y HYl.out (fun W hW => hW.2)) (by assumption) _
            (try simp only [Act.put, nA, nB, nC])
            refine' wpAnyH_take (i := 8) (oi := ⟨some 90, .binOp .eql 108 (.tmp 85) (.tmp 89) 108, 4, "rings.go:298", #[⟨3, .data⟩, ⟨7, .data⟩], none⟩) rfl (by kernel_rfl) (by kernel_rfl) (by kernel_rfl) (fun _ _ _ h => h) (Or.inl ⟨by rfl, _⟩) (by assumption) _
            rotate_left
            · (intro wS hSw; (try dsimp only at hSw); go_simp; try with_reducible rfl)
            try simp only [Act.put, nA, nB, nC]
            refine wpAnyH_done (by kernel_rfl) ?_ _
            clear hq0 hqg hHeld H
            have hkj2 := HQk.out rfl
            obtain ⟨j0, hj0⟩ : ∃ j0, j = j0 + 1 := ⟨j - 1, by omega⟩
            have hj1 : (j : Int) - 1 = (j0 : Int) := by omega
            have hj2 := IntWalk.i64_in (j0 : Int) (by omega)
            have HJ0 := Lib.hid hj0
            have C2 := Lib.hid (C.out.low hbigC (Below.refl _ _).drew)
            have hkj0 : k ≤ j0 := by omega
            have hj0M : j0 < M := by omega
            clear hj0 C
            go_wp2_with fail
            have e1 := HJ0.out
            exact ⟨⟨j0, hkj0, hj0M, C2, rfl⟩, by simp [intOf]; omega⟩
          case false =>
            go_upto_region 8 with fail
            refine wp_region_held_drew (S := fun W => W.rangeAt g1 (j * 64) (X.map bv) ∧ W.rangeAt g2 (j * 64) (Y.map bv)) (by kernel_rfl) H.out (fun hHeld => ?_)
            refine' wpAnyH_take (i := 0) (oi := ⟨some 82, .move (.tmp 17), 84, "rings.go:298", #[], none⟩) rfl (by kernel_rfl) (by kernel_rfl) (by kernel_rfl) (fun _ _ _ h => h) (Or.inl ⟨by rfl, _⟩) (by assumption) _
            rotate_left
            · (intro wS hSw; (try dsimp only at hSw); go_simp; try with_reducible rfl)
            try simp only [Act.put, nA, nB, nC]
            refine' wpAnyH_take (i := 1) (oi := ⟨some 83, .move (.tmp 23), 3, "rings.go:298", #[], none⟩) rfl (by kernel_rfl) (by kernel_rfl) (by kernel_rfl) (fun _ _ _ h => h) (Or.inl ⟨by rfl, _⟩) (by assumption) _
            rotate_left
            · (intro wS hSw; (try dsimp only at hSw); go_simp; try with_reducible rfl)
            try simp only [Act.put, nA, nB, nC]
            refine' wpAnyH_take (i := 2) (oi := ⟨some 84, .indexAddr 84 (.tmp 82) (.tmp 83), 0, "rings.go:298", #[⟨0, .data⟩, ⟨1, .data⟩], none⟩) rfl (by kernel_rfl) (by kernel_rfl) (by kernel_rfl) (fun _ _ _ h => h) (Or.inl ⟨by rfl, _⟩) (by assumption) _
            rotate_left
            · (intro wS hSw; (try dsimp only at hSw); go_simp; try with_reducible rfl)
            try simp only [Act.put, nA, nB, nC]
            refine' wpAnyH_take (i := 3) (oi := ⟨some 85, .load 108 (.tmp 84), 108, "rings.go:298", #[⟨2, .data⟩], none⟩) rfl (by kernel_rfl) (by kernel_rfl) (by kernel_rfl) (fun _ _ _ h => h) (yieldsIf_loadPr (by rfl) _ rfl g1 (j * 64) rfl X HXl.out (fun W hW => hW.1)) (by assumption) _
            (try simp only [Act.put, nA, nB, nC])
            refine' wpAnyH_take (i := 4) (oi := ⟨some 86, .move (.tmp 20), 84, "rings.go:298", #[], none⟩) rfl (by kernel_rfl) (by kernel_rfl) (by kernel_rfl) (fun _ _ _ h => h) (Or.inl ⟨by rfl, _⟩) (by assumption) _
            rotate_left
            · (intro wS hSw; (try dsimp only at hSw); go_simp; try with_reducible rfl)
            try simp only [Act.put, nA, nB, nC]
            refine' wpAnyH_take (i := 5) (oi := ⟨some 87, .move (.tmp 23), 3, "rings.go:298", #[], none⟩) rfl (by kernel_rfl) (by kernel_rfl) (by kernel_rfl) (fun _ _ _ h => h) (Or.inl ⟨by rfl, _⟩) (by assumption) _
            rotate_left
            · (intro wS hSw; (try dsimp only at hSw); go_simp; try with_reducible rfl)
            try simp only [Act.put, nA, nB, nC]
            refine' wpAnyH_take (i := 6) (oi := ⟨some 88, .indexAddr 84 (.tmp 86) (.tmp 87), 0, "rings.go:298", #[⟨4, .data⟩, ⟨5, .data⟩], none⟩) rfl (by kernel_rfl) (by kernel_rfl) (by kernel_rfl) (fun _ _ _ h => h) (Or.inl ⟨by rfl, _⟩) (by assumption) _
            rotate_left
            · (intro wS hSw; (try dsimp only at hSw); go_simp; try with_reducible rfl)
            try simp only [Act.put, nA, nB, nC]
            refine' wpAnyH_take (i := 7) (oi := ⟨some 89, .load 108 (.tmp 88), 108, "rings.go:298", #[⟨6, .data⟩], none⟩) rfl (by kernel_rfl) (by kernel_rfl) (by kernel_rfl) (fun _ _ _ h => h) (yieldsIf_loadPr (by rfl) _ rfl g2 (j * 64) rfl Y HYl.out (fun W hW => hW.2)) (by assumption) _
            (try simp only [Act.put, nA, nB, nC])
            refine' wpAnyH_take (i := 8) (oi := ⟨some 90, .binOp .eql 108 (.tmp 85) (.tmp 89) 108, 4, "rings.go:298", #[⟨3, .data⟩, ⟨7, .data⟩], none⟩) rfl (by kernel_rfl) (by kernel_rfl) (by kernel_rfl) (fun _ _ _ h => h) (Or.inl ⟨by rfl, _⟩) (by assumption) _
            rotate_left
            · (intro wS hSw; (try dsimp only at hSw); go_simp; try with_reducible rfl)
            try simp only [Act.put, nA, nB, nC]
            refine wpAnyH_done (by kernel_rfl) ?_ _
            clear hq0 hqg hHeld H HXl HYl dj
            obtain rfl := HQj.out rfl
            have C2 := Lib.hid (C.out.low hbigC (Below.refl _ _).drew)
            obtain ⟨wb, hwb⟩ : ∃ wb : World, wr.drew = wb := ⟨_, rfl⟩
            rw [hwb] at C2 ⊢
            clear hwb
            obtain ⟨⟨hxa, hxb, hya, hyb⟩, _, _, _⟩ := HNe.out
            have HXa := Lib.hid hxa
            have HXb := Lib.hid hxb
            have HYa := Lib.hid hya
            have HYb := Lib.hid hyb
            have R1 := C2.out.rx k _ HE1.out
            have H1 := Lib.hid (And.intro (rng_left R1) (rng_right hxa R1))
            have hlen1 := knot_len wd xa xb hw2
            have hlen2 := knot_len wd ya yb hw2
            have hk1 : Hid ((⟨(textL knotTag [bsOf (xa.take wd), bsOf (xb.take wd)]).toArray⟩ : ByteArray) = knotT wd xa xb) := rfl
            have hk2 : Hid ((⟨(textL knotTag [bsOf (ya.take wd), bsOf (yb.take wd)]).toArray⟩ : ByteArray) = knotT wd ya yb) := rfl
            obtain ⟨s1, hs1⟩ : ∃ s, bsOf (xa.take wd) = s := ⟨_, rfl⟩
            obtain ⟨s2, hs2⟩ : ∃ s, bsOf (xb.take wd) = s := ⟨_, rfl⟩
            obtain ⟨s3, hs3⟩ : ∃ s, bsOf (ya.take wd) = s := ⟨_, rfl⟩
            obtain ⟨s4, hs4⟩ : ∃ s, bsOf (yb.take wd) = s := ⟨_, rfl⟩
            rw [hs1, hs2] at hk1 hlen1
            rw [hs3, hs4] at hk2 hlen2
            rw [HKt1.out] at hk1
            rw [HKt2.out] at hk2
            have HKp1 := fun w => knotParts_any wd xa xb w hw2 hxa hxb
            have HKp2 := fun w => knotParts_any wd ya yb w hw2 hya hyb
            rw [hs1, hs2] at HKp1
            rw [hs3, hs4] at HKp2
            have HK1 := Lib.hid HKp1
            have HK2 := Lib.hid HKp2
            have HL1 := Lib.hid hlen1
            have HL2 := Lib.hid hlen2
            clear R1 C hxa hxb hya hyb hlen1 hlen2 hs1 hs2 hs3 hs4 HKp1 HKp2
            have hbC2 := C2.out.big HN.out
            go_upto_region 9 with fail
            refine wp_region_held_drew (S := fun W => W.rangeAt g1 (k * 64) (xa.map bv) ∧ W.rangeAt g1 (k * 64 + 32) (xb.map bv)) (by kernel_rfl) H1.out (fun hHeld => ?_)
            refine' wpAnyH_take (i := 0) (oi := ⟨some 92, .move (.tmp 0), 3, "rings.go:301", #[], none⟩) rfl (by kernel_rfl) (by kernel_rfl) (by kernel_rfl) (fun _ _ _ h => h) (Or.inl ⟨by rfl, _⟩) (by assumption) _
            rotate_left
            · (intro wS hSw; (try dsimp only at hSw); go_simp; try with_reducible rfl)
            try simp only [Act.put, nA, nB, nC]
            refine' wpAnyH_take (i := 1) (oi := ⟨some 93, .move (.tmp 17), 84, "rings.go:301", #[], none⟩) rfl (by kernel_rfl) (by kernel_rfl) (by kernel_rfl) (fun _ _ _ h => h) (Or.inl ⟨by rfl, _⟩) (by assumption) _
            rotate_left
            · (intro wS hSw; (try dsimp only at hSw); go_simp; try with_reducible rfl)
            try simp only [Act.put, nA, nB, nC]
            refine' wpAnyH_take (i := 2) (oi := ⟨some 94, .move (.tmp 23), 3, "rings.go:301", #[], none⟩) rfl (by kernel_rfl) (by kernel_rfl) (by kernel_rfl) (fun _ _ _ h => h) (Or.inl ⟨by rfl, _⟩) (by assumption) _
            rotate_left
            · (intro wS hSw; (try dsimp only at hSw); go_simp; try with_reducible rfl)
            try simp only [Act.put, nA, nB, nC]
            refine' wpAnyH_take (i := 3) (oi := ⟨some 95, .indexAddr 84 (.tmp 93) (.tmp 94), 0, "rings.go:301", #[⟨1, .data⟩, ⟨2, .data⟩], none⟩) rfl (by kernel_rfl) (by kernel_rfl) (by kernel_rfl) (fun _ _ _ h => h) (Or.inl ⟨by rfl, _⟩) (by assumption) _
            rotate_left
            · (intro wS hSw; (try dsimp only at hSw); go_simp; try with_reducible rfl)
            try simp only [Act.put, nA, nB, nC]
            refine' wpAnyH_take (i := 4) (oi := ⟨some 96, .indexAddr 108 (.tmp 95) (.const (.int .i64 0)), 0, "rings.go:301", #[⟨3, .data⟩], none⟩) rfl (by kernel_rfl) (by kernel_rfl) (by kernel_rfl) (fun _ _ _ h => h) (Or.inl ⟨by rfl, _⟩) (by assumption) _
            rotate_left
            · (intro wS hSw; (try dsimp only at hSw); go_simp; try with_reducible rfl)
            try simp only [Act.put, nA, nB, nC]
            refine' wpAnyH_take (i := 5) (oi := ⟨some 97, .load 23 (.tmp 96), 23, "rings.go:301", #[⟨4, .data⟩], none⟩) rfl (by kernel_rfl) (by kernel_rfl) (by kernel_rfl) (fun _ _ _ h => h) (yieldsIf_loadRng (by rfl) _ rfl g1 (k * 64) rfl xa HXa.out (fun W hW => hW.1)) (by assumption) _
            (try simp only [Act.put, nA, nB, nC])
            refine' wpAnyH_take (i := 6) (oi := ⟨some 98, .move (.tmp 17), 84, "rings.go:301", #[], none⟩) rfl (by kernel_rfl) (by kernel_rfl) (by kernel_rfl) (fun _ _ _ h => h) (Or.inl ⟨by rfl, _⟩) (by assumption) _
            rotate_left
            · (intro wS hSw; (try dsimp only at hSw); go_simp; try with_reducible rfl)
            try simp only [Act.put, nA, nB, nC]
            refine' wpAnyH_take (i := 7) (oi := ⟨some 99, .move (.tmp 23), 3, "rings.go:301", #[], none⟩) rfl (by kernel_rfl) (by kernel_rfl) (by kernel_rfl) (fun _ _ _ h => h) (Or.inl ⟨by rfl, _⟩) (by assumption) _
            rotate_left
            · (intro wS hSw; (try dsimp only at hSw); go_simp; try with_reducible rfl)
            try simp only [Act.put, nA, nB, nC]
            refine' wpAnyH_take (i := 8) (oi := ⟨some 100, .indexAddr 84 (.tmp 98) (.tmp 99), 0, "rings.go:301", #[⟨6, .data⟩, ⟨7, .data⟩], none⟩) rfl (by kernel_rfl) (by kernel_rfl) (by kernel_rfl) (fun _ _ _ h => h) (Or.inl ⟨by rfl, _⟩) (by assumption) _
            rotate_left
            · (intro wS hSw; (try dsimp only at hSw); go_simp; try with_reducible rfl)
            try simp only [Act.put, nA, nB, nC]
            refine' wpAnyH_take (i := 9) (oi := ⟨some 101, .indexAddr 108 (.tmp 100) (.const (.int .i64 1)), 0, "rings.go:301", #[⟨8, .data⟩], none⟩) rfl (by kernel_rfl) (by kernel_rfl) (by kernel_rfl) (fun _ _ _ h => h) (Or.inl ⟨by rfl, _⟩) (by assumption) _
            rotate_left
            · (intro wS hSw; (try dsimp only at hSw); go_simp; try with_reducible rfl)
            try simp only [Act.put, nA, nB, nC]
            refine' wpAnyH_take (i := 10) (oi := ⟨some 102, .load 23 (.tmp 101), 23, "rings.go:301", #[⟨9, .data⟩], none⟩) rfl (by kernel_rfl) (by kernel_rfl) (by kernel_rfl) (fun _ _ _ h => h) (yieldsIf_loadRng (by rfl) _ rfl g1 (k * 64 + 32) rfl xb HXb.out (fun W hW => hW.2)) (by assumption) _
            (try simp only [Act.put, nA, nB, nC])
            refine wpAnyH_ready (rs := [11]) (by kernel_rfl) (by simp) ?_
            refine AllReadyH.cons (o := ⟨some 103, .call ⟨.value (.func 62), #[.tmp 92, .tmp 97, .tmp 102], #[3, 23, 23]⟩, 109, "rings.go:301", #[⟨0, .data⟩, ⟨5, .data⟩, ⟨10, .data⟩], none⟩) rfl (fun K hK => ?_) AllReadyH.nil
            (go_simp; (go_at_call 62; refine (HK1.out _).mono ?_; rintro e wc ⟨rfl, hbc'⟩; have hbc : Below wb.heap.size wb wc := Below.trans (Below.refl _ _).drew hbc'; have C3 := Lib.hid (C2.out.low hbC2 hbc); have R2 := C3.out.rx k _ HE1.out))
            refine hK.out _ _ ?_ (fun hHeld => ?_)
            · exact ⟨rng_left R2, rng_right HXa.out R2⟩
            clear hK K
            try simp only [Act.put, nA, nB, nC]
            refine' wpAnyH_take (i := 12) (oi := ⟨some 91, .move (.tmp 103), 109, "rings.go:301", #[⟨11, .data⟩], none⟩) rfl (by kernel_rfl) (by kernel_rfl) (by kernel_rfl) (fun _ _ _ h => h) (Or.inl ⟨by rfl, _⟩) (by assumption) _
            rotate_left
            · (intro wS hSw; (try dsimp only at hSw); go_simp; try with_reducible rfl)
            try simp only [Act.put, nA, nB, nC]
            refine' wpAnyH_take (i := 13) (oi := ⟨some 104, .extract (.tmp 91) 0, 9, "rings.go:301", #[⟨12, .data⟩], none⟩) rfl (by kernel_rfl) (by kernel_rfl) (by kernel_rfl) (fun _ _ _ h => h) (Or.inl ⟨by rfl, _⟩) (by assumption) _
            rotate_left
            · (intro wS hSw; (try dsimp only at hSw); go_simp; try with_reducible rfl)
            try simp only [Act.put, nA, nB, nC]
            refine' wpAnyH_take (i := 14) (oi := { dst := Option.some 105, op := Op.extract (Operand.tmp 91) 1, type := 9, pos := "rings.go:301", after := #[{ on := 12, ground := Ground.data }, { on := 15, ground := Ground.gcOnly Departure.lateStores }], guard := Option.none }) rfl (by kernel_rfl) (by kernel_rfl) (by kernel_rfl) (fun _ _ _ h => h) (Or.inl ⟨by rfl, _⟩) (by assumption) _
            rotate_left
            · (intro wS hSw; (try dsimp only at hSw); go_simp; try with_reducible rfl)
            try simp only [Act.put, nA, nB, nC]
            refine' wpAnyH_take (i := 15) (oi := { dst := Option.some 24, op := Op.assign (Operand.tmp 104), type := 9, pos := "rings.go:301", after := #[{ on := 13, ground := Ground.data }, { on := 11, ground := Ground.chain }, { on := 0, ground := Ground.phase }, { on := 1, ground := Ground.phase }, { on := 2, ground := Ground.phase }, { on := 3, ground := Ground.phase }, { on := 4, ground := Ground.phase }, { on := 5, ground := Ground.phase }, { on := 6, ground := Ground.phase }, { on := 7, ground := Ground.phase }, { on := 8, ground := Ground.phase }, { on := 9, ground := Ground.phase }, { on := 10, ground := Ground.phase }, { on := 11, ground := Ground.phase }, { on := 12, ground := Ground.phase }, { on := 13, ground := Ground.phase }, { on := 14, ground := Ground.textOnly Departure.lateStores }], guard := Option.none }) rfl (by kernel_rfl) (by kernel_rfl) (by kernel_rfl) (fun _ _ _ h => h) (Or.inl ⟨by rfl, _⟩) (by assumption) _
            rotate_left
            · (intro wS hSw; (try dsimp only at hSw); go_simp; try with_reducible rfl)
            try simp only [Act.put, nA, nB, nC]
            refine' wpAnyH_take (i := 16) (oi := ⟨some 25, .assign (.tmp 105), 9, "rings.go:301", #[⟨14, .data⟩, ⟨15, .chain⟩, ⟨0, .phase⟩, ⟨1, .phase⟩, ⟨2, .phase⟩, ⟨3, .phase⟩, ⟨4, .phase⟩, ⟨5, .phase⟩, ⟨6, .phase⟩, ⟨7, .phase⟩, ⟨8, .phase⟩, ⟨9, .phase⟩, ⟨10, .phase⟩, ⟨11, .phase⟩, ⟨12, .phase⟩, ⟨13, .phase⟩, ⟨14, .phase⟩, ⟨15, .phase⟩], none⟩) rfl (by kernel_rfl) (by kernel_rfl) (by kernel_rfl) (fun _ _ _ h => h) (Or.inl ⟨by rfl, _⟩) (by assumption) _
            rotate_left
            · (intro wS hSw; (try dsimp only at hSw); go_simp; try with_reducible rfl)
            try simp only [Act.put, nA, nB, nC]
            refine wpAnyH_done (by kernel_rfl) ?_ _
            clear hHeld H1 hbc hbc' R2 C2
            have hbC3 := C3.out.big HN.out
            have R3 := C3.out.ry k _ HE2.out
            have H3 := Lib.hid (And.intro (rng_left R3) (rng_right HYa.out R3))
            clear R3
            go_upto_region 10 with fail
            refine wp_region_held_drew (S := fun W => W.rangeAt g2 (k * 64) (ya.map bv) ∧ W.rangeAt g2 (k * 64 + 32) (yb.map bv)) (by kernel_rfl) H3.out (fun hHeld => ?_)
            refine' wpAnyH_take (i := 0) (oi := ⟨some 107, .move (.tmp 0), 3, "rings.go:302", #[], none⟩) rfl (by kernel_rfl) (by kernel_rfl) (by kernel_rfl) (fun _ _ _ h => h) (Or.inl ⟨by rfl, _⟩) (by assumption) _
            rotate_left
            · (intro wS hSw; (try dsimp only at hSw); go_simp; try with_reducible rfl)
            try simp only [Act.put, nA, nB, nC]
            refine' wpAnyH_take (i := 1) (oi := ⟨some 108, .move (.tmp 20), 84, "rings.go:302", #[], none⟩) rfl (by kernel_rfl) (by kernel_rfl) (by kernel_rfl) (fun _ _ _ h => h) (Or.inl ⟨by rfl, _⟩) (by assumption) _
            rotate_left
            · (intro wS hSw; (try dsimp only at hSw); go_simp; try with_reducible rfl)
            try simp only [Act.put, nA, nB, nC]
            refine' wpAnyH_take (i := 2) (oi := ⟨some 109, .move (.tmp 23), 3, "rings.go:302", #[], none⟩) rfl (by kernel_rfl) (by kernel_rfl) (by kernel_rfl) (fun _ _ _ h => h) (Or.inl ⟨by rfl, _⟩) (by assumption) _
            rotate_left
            · (intro wS hSw; (try dsimp only at hSw); go_simp; try with_reducible rfl)
            try simp only [Act.put, nA, nB, nC]
            refine' wpAnyH_take (i := 3) (oi := ⟨some 110, .indexAddr 84 (.tmp 108) (.tmp 109), 0, "rings.go:302", #[⟨1, .data⟩, ⟨2, .data⟩], none⟩) rfl (by kernel_rfl) (by kernel_rfl) (by kernel_rfl) (fun _ _ _ h => h) (Or.inl ⟨by rfl, _⟩) (by assumption) _
            rotate_left
            · (intro wS hSw; (try dsimp only at hSw); go_simp; try with_reducible rfl)
            try simp only [Act.put, nA, nB, nC]
            refine' wpAnyH_take (i := 4) (oi := ⟨some 111, .indexAddr 108 (.tmp 110) (.const (.int .i64 0)), 0, "rings.go:302", #[⟨3, .data⟩], none⟩) rfl (by kernel_rfl) (by kernel_rfl) (by kernel_rfl) (fun _ _ _ h => h) (Or.inl ⟨by rfl, _⟩) (by assumption) _
            rotate_left
            · (intro wS hSw; (try dsimp only at hSw); go_simp; try with_reducible rfl)
            try simp only [Act.put, nA, nB, nC]
            refine' wpAnyH_take (i := 5) (oi := ⟨some 112, .load 23 (.tmp 111), 23, "rings.go:302", #[⟨4, .data⟩], none⟩) rfl (by kernel_rfl) (by kernel_rfl) (by kernel_rfl) (fun _ _ _ h => h) (yieldsIf_loadRng (by rfl) _ rfl g2 (k * 64) rfl ya HYa.out (fun W hW => hW.1)) (by assumption) _
            (try simp only [Act.put, nA, nB, nC])
            refine' wpAnyH_take (i := 6) (oi := ⟨some 113, .move (.tmp 20), 84, "rings.go:302", #[], none⟩) rfl (by kernel_rfl) (by kernel_rfl) (by kernel_rfl) (fun _ _ _ h => h) (Or.inl ⟨by rfl, _⟩) (by assumption) _
            rotate_left
            · (intro wS hSw; (try dsimp only at hSw); go_simp; try with_reducible rfl)
            try simp only [Act.put, nA, nB, nC]
            refine' wpAnyH_take (i := 7) (oi := ⟨some 114, .move (.tmp 23), 3, "rings.go:302", #[], none⟩) rfl (by kernel_rfl) (by kernel_rfl) (by kernel_rfl) (fun _ _ _ h => h) (Or.inl ⟨by rfl, _⟩) (by assumption) _
            rotate_left
            · (intro wS hSw; (try dsimp only at hSw); go_simp; try with_reducible rfl)
            try simp only [Act.put, nA, nB, nC]
            refine' wpAnyH_take (i := 8) (oi := ⟨some 115, .indexAddr 84 (.tmp 113) (.tmp 114), 0, "rings.go:302", #[⟨6, .data⟩, ⟨7, .data⟩], none⟩) rfl (by kernel_rfl) (by kernel_rfl) (by kernel_rfl) (fun _ _ _ h => h) (Or.inl ⟨by rfl, _⟩) (by assumption) _
            rotate_left
            · (intro wS hSw; (try dsimp only at hSw); go_simp; try with_reducible rfl)
            try simp only [Act.put, nA, nB, nC]
            refine' wpAnyH_take (i := 9) (oi := ⟨some 116, .indexAddr 108 (.tmp 115) (.const (.int .i64 1)), 0, "rings.go:302", #[⟨8, .data⟩], none⟩) rfl (by kernel_rfl) (by kernel_rfl) (by kernel_rfl) (fun _ _ _ h => h) (Or.inl ⟨by rfl, _⟩) (by assumption) _
            rotate_left
            · (intro wS hSw; (try dsimp only at hSw); go_simp; try with_reducible rfl)
            try simp only [Act.put, nA, nB, nC]
            refine' wpAnyH_take (i := 10) (oi := ⟨some 117, .load 23 (.tmp 116), 23, "rings.go:302", #[⟨9, .data⟩], none⟩) rfl (by kernel_rfl) (by kernel_rfl) (by kernel_rfl) (fun _ _ _ h => h) (yieldsIf_loadRng (by rfl) _ rfl g2 (k * 64 + 32) rfl yb HYb.out (fun W hW => hW.2)) (by assumption) _
            (try simp only [Act.put, nA, nB, nC])
            refine wpAnyH_ready (rs := [11]) (by kernel_rfl) (by simp) ?_
            refine AllReadyH.cons (o := ⟨some 118, .call ⟨.value (.func 62), #[.tmp 107, .tmp 112, .tmp 117], #[3, 23, 23]⟩, 109, "rings.go:302", #[⟨0, .data⟩, ⟨5, .data⟩, ⟨10, .data⟩], none⟩) rfl (fun K hK => ?_) AllReadyH.nil
            (go_simp; (go_at_call 62; refine (HK2.out _).mono ?_; rintro e wd1 ⟨rfl, hbd'⟩; have hbd : Below wc.heap.size wc wd1 := Below.trans (Below.refl _ _).drew hbd'; have C4 := Lib.hid (C3.out.low hbC3 hbd); have R4 := C4.out.ry k _ HE2.out))
            refine hK.out _ _ ?_ (fun hHeld => ?_)
            · exact ⟨rng_left R4, rng_right HYa.out R4⟩
            clear hK K
            try simp only [Act.put, nA, nB, nC]
            refine' wpAnyH_take (i := 12) (oi := ⟨some 106, .move (.tmp 118), 109, "rings.go:302", #[⟨11, .data⟩], none⟩) rfl (by kernel_rfl) (by kernel_rfl) (by kernel_rfl) (fun _ _ _ h => h) (Or.inl ⟨by rfl, _⟩) (by assumption) _
            rotate_left
            · (intro wS hSw; (try dsimp only at hSw); go_simp; try with_reducible rfl)
            try simp only [Act.put, nA, nB, nC]
            refine' wpAnyH_take (i := 13) (oi := ⟨some 119, .extract (.tmp 106) 0, 9, "rings.go:302", #[⟨12, .data⟩], none⟩) rfl (by kernel_rfl) (by kernel_rfl) (by kernel_rfl) (fun _ _ _ h => h) (Or.inl ⟨by rfl, _⟩) (by assumption) _
            rotate_left
            · (intro wS hSw; (try dsimp only at hSw); go_simp; try with_reducible rfl)
            try simp only [Act.put, nA, nB, nC]
            refine' wpAnyH_take (i := 14) (oi := { dst := Option.some 120, op := Op.extract (Operand.tmp 106) 1, type := 9, pos := "rings.go:302", after := #[{ on := 12, ground := Ground.data }, { on := 15, ground := Ground.gcOnly Departure.lateStores }], guard := Option.none }) rfl (by kernel_rfl) (by kernel_rfl) (by kernel_rfl) (fun _ _ _ h => h) (Or.inl ⟨by rfl, _⟩) (by assumption) _
            rotate_left
            · (intro wS hSw; (try dsimp only at hSw); go_simp; try with_reducible rfl)
            try simp only [Act.put, nA, nB, nC]
            refine' wpAnyH_take (i := 15) (oi := { dst := Option.some 26, op := Op.assign (Operand.tmp 119), type := 9, pos := "rings.go:302", after := #[{ on := 13, ground := Ground.data }, { on := 11, ground := Ground.chain }, { on := 0, ground := Ground.phase }, { on := 1, ground := Ground.phase }, { on := 2, ground := Ground.phase }, { on := 3, ground := Ground.phase }, { on := 4, ground := Ground.phase }, { on := 5, ground := Ground.phase }, { on := 6, ground := Ground.phase }, { on := 7, ground := Ground.phase }, { on := 8, ground := Ground.phase }, { on := 9, ground := Ground.phase }, { on := 10, ground := Ground.phase }, { on := 11, ground := Ground.phase }, { on := 12, ground := Ground.phase }, { on := 13, ground := Ground.phase }, { on := 14, ground := Ground.textOnly Departure.lateStores }], guard := Option.none }) rfl (by kernel_rfl) (by kernel_rfl) (by kernel_rfl) (fun _ _ _ h => h) (Or.inl ⟨by rfl, _⟩) (by assumption) _
            rotate_left
            · (intro wS hSw; (try dsimp only at hSw); go_simp; try with_reducible rfl)
            try simp only [Act.put, nA, nB, nC]
            refine' wpAnyH_take (i := 16) (oi := ⟨some 27, .assign (.tmp 120), 9, "rings.go:302", #[⟨14, .data⟩, ⟨15, .chain⟩, ⟨0, .phase⟩, ⟨1, .phase⟩, ⟨2, .phase⟩, ⟨3, .phase⟩, ⟨4, .phase⟩, ⟨5, .phase⟩, ⟨6, .phase⟩, ⟨7, .phase⟩, ⟨8, .phase⟩, ⟨9, .phase⟩, ⟨10, .phase⟩, ⟨11, .phase⟩, ⟨12, .phase⟩, ⟨13, .phase⟩, ⟨14, .phase⟩, ⟨15, .phase⟩], none⟩) rfl (by kernel_rfl) (by kernel_rfl) (by kernel_rfl) (fun _ _ _ h => h) (Or.inl ⟨by rfl, _⟩) (by assumption) _
            rotate_left
            · (intro wS hSw; (try dsimp only at hSw); go_simp; try with_reducible rfl)
            try simp only [Act.put, nA, nB, nC]
            refine wpAnyH_done (by kernel_rfl) ?_ _
            clear hHeld H3 hbd hbd' R4 C3
            have hbC4 := C4.out.big HN.out
            have B4 := Lib.hid C4.out.bl
            clear C4
            go_upto_region 11 with fail
            with_reducible refine wp_region_list ?_
            with_reducible refine wpList_plain rfl ?_
            intro K hK
            go_simp
            first | with_reducible refine hK _ _ ?_ | refine hK _ _ ?_
            clear hK K
            (try simp only [Act.put, nA, nB, nC])
            with_reducible refine wpList_plain rfl ?_
            intro K hK
            go_simp
            first | with_reducible refine hK _ _ ?_ | refine hK _ _ ?_
            clear hK K
            (try simp only [Act.put, nA, nB, nC])
            obtain ⟨u, hu⟩ : ∃ u, wd1.heap.size = u := ⟨_, rfl⟩
            with_reducible refine wpList_plain rfl ?_
            intro K hK
            go_simp
            first | with_reducible refine hK _ _ ?_ | refine hK _ _ ?_
            clear hK K
            (try simp only [Act.put, nA, nB, nC])
            obtain ⟨we, hwe⟩ : ∃ W, wd1.alloc (.cells #[.string s1, .string s2] 9) = W := ⟨_, rfl⟩
            have Re : Hid (StrRow we (.slice (some ⟨u, 0, none⟩) 2 2) [s1, s2]) := by rw [← hwe]; exact StrRow.two wd1 s1 s2 _ u hu
            have be : Below wd1.heap.size wd1 we := by rw [← hwe]; exact (Below.refl _ _).alloc (Nat.le_refl _) _
            rw [hwe]
            have B5 := Lib.hid (B4.out.trans (be.mono hbC4))
            have hbe := be.size
            clear hwe be B4
            with_reducible refine wpList_plain rfl ?_
            intro K hK
            go_simp
            refine (Text_any knotTag _ [s1, s2] we (by decide +kernel) Re (by have := HL1.out; omega) (by simp)).mono ?_; rintro e wf ⟨rfl, hbf⟩; rw [hk1.out]
            first | with_reducible refine hK _ _ ?_ | refine hK _ _ ?_
            clear hK K
            (try simp only [Act.put, nA, nB, nC])
            have B6 := Lib.hid (B5.out.trans (hbf.mono (by omega)))
            have hbf2 := hbf.size
            clear hbf B5 Re
            with_reducible refine wpList_plain rfl ?_
            intro K hK
            go_simp
            first | with_reducible refine hK _ _ ?_ | refine hK _ _ ?_
            clear hK K
            (try simp only [Act.put, nA, nB, nC])
            with_reducible refine wpList_plain rfl ?_
            intro K hK
            go_simp
            first | with_reducible refine hK _ _ ?_ | refine hK _ _ ?_
            clear hK K
            (try simp only [Act.put, nA, nB, nC])
            with_reducible refine wpList_plain rfl ?_
            intro K hK
            go_simp
            first | with_reducible refine hK _ _ ?_ | refine hK _ _ ?_
            clear hK K
            (try simp only [Act.put, nA, nB, nC])
            with_reducible refine wpList_plain rfl ?_
            intro K hK
            go_simp
            first | with_reducible refine hK _ _ ?_ | refine hK _ _ ?_
            clear hK K
            (try simp only [Act.put, nA, nB, nC])
            go_upto_region 12 with fail
            with_reducible refine wp_region_list ?_
            with_reducible refine wpList_plain rfl ?_
            intro K hK
            go_simp
            first | with_reducible refine hK _ _ ?_ | refine hK _ _ ?_
            clear hK K
            (try simp only [Act.put, nA, nB, nC])
            with_reducible refine wpList_plain rfl ?_
            intro K hK
            go_simp
            first | with_reducible refine hK _ _ ?_ | refine hK _ _ ?_
            clear hK K
            (try simp only [Act.put, nA, nB, nC])
            obtain ⟨u2, hu2⟩ : ∃ u, wf.heap.size = u := ⟨_, rfl⟩
            with_reducible refine wpList_plain rfl ?_
            intro K hK
            go_simp
            first | with_reducible refine hK _ _ ?_ | refine hK _ _ ?_
            clear hK K
            (try simp only [Act.put, nA, nB, nC])
            obtain ⟨wg, hwg⟩ : ∃ W, wf.alloc (.cells #[.string s3, .string s4] 9) = W := ⟨_, rfl⟩
            have Rg : Hid (StrRow wg (.slice (some ⟨u2, 0, none⟩) 2 2) [s3, s4]) := by rw [← hwg]; exact StrRow.two wf s3 s4 _ u2 hu2
            have bg : Below wf.heap.size wf wg := by rw [← hwg]; exact (Below.refl _ _).alloc (Nat.le_refl _) _
            rw [hwg]
            have B7 := Lib.hid (B6.out.trans (bg.mono (by omega)))
            have hbg := bg.size
            clear hwg bg B6
            with_reducible refine wpList_plain rfl ?_
            intro K hK
            go_simp
            refine (Text_any knotTag _ [s3, s4] wg (by decide +kernel) Rg (by have := HL2.out; omega) (by simp)).mono ?_; rintro e wh ⟨rfl, hbh⟩; rw [hk2.out]
            first | with_reducible refine hK _ _ ?_ | refine hK _ _ ?_
            clear hK K
            (try simp only [Act.put, nA, nB, nC])
            have B8 := Lib.hid (B7.out.trans (hbh.mono (by omega)))
            clear hbh B7 Rg
            with_reducible refine wpList_plain rfl ?_
            intro K hK
            go_simp
            first | with_reducible refine hK _ _ ?_ | refine hK _ _ ?_
            clear hK K
            (try simp only [Act.put, nA, nB, nC])
            with_reducible refine wpList_plain rfl ?_
            intro K hK
            go_simp
            first | with_reducible refine hK _ _ ?_ | refine hK _ _ ?_
            clear hK K
            (try simp only [Act.put, nA, nB, nC])
            with_reducible refine wpList_plain rfl ?_
            intro K hK
            go_simp
            first | with_reducible refine hK _ _ ?_ | refine hK _ _ ?_
            clear hK K
            (try simp only [Act.put, nA, nB, nC])
            with_reducible refine wpList_plain rfl ?_
            intro K hK
            go_simp
            first | with_reducible refine hK _ _ ?_ | refine hK _ _ ?_
            clear hK K
            (try simp only [Act.put, nA, nB, nC])
            go_wp2_with fail
            go_ret3
            exact ⟨rfl, B8.out⟩
end Go.Proofs.Ytihbhpggpnmifaa

