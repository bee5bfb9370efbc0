/-
 What RingsPlays keeps from call to call; any step keeps it.
-/
import Derived.Test.YtihbhpggpnmifaaHM
import Derived.Test.YtihbhpggpnmifaaHK
import Derived.Test.YtihbhpggpnmifaaHL
import Derived.Test.YtihbhpggpnmifaaHN
import Derived.Test.YtihbhpggpnmifaaGX
import Derived.Test.YtihbhpggpnmifaaGR
import Derived.Lib.SmallJoins
set_option linter.unusedSimpArgs false
set_option linter.unusedVariables false
namespace Go.Proofs.Ytihbhpggpnmifaa
open Go.RowKit Go.Lib Hw
def Lab (lab : Nat → Nat) (t : Nat) (v : Value) : Prop := ∀ k, v.ownBlock = some k → lab k = t
def Slot (W : World) (q off : Nat) (cs : List Value) (B : Nat) (lab : Nat → Nat) (t : Nat) : Prop :=
 cs[off]? = some (.pointer none) ∨ ∃ p b lv rv wd L, PR W q off cs B p b lv rv wd L ∧ 1 ≤ wd ∧ wd ≤ 32 ∧ lab p = t ∧ lab b = t ∧ Lab lab t lv ∧ Lab lab t rv
theorem Slot.mod {W W' : World} {q off : Nat} {cs cs' : List Value} {B : Nat} {lab lab' : Nat → Nat} {t : Nat} (h : Slot W q off cs B lab t) {S : Nat → Prop} (m : Mod S W W') (hS : ∀ k, k < W.heap.size → S k → lab k ≠ t) (hb : W'.heap[q]? = some (.cells cs'.toArray 71 (0, 0))) (hl : cs'.length = 8) (e0 : cs'[off]? = cs[off]?) (e1 : cs'[off + 1]? = cs[off + 1]?) (e2 : cs'[off + 2]? = cs[off + 2]?) (hlab : ∀ k, k < W.heap.size → lab' k = lab k) : Slot W' q off cs' B lab' t := by
 rcases h with h | ⟨p, b, lv, rv, wd, L, hp, h1, h2, hlp, hlb, hll, hlr⟩
 ·exact .inl (e0.trans h)
 ·have zp := hp.log.lt
  have zb := hp.log.ltb
  have zl : ∀ k, lv.ownBlock = some k → k < W.heap.size := fun k hk => (hp.log.leaves.lt k hk).2
  have zr : ∀ k, rv.ownBlock = some k → k < W.heap.size := fun k hk => (hp.row.lt k hk).2
  exact .inr ⟨p, b, lv, rv, wd, L, hp.recs hb hl e0 e1 e2 m (fun e => hS p zp e hlp) (fun e => hS b zb e hlb) (fun k hk e => hS k (zl k hk) e (hll k hk)) (fun k hk e => hS k (zr k hk) e (hlr k hk)), h1, h2, (hlab p zp).trans hlp, (hlab b zb).trans hlb, fun k hk => (hlab k (zl k hk)).trans (hll k hk), fun k hk => (hlab k (zr k hk)).trans (hlr k hk)⟩
structure Told (W : World) (B : Nat) (lab : Nat → Nat) (ts ws : List Value) (Ts : List (List Dg)) : Prop where
 tl : ts.length = Ts.length
 wl : ws.length = Ts.length
 told : ∀ j (h1 : j < ts.length) (h3 : j < Ts.length), OwnR W B ts[j] Ts[j] ∧ Lab lab (6 + j) ts[j]
 want : ∀ j (h2 : j < ws.length) (h3 : j < Ts.length), OwnR W B ws[j] Ts[j] ∧ Lab lab 5 ws[j]
 all : ∀ xs ∈ Ts, All32 xs ∧ xs.length ≤ 1048576
theorem Told.mod {W W' : World} {B : Nat} {lab lab' : Nat → Nat} {ts ws : List Value} {Ts : List (List Dg)} (h : Told W B lab ts ws Ts) {S : Nat → Prop} (m : Mod S W W') (hS : ∀ k, k < W.heap.size → S k → lab k < 5) (hlab : ∀ k, k < W.heap.size → lab' k = lab k) : Told W' B lab' ts ws Ts :=
 ⟨h.tl, h.wl, fun j h1 h3 => ⟨(h.told j h1 h3).1.mod m (fun k hk e => by have h4 := hS k ((h.told j h1 h3).1.lt k hk).2 e; have := (h.told j h1 h3).2 k hk; omega), fun k hk => (hlab k ((h.told j h1 h3).1.lt k hk).2).trans ((h.told j h1 h3).2 k hk)⟩,
  fun j h2 h3 => ⟨(h.want j h2 h3).1.mod m (fun k hk e => by have h4 := hS k ((h.want j h2 h3).1.lt k hk).2 e; have := (h.want j h2 h3).2 k hk; omega), fun k hk => (hlab k ((h.want j h2 h3).1.lt k hk).2).trans ((h.want j h2 h3).2 k hk)⟩, h.all⟩
structure WI (W : World) (q B : Nat) (cs : List Value) (lab : Nat → Nat) (ts ws : List Value) (Ts : List (List Dg)) : Prop where
 blk : W.heap[q]? = some (.cells cs.toArray 71 (0, 0))
 len : cs.length = 8
 sA : Slot W q 0 cs B lab 1
 sB : Slot W q 3 cs B lab 2
 tell : ∃ tv wv, cs[6]? = some tv ∧ cs[7]? = some wv ∧ TW W q B tv wv ts ws ∧ Lab lab 3 tv ∧ Lab lab 4 wv
 lq : lab q = 0
 told : Told W B lab ts ws Ts
 qB : B ≤ q
def StepOK (w : World) (q B : Nat) (Ts : List (List Dg)) (e : Ending) (w' : World) : Prop :=
 e = .returned (.bool true) ∧ ∃ cs lab ts ws Ts', WI w' q B cs lab ts ws Ts' ∧ Ts'.length ≤ Ts.length + 2 ∧ Below B w w'
theorem WI.quiet {W W' : World} {q B : Nat} {cs : List Value} {lab : Nat → Nat} {ts ws : List Value} {Ts : List (List Dg)} (h : WI W q B cs lab ts ws Ts) (m : Below W.heap.size W W') : WI W' q B cs lab ts ws Ts := by
 have mm : Mod (fun _ => False) W W' := Mod.of _ m
 have hb := heap_below h.blk m (heap_lt h.blk)
 obtain ⟨tv, wv, h6, h7, ht, l3, l4⟩ := h.tell
 exact ⟨hb, h.len, h.sA.mod mm (fun _ _ e => e.elim) hb h.len rfl rfl rfl (fun _ _ => rfl), h.sB.mod mm (fun _ _ e => e.elim) hb h.len rfl rfl rfl (fun _ _ => rfl), ⟨tv, wv, h6, h7, ht.mod mm (fun _ _ e => e) (fun _ _ e => e), l3, l4⟩, h.lq, h.told.mod mm (fun _ _ e => e.elim) (fun _ _ => rfl), h.qB⟩
theorem WI.stepOK {W W' : World} {q B : Nat} {cs : List Value} {lab : Nat → Nat} {ts ws : List Value} {Ts : List (List Dg)} (h : WI W q B cs lab ts ws Ts) {e : Ending} (hh : e = .returned (.bool true) ∧ Below W.heap.size W W') : StepOK W q B Ts e W' :=
 ⟨hh.1, cs, lab, ts, ws, Ts, h.quiet hh.2, by omega, hh.2.mono (by have := heap_lt h.blk; have := h.qB; omega)⟩
theorem WI.turn {W W' : World} {q B : Nat} {cs : List Value} {lab : Nat → Nat} {ts ws : List Value} {Ts : List (List Dg)} (h : WI W q B cs lab ts ws Ts) {off t : Nat} (ho : off = 0 ∧ t = 1 ∨ off = 3 ∧ t = 2) {p b : Nat} {lv rv : Value} {wd : Nat} {L : List Dg} (hp : PR W q off cs B p b lv rv wd L) (hw : 1 ≤ wd) (hwd : wd ≤ 32) (lp : lab p = t) (lb : lab b = t) (ll : Lab lab t lv) (lr : Lab lab t rv)
  {rv' lv' : Value} {L' : List Dg} (hp' : PR W' q off (cs.set (off + 2) rv') B p b lv' rv' wd L') {S : Nat → Prop} (m : Mod S W W') (hS : ∀ k, S k → k = q ∨ k = p ∨ k = b ∨ lv.ownBlock = some k ∨ rv.ownBlock = some k) (nl : ∀ k, lv'.ownBlock = some k → lv.ownBlock = some k ∨ W.heap.size ≤ k) (nr : ∀ k, rv'.ownBlock = some k → rv.ownBlock = some k ∨ W.heap.size ≤ k) :
  ∃ lab', WI W' q B (cs.set (off + 2) rv') lab' ts ws Ts := by
 obtain ⟨lab', hlab⟩ : ∃ f : Nat → Nat, f = fun k => if k < W.heap.size then lab k else t := ⟨_, rfl⟩
 have old : ∀ k, k < W.heap.size → lab' k = lab k := fun k hk => by rw [hlab]; simp [hk]
 have new : ∀ k, W.heap.size ≤ k → lab' k = t := fun k hk => by rw [hlab]; simp; omega
 have hS2 : ∀ k, S k → lab k = 0 ∨ lab k = t := fun k hk => by
  rcases hS k hk with e | e | e | e | e
  ·left; rw [e]; exact h.lq
  ·right; rw [e]; exact lp
  ·right; rw [e]; exact lb
  ·right; exact ll k e
  ·right; exact lr k e
 have hself : Slot W' q off (cs.set (off + 2) rv') B lab' t := .inr ⟨p, b, lv', rv', wd, L', hp', hw, hwd, (old p hp.log.lt).trans lp, (old b hp.log.ltb).trans lb, fun k hk => by
   rcases nl k hk with e | e
   ·exact (old k (hp.log.leaves.lt k e).2).trans (ll k e)
   ·exact new k e, fun k hk => by
   rcases nr k hk with e | e
   ·exact (old k (hp.row.lt k e).2).trans (lr k e)
   ·exact new k e⟩
 obtain ⟨tv, wv, h6, h7, ht, l3, l4⟩ := h.tell
 have zt : ∀ k, tv.ownBlock = some k → k < W.heap.size := fun k hk => (ht.t.lt k hk).2
 have zw : ∀ k, wv.ownBlock = some k → k < W.heap.size := fun k hk => (ht.w.lt k hk).2
 have set_ne : ∀ i, i ≠ off + 2 → (cs.set (off + 2) rv')[i]? = cs[i]? := fun i hi => by rw [List.getElem?_set_ne (by omega)]
 refine ⟨lab', hp'.blk, hp'.len, ?_, ?_, ⟨tv, wv, by rw [set_ne 6 (by omega)]; exact h6, by rw [set_ne 7 (by omega)]; exact h7, ht.mod m (fun k hk e => ?_) (fun k hk e => ?_), fun k hk => (old k (zt k hk)).trans (l3 k hk), fun k hk => (old k (zw k hk)).trans (l4 k hk)⟩, (old q (heap_lt h.blk)).trans h.lq, h.told.mod m (fun k hk e => ?_) old, h.qB⟩
 ·rcases ho with ⟨rfl, rfl⟩ | ⟨rfl, rfl⟩
  ·exact hself
  ·exact h.sA.mod m (fun k hk e => by have := hS2 k e; omega) hp'.blk hp'.len (set_ne 0 (by omega)) (set_ne 1 (by omega)) (set_ne 2 (by omega)) old
 ·rcases ho with ⟨rfl, rfl⟩ | ⟨rfl, rfl⟩
  ·exact h.sB.mod m (fun k hk e => by have := hS2 k e; omega) hp'.blk hp'.len (set_ne 3 (by omega)) (set_ne 4 (by omega)) (set_ne 5 (by omega)) old
  ·exact hself
 ·have h1 := l3 k hk
  have := hS2 k e
  omega
 ·have h1 := l4 k hk
  have := hS2 k e
  omega
 ·have := hS2 k e
  omega
theorem WI.tells {W W' : World} {q B : Nat} {c0 c1 c2 c3 c4 c5 tv wv : Value} {lab : Nat → Nat} {ts ws : List Value} {Ts : List (List Dg)} (h : WI W q B [c0, c1, c2, c3, c4, c5, tv, wv] lab ts ws Ts) {off t : Nat} (ho : off = 0 ∧ t = 1 ∨ off = 3 ∧ t = 2) {p b : Nat} {lv rv : Value} {wd : Nat} {L TR : List Dg} (hp : PR W q off [c0, c1, c2, c3, c4, c5, tv, wv] B p b lv rv wd L) (hw : 1 ≤ wd) (hwd : wd ≤ 32) (lp : lab p = t) (lb : lab b = t) (ll : Lab lab t lv) (lr : Lab lab t rv)
  (hTa : All32 TR) (hTl : TR.length ≤ 1048576) {e : Ending} (hh : ToldPost W q off c0 c1 c2 c3 c4 c5 tv wv B p b lv rv wd L ts ws TR e W') : StepOK W q B Ts e W' := by
 obtain ⟨he, tv', wv', va, vb, vc, x, y, z, hp', ht', m, oa, ob, oc, ⟨hx, hy, hz⟩, ba, bb, bc, nt, nw⟩ := hh
 obtain ⟨tv0, wv0, h6, h7, ht, l3, l4⟩ := h.tell
 obtain rfl : tv = tv0 := Option.some.inj h6
 obtain rfl : wv = wv0 := Option.some.inj h7
 obtain ⟨lab', hlab⟩ : ∃ f : Nat → Nat, f = fun k => if k < W.heap.size then lab k else if k < x then 6 + ts.length else if k < y then 6 + (ts.length + 1) else if k < z then 5 else if tv'.ownBlock = some k then 3 else 4 := ⟨_, rfl⟩
 have old : ∀ k, k < W.heap.size → lab' k = lab k := fun k hk => by rw [hlab]; simp [hk]
 have zt : ∀ k, tv.ownBlock = some k → k < W.heap.size := fun k hk => (ht.t.lt k hk).2
 have zw : ∀ k, wv.ownBlock = some k → k < W.heap.size := fun k hk => (ht.w.lt k hk).2
 have hS2 : ∀ k, (k = b ∨ k = q ∨ tv.ownBlock = some k ∨ wv.ownBlock = some k) → lab k = 0 ∨ lab k = t ∨ lab k = 3 ∨ lab k = 4 := fun k hk => by
  rcases hk with e | e | e | e
  ·right; left; rw [e]; exact lb
  ·left; rw [e]; exact h.lq
  ·right; right; left; exact l3 k e
  ·right; right; right; exact l4 k e
 have hself : Slot W' q off [c0, c1, c2, c3, c4, c5, tv', wv'] B lab' t := .inr ⟨p, b, lv, rv, wd, L, hp', hw, hwd, (old p hp.log.lt).trans lp, (old b hp.log.ltb).trans lb, fun k hk => (old k (hp.log.leaves.lt k hk).2).trans (ll k hk), fun k hk => (old k (hp.row.lt k hk).2).trans (lr k hk)⟩
 have tl := h.told.tl
 have wl := h.told.wl
 have tm := h.told.mod (lab' := lab') m (fun k hk e => by have := hS2 k e; omega) old
 refine ⟨he, [c0, c1, c2, c3, c4, c5, tv', wv'], lab', ts ++ [va, vb], ws ++ [vc, vc], Ts ++ [TR, TR], ⟨hp'.blk, rfl, ?_, ?_, ⟨tv', wv', rfl, rfl, ht', fun k hk => ?_, fun k hk => ?_⟩, (old q (heap_lt h.blk)).trans h.lq, ⟨by simp [tl], by simp [wl], fun j h1 h3 => ?_, fun j h2 h3 => ?_, fun xs hxs => ?_⟩, h.qB⟩, by simp, ?_⟩
 ·rcases ho with ⟨rfl, rfl⟩ | ⟨rfl, rfl⟩
  ·exact hself
  ·exact h.sA.mod m (fun k hk e => by have := hS2 k e; omega) hp'.blk rfl rfl rfl rfl old
 ·rcases ho with ⟨rfl, rfl⟩ | ⟨rfl, rfl⟩
  ·exact h.sB.mod m (fun k hk e => by have := hS2 k e; omega) hp'.blk rfl rfl rfl rfl old
  ·exact hself
 ·rcases nt k hk with e | e
  ·exact (old k (zt k e)).trans (l3 k e)
  ·rw [hlab]
   simp only
   rw [if_neg (by omega), if_neg (by omega), if_neg (by omega), if_neg (by omega), if_pos hk]
 ·rcases nw k hk with e | e
  ·exact (old k (zw k e)).trans (l4 k e)
  ·rw [hlab]
   simp only
   rw [if_neg (by omega), if_neg (by omega), if_neg (by omega), if_neg (by omega), if_neg (fun e2 => ht'.tw k e2 hk)]
 ·rcases Nat.lt_or_ge j ts.length with e | e
  ·have e3 : j < Ts.length := by omega
   simp only [List.getElem_append_left e, List.getElem_append_left e3]
   exact tm.told j e e3
  ·rw [List.length_append] at h1
   simp only [List.length_cons, List.length_nil] at h1
   have e4 : j = ts.length ∨ j = ts.length + 1 := by omega
   rcases e4 with rfl | rfl
   ·have e5 : (ts ++ [va, vb])[ts.length]'(by simp) = va := by rw [List.getElem_append_right (Nat.le_refl _)]; simp
    have e6 : ∀ (hh : ts.length < (Ts ++ [TR, TR]).length), (Ts ++ [TR, TR])[ts.length] = TR := fun hh => by rw [List.getElem_append_right (by omega)]; simp [tl]
    rw [e5, e6]
    refine ⟨oa, fun k hk => ?_⟩
    have := ba k hk
    rw [hlab]
    simp only
    rw [if_neg (by omega), if_pos (by omega)]
   ·have e5 : (ts ++ [va, vb])[ts.length + 1]'(by simp) = vb := by rw [List.getElem_append_right (by omega)]; simp
    have e6 : ∀ (hh : ts.length + 1 < (Ts ++ [TR, TR]).length), (Ts ++ [TR, TR])[ts.length + 1] = TR := fun hh => by rw [List.getElem_append_right (by omega)]; simp [tl]
    rw [e5, e6]
    refine ⟨ob, fun k hk => ?_⟩
    have := bb k hk
    rw [hlab]
    simp only
    rw [if_neg (by omega), if_neg (by omega), if_pos (by omega)]
 ·rcases Nat.lt_or_ge j ws.length with e | e
  ·have e3 : j < Ts.length := by omega
   simp only [List.getElem_append_left e, List.getElem_append_left e3]
   exact tm.want j e e3
  ·rw [List.length_append] at h2
   simp only [List.length_cons, List.length_nil] at h2
   have e5 : (ws ++ [vc, vc])[j]'(by simp; omega) = vc := by
    rw [List.getElem_append_right e]
    have : j - ws.length = 0 ∨ j - ws.length = 1 := by omega
    rcases this with e7 | e7 <;> simp [e7]
   have e6 : ∀ (hh : j < (Ts ++ [TR, TR]).length), (Ts ++ [TR, TR])[j] = TR := fun hh => by
    rw [List.getElem_append_right (by omega)]
    have : j - Ts.length = 0 ∨ j - Ts.length = 1 := by omega
    rcases this with e7 | e7 <;> simp [e7]
   rw [e5, e6]
   refine ⟨oc, fun k hk => ?_⟩
   have := bc k hk
   rw [hlab]
   simp only
   rw [if_neg (by omega), if_neg (by omega), if_neg (by omega), if_pos (by omega)]
 ·rcases List.mem_append.1 hxs with e | e
  ·exact h.told.all xs e
  ·have : xs = TR := by simpa using e
   rw [this]
   exact ⟨hTa, hTl⟩
 ·refine m.below (fun k hk e => ?_) (by have := heap_lt h.blk; have := h.qB; omega)
  rcases e with e | e | e | e
  ·have := hp.log.hb; omega
  ·have := h.qB; omega
  ·have := (ht.t.lt k e).1; omega
  ·have := (ht.w.lt k e).1; omega
end Go.Proofs.Ytihbhpggpnmifaa
namespace Go.Proofs.Ytihbhpggpnmifaa
open Go.RowKit Go.Lib Hw
structure StepIn (w : World) (B : Nat) (texts digs : Value) (ss : List ByteArray) (ds : List Dg) (n s : Nat) : Prop where
 row : StrRow w texts ss
 low : 0 < ss.length → ∀ k, texts.ownBlock = some k → k < B
 each : ∀ x ∈ ss, x.size ≤ 140737488351232
 many : ss.length * 16 ≤ 140737488355240
 drow : DRow w B digs ds
 nil : NilOk digs
 dmany : ds.length * 32 ≤ 140737488351232
 n64 : n < 18446744073709551616
 s64 : s < 18446744073709551616
theorem StepIn.low' {w w' : World} {B : Nat} {texts digs : Value} {ss : List ByteArray} {ds : List Dg} {n s : Nat} (h : StepIn w B texts digs ss ds n s) (hb : Below B w w') (hB : B ≤ w.heap.size) : StepIn w' B texts digs ss ds n s := by
 have m : Mod (fun k => B ≤ k) w w' := ⟨hb.os, hb.tape, hb.output, hb.size, fun k hk hn => hb.block k (by omega)⟩
 exact ⟨h.row.modp m (fun hp k hk e => by have := h.low hp k hk; omega), h.low, h.each, h.many, h.drow.low hb hB, h.nil, h.dmany, h.n64, h.s64⟩
theorem eight {cs : List Value} (h : cs.length = 8) : ∃ c0 c1 c2 c3 c4 c5 c6 c7, cs = [c0, c1, c2, c3, c4, c5, c6, c7] := by
 match cs, h with
 | [c0, c1, c2, c3, c4, c5, c6, c7], _ => exact ⟨c0, c1, c2, c3, c4, c5, c6, c7, rfl⟩
theorem laid_ok {w w' : World} {q B : Nat} {cs : List Value} {lab : Nat → Nat} {ts ws : List Value} {Ts : List (List Dg)} (h : WI w q B cs lab ts ws Ts) {off t : Nat} (ho : off = 0 ∧ t = 1 ∨ off = 3 ∧ t = 2) {p b : Nat} {lv rv : Value} {wd : Nat} {L : List Dg} (hp : PR w q off cs B p b lv rv wd L) (hw : 1 ≤ wd) (hwd : wd ≤ 32) (lp : lab p = t) (lb : lab b = t) (ll : Lab lab t lv) (lr : Lab lab t rv) {e : Ending} (hh : LaidPost w q off cs B p b lv rv wd e w') : StepOK w q B Ts e w' := by
 obtain ⟨he, lv', rv', L', hp', m, nl, nr⟩ := hh
 obtain ⟨lab', hw'⟩ := h.turn ho hp hw hwd lp lb ll lr hp' m (fun k hk => by rcases hk with e | e | e | e; exact .inl e; exact .inr (.inl e); exact .inr (.inr (.inr (.inl e))); exact .inr (.inr (.inr (.inr e)))) nl nr
 refine ⟨he, _, lab', ts, ws, Ts, hw', by omega, m.below (fun k hk e => ?_) (by have := heap_lt h.blk; have := h.qB; omega)⟩
 rcases e with e | e | e | e
 ·have := h.qB; omega
 ·have := hp.log.hp; omega
 ·have := (hp.log.leaves.lt k e).1; omega
 ·have := (hp.row.lt k e).1; omega
theorem step_any (w : World) (q B : Nat) (cs : List Value) (lab : Nat → Nat) (ts ws : List Value) (Ts : List (List Dg)) (h : WI w q B cs lab ts ws Ts) (off t : Nat) (ho : off = 0 ∧ t = 1 ∨ off = 3 ∧ t = 2) (p b : Nat) (lv rv : Value) (wd : Nat) (L : List Dg) (hp : PR w q off cs B p b lv rv wd L) (hw : 1 ≤ wd) (hwd : wd ≤ 32) (lp : lab p = t) (lb : lab b = t) (ll : Lab lab t lv) (lr : Lab lab t rv)
  (d who : Int) (texts digs : Value) (n s : Nat) (ss : List ByteArray) (ds : List Dg) (hs : StepIn w B texts digs ss ds n s) (hT : Ts.length ≤ 5000000000000) :
  Calls Try.prog 37 #[.pointer (some ⟨q, 0, none⟩), .pointer (some ⟨q, off, none⟩), stepV d who texts digs n s] w (StepOK w q B Ts) := by
 have hoff : off = 0 ∨ off = 3 := ho.elim (fun h => .inl h.1) (fun h => .inr h.1)
 have ht : t = 1 ∨ t = 2 := ho.elim (fun h => .inl h.2) (fun h => .inr h.2)
 have hB : B ≤ w.heap.size := by have := heap_lt h.blk; have := h.qB; omega
 have hLl := hp.log.len
 by_cases d0 : d = 0
 ·subst d0
  by_cases hn : L.length + ss.length ≤ 1048576
  ·exact (step_0_yes w q off cs B p b lv rv wd L who texts digs n s ss hp hw hwd hoff hs.row hs.low hs.each hs.many hB h.qB hn).mono (fun e w' hh => laid_ok h ho hp hw hwd lp lb ll lr hh)
  ·exact (step_0_full w q off cs B p b lv rv wd L who texts digs n s ss hp hw hwd hoff hs.row hs.low hs.each hs.many hB h.qB (by omega)).mono (fun e w' hh => laid_ok h ho hp hw hwd lp lb ll lr hh)
 by_cases d1 : d = 1
 ·subst d1
  exact (step_1 w q off cs B p b lv rv wd L who texts digs n s ds hp hw hwd hoff hs.drow hs.nil hs.dmany hB h.qB).mono (fun e w' hh => laid_ok h ho hp hw hwd lp lb ll lr hh)
 by_cases d2 : d = 2
 ·subst d2
  by_cases hn : n < L.length
  ·exact (step_2_yes w q off cs B p b lv rv wd L who texts digs n s hp hw hn hs.n64).mono (fun e w' hh => h.stepOK hh)
  ·exact (step_2_no w q off cs B p b lv rv wd L who texts digs n s hp hw (by omega) hs.n64).mono (fun e w' hh => h.stepOK hh)
 by_cases d3 : d = 3
 ·subst d3
  by_cases hn : s ≤ L.length
  ·refine (step_3_yes w q off cs B p b lv rv wd L who texts digs n s hp hw hwd hn hs.s64).mono (fun e w' hh => ?_)
   obtain ⟨he, hp', m⟩ := hh
   have hcs : cs.set (off + 2) rv = cs := set_same _ _ _ hp.c2
   rw [← hcs] at hp'
   obtain ⟨lab', hw'⟩ := h.turn ho hp hw hwd lp lb ll lr hp' m (fun k hk => .inr (.inr (.inl hk))) (fun k hk => .inl hk) (fun k hk => .inl hk)
   exact ⟨he, _, lab', ts, ws, Ts, hw', by omega, m.below (fun k hk e => by have := hp.log.hb; omega) hB⟩
  ·exact (step_3_no w q off cs B p b lv rv wd L who texts digs n s hp hw (by omega) hs.s64).mono (fun e w' hh => h.stepOK hh)
 by_cases d4 : d = 4
 ·subst d4
  by_cases hn : L.length < s ∨ s ≤ n
  ·exact (step_4_no w q off cs B p b lv rv wd L who texts digs n s hp hw hn hs.n64 hs.s64).mono (fun e w' hh => h.stepOK hh)
  ·obtain ⟨c0, c1, c2, c3, c4, c5, c6, c7, rfl⟩ := eight h.len
   obtain ⟨tv, wv, h6, h7, htw, l3, l4⟩ := h.tell
   obtain rfl : c6 = tv := Option.some.inj h6
   obtain rfl : c7 = wv := Option.some.inj h7
   refine (step_4_yes w q off c0 c1 c2 c3 c4 c5 c6 c7 B p b lv rv wd L ts ws who texts digs n s hp htw hw hwd (by omega) (by omega) hoff (fun k hk => ?_) hB (by rw [h.told.tl]; exact hT) (by rw [h.told.wl]; exact hT)).mono (fun e w' hh => h.tells ho hp hw hwd lp lb ll lr (trail_all32 wd L hp.log.all s 0 n (by omega)) (by have := trail_len wd L s 0 n; omega) hh)
   have hk3 : lab k = 3 ∨ lab k = 4 := hk.elim (fun e => .inl (l3 k e)) (fun e => .inr (l4 k e))
   exact ⟨fun e => by rw [e] at hk3; omega, fun e => by rw [e] at hk3; omega, fun e => by have := ll k e; omega, fun e => by have := lr k e; omega⟩
 by_cases d5 : d = 5
 ·subst d5
  by_cases hn : L.length < s ∨ s < n
  ·exact (step_5_no w q off cs B p b lv rv wd L who texts digs n s hp hw hn hs.n64 hs.s64).mono (fun e w' hh => h.stepOK hh)
  ·obtain ⟨c0, c1, c2, c3, c4, c5, c6, c7, rfl⟩ := eight h.len
   obtain ⟨tv, wv, h6, h7, htw, l3, l4⟩ := h.tell
   obtain rfl : c6 = tv := Option.some.inj h6
   obtain rfl : c7 = wv := Option.some.inj h7
   have hsA : All32 (sinceD wd L n s) := by
    unfold sinceD
    by_cases h0 : n = 0 ∨ n = s
    ·rw [if_pos h0]; exact All32.nil
    ·rw [if_neg h0]; exact since_all32 wd L hp.log.all s 0 n true (by omega) (by omega) (by omega)
   have hsL : (sinceD wd L n s).length ≤ 1048576 := by
    unfold sinceD
    by_cases h0 : n = 0 ∨ n = s
    ·rw [if_pos h0]; simp
    ·rw [if_neg h0]; have := since_ln wd L s 0 n true (by omega) (by omega); omega
   refine (step_5_yes w q off c0 c1 c2 c3 c4 c5 c6 c7 B p b lv rv wd L ts ws who texts digs n s hp htw hw hwd (by omega) (by omega) hoff (fun k hk => ?_) hB (by rw [h.told.tl]; exact hT) (by rw [h.told.wl]; exact hT)).mono (fun e w' hh => h.tells ho hp hw hwd lp lb ll lr hsA hsL hh)
   have hk3 : lab k = 3 ∨ lab k = 4 := hk.elim (fun e => .inl (l3 k e)) (fun e => .inr (l4 k e))
   exact ⟨fun e => by rw [e] at hk3; omega, fun e => by rw [e] at hk3; omega, fun e => by have := ll k e; omega, fun e => by have := lr k e; omega⟩
 by_cases d6 : d = 6
 ·subst d6
  exact (step_6 w q off cs B p b lv rv wd L who texts digs n s hp hw).mono (fun e w' hh => h.stepOK hh)
 exact (step_other w q off cs B p b lv rv wd L d who texts digs n s hp (by omega)).mono (fun e w' hh => h.stepOK hh)
def BegunA (w : World) (n : Int) (e : Ending) (w' : World) : Prop :=
 ∃ po ad ln cap, e = .returned (.tuple #[.pointer po, .slice ad ln cap, .bool true]) ∧ Below w.heap.size w w' ∧
  (po = none ∨ ∃ (p b : Nat) (lv : Value) (wd : Nat) (L : List Dg), po = some ⟨p, 0, none⟩ ∧ n = (wd : Int) ∧ 1 ≤ wd ∧ wd ≤ 32 ∧ LogB w' w.heap.size p b lv wd L ∧ OwnR w' w.heap.size (.slice ad ln cap) L ∧ (∀ g, (Value.slice ad ln cap).ownBlock = some g → g ≠ p ∧ g ≠ b ∧ lv.ownBlock ≠ some g))
theorem begun_any (n : Int) (v : Value) (l : List ByteArray) (w : World) (hv : StrRow w v l) (hl : l.length * 16 ≤ 140737488355240) (hsz : ∀ s ∈ l, s.size ≤ 140737488351232) :
  Calls Try.prog 36 #[.int .i64 n, v] w (BegunA w n) := by
 by_cases hn : 1 ≤ n ∧ n ≤ 32
 ·obtain ⟨wd, hwd⟩ : ∃ wd : Nat, n = (wd : Int) := ⟨n.toNat, by omega⟩
  subst hwd
  by_cases hb : 1048576 < l.length
  ·refine (begun_full wd (by omega) (by omega) v l w hv hl hb).mono (fun e w' hh => ?_)
   exact ⟨none, none, 0, 0, hh.1, hh.2, .inl rfl⟩
  ·refine (begun_ok wd (by omega) (by omega) v l w hv (by omega) hsz).mono (fun e w' hh => ?_)
   obtain ⟨p, b, lv, rv, he, h1, h2, h3, h4⟩ := hh
   obtain ⟨ad, cap, rfl, _⟩ := h2.shape
   exact ⟨_, ad, _, cap, he, h4, .inr ⟨p, b, lv, wd, _, rfl, rfl, by omega, by omega, h1, h2, h3⟩⟩
 ·have hw : wideB n = false := by
   simp only [wideB]
   by_cases h1 : 1 ≤ n
   ·have : ¬ n ≤ 32 := fun h => hn ⟨h1, h⟩
    simp [this]
   ·simp [h1]
  refine (begun_bad n v l w hw hv hl).mono (fun e w' hh => ?_)
  exact ⟨none, none, 0, 0, hh.1, hh.2, .inl rfl⟩
theorem LogB.mono {w : World} {B C p b : Nat} {lv : Value} {wd : Nat} {L : List Dg} (h : LogB w B p b lv wd L) (hC : C ≤ B) : LogB w C p b lv wd L :=
 ⟨h.cells, h.leaves.mono hC, h.all, h.map, by have := h.hp; omega, by have := h.hb; omega, h.hpb, h.hlp, h.hlb, h.len⟩
def Pre (W : World) (B lo hi : Nat) (po : Option Addr) (n : Int) (rv : Value) : Prop :=
 po = none ∨ ∃ (p b : Nat) (lv : Value) (wd : Nat) (L : List Dg), po = some ⟨p, 0, none⟩ ∧ n = (wd : Int) ∧ 1 ≤ wd ∧ wd ≤ 32 ∧ LogB W B p b lv wd L ∧ OwnR W B rv L ∧ (∀ g, rv.ownBlock = some g → g ≠ p ∧ g ≠ b ∧ lv.ownBlock ≠ some g) ∧ (lo ≤ p ∧ p < hi) ∧ (lo ≤ b ∧ b < hi) ∧ (∀ k, lv.ownBlock = some k → lo ≤ k ∧ k < hi) ∧ (∀ k, rv.ownBlock = some k → lo ≤ k ∧ k < hi)
theorem BegunA.pre {w w' : World} {n : Int} {po : Option Addr} {ad : Option Addr} {ln cap : Nat} {B : Nat} (hB : B ≤ w.heap.size)
  (h : po = none ∨ ∃ (p b : Nat) (lv : Value) (wd : Nat) (L : List Dg), po = some ⟨p, 0, none⟩ ∧ n = (wd : Int) ∧ 1 ≤ wd ∧ wd ≤ 32 ∧ LogB w' w.heap.size p b lv wd L ∧ OwnR w' w.heap.size (.slice ad ln cap) L ∧ (∀ g, (Value.slice ad ln cap).ownBlock = some g → g ≠ p ∧ g ≠ b ∧ lv.ownBlock ≠ some g)) : Pre w' B w.heap.size w'.heap.size po n (.slice ad ln cap) := by
 rcases h with h | ⟨p, b, lv, wd, L, hp, hn, h1, h2, hl, ho, hd⟩
 ·exact .inl h
 ·exact .inr ⟨p, b, lv, wd, L, hp, hn, h1, h2, hl.mono hB, ho.mono hB, hd, ⟨hl.hp, hl.lt⟩, ⟨hl.hb, hl.ltb⟩, fun k hk => hl.leaves.lt k hk, fun k hk => ho.lt k hk⟩
theorem Pre.below {W W' : World} {B lo hi : Nat} {po : Option Addr} {n : Int} {rv : Value} (h : Pre W B lo hi po n rv) (hb : Below W.heap.size W W') : Pre W' B lo hi po n rv := by
 rcases h with h | ⟨p, b, lv, wd, L, hp, hn, h1, h2, hl, ho, r⟩
 ·exact .inl h
 ·exact .inr ⟨p, b, lv, wd, L, hp, hn, h1, h2, hl.below hb, ho.below hb (fun g hg => (ho.lt g hg).2), r⟩
theorem Pre.slot {W : World} {B lo hi q off : Nat} {po : Option Addr} {n : Int} {rv : Value} {cs : List Value} {lab : Nat → Nat} {t : Nat} (h : Pre W B lo hi po n rv) (hq : hi ≤ q) (blk : W.heap[q]? = some (.cells cs.toArray 71 (0, 0))) (hl : cs.length = 8) (e0 : cs[off]? = some (.pointer po)) (e1 : cs[off + 1]? = some (.int .i64 n)) (e2 : cs[off + 2]? = some rv) (hlab : ∀ k, lo ≤ k → k < hi → lab k = t) : Slot W q off cs B lab t := by
 rcases h with h | ⟨p, b, lv, wd, L, hp, hn, h1, h2, hlg, ho, hd, z1, z2, z3, z4⟩
 ·left; rw [e0, h]
 ·subst hp
  subst hn
  exact .inr ⟨p, b, lv, rv, wd, L, ⟨blk, hl, e0, e1, e2, hlg, ho, by omega, by omega, fun e => by have := z3 q e; omega, fun e => by have := z4 q e; omega, fun e => (hd p e).1 rfl, fun e => (hd b e).2.1 rfl, fun g hg => (hd g hg).2.2⟩, h1, h2, hlab p z1.1 z1.2, hlab b z2.1 z2.2, fun k hk => hlab k (z3 k hk).1 (z3 k hk).2, fun k hk => hlab k (z4 k hk).1 (z4 k hk).2⟩
theorem WI.start {W : World} {q B lo mid hi : Nat} {pa pb : Option Addr} {na nb : Int} {ra rb : Value} (ha : Pre W B lo mid pa na ra) (hb : Pre W B mid hi pb nb rb) (h1 : B ≤ q) (h2 : mid ≤ hi) (h3 : hi ≤ q) (blk : W.heap[q]? = some (.cells #[.pointer pa, .int .i64 na, ra, .pointer pb, .int .i64 nb, rb, .slice none 0 0, .slice none 0 0] 71 (0, 0))) : ∃ lab, WI W q B [.pointer pa, .int .i64 na, ra, .pointer pb, .int .i64 nb, rb, .slice none 0 0, .slice none 0 0] lab [] [] [] := by
 obtain ⟨lab, hlab⟩ : ∃ f : Nat → Nat, f = fun k => if k = q then 0 else if k < mid then 1 else 2 := ⟨_, rfl⟩
 refine ⟨lab, blk, rfl, ha.slot (by omega) blk rfl rfl rfl rfl (fun k k1 k2 => ?_), hb.slot (by omega) blk rfl rfl rfl rfl (fun k k1 k2 => ?_), ⟨.slice none 0 0, .slice none 0 0, rfl, rfl, ⟨OwnW.nil W B, OwnW.nil W B, (fun e => nomatch e), (fun e => nomatch e), (fun g e => nomatch e)⟩, (fun k e => nomatch e), (fun k e => nomatch e)⟩, by rw [hlab]; simp, ⟨rfl, rfl, (fun j h => absurd h (Nat.not_lt_zero _)), (fun j h => absurd h (Nat.not_lt_zero _)), (fun xs h => absurd h (by simp))⟩, h1⟩
 ·rw [hlab]; simp only; rw [if_neg (by omega), if_pos (by omega)]
 ·rw [hlab]; simp only; rw [if_neg (by omega), if_neg (by omega)]
theorem whole_kept (w : World) (q B : Nat) (cs : List Value) (lab : Nat → Nat) (ts ws : List Value) (Ts : List (List Dg)) (h : WI w q B cs lab ts ws Ts) (hT : Ts.length ≤ 5000000000000) :
  Calls Try.prog 38 #[.pointer (some ⟨q, 0, none⟩)] w fun e w' => e = .returned (.bool true) ∧ Below B w w' := by
 obtain ⟨tv, wv, h6, h7, ht, l3, l4⟩ := h.tell
 have hB : B ≤ w.heap.size := by have := heap_lt h.blk; have := h.qB; omega
 have hgd : ∀ j (hj : j < Ts.length), Ts.getD j [] = Ts[j] := fun j hj => by rw [List.getD_eq_getElem?_getD, List.getElem?_eq_getElem hj]; rfl
 have hal : ∀ j, All32 (Ts.getD j []) ∧ (Ts.getD j []).length ≤ 1048576 := fun j => by
  by_cases hj : j < Ts.length
  ·rw [hgd j hj]; exact h.told.all _ (List.getElem_mem hj)
  ·rw [List.getD_eq_getElem?_getD, List.getElem?_eq_none (by omega)]
   exact ⟨All32.nil, by simp⟩
 have tl := h.told.tl
 have wl := h.told.wl
 refine (whole_any w q B cs tv wv ts ws (fun j => Ts.getD j []) h.blk h6 h7 ht.t ht.w (by omega) ⟨fun j hj => ?_⟩ ⟨fun j hj => ?_⟩ (fun j => (hal j).1) (fun j => (hal j).2) (fun i j hi hj ne g hg e => ?_) (fun k hk => ?_) (by rw [tl]; exact hT) hB).mono (fun e w' hh => ⟨hh.1, hh.2.below (fun k hk e => ?_) hB⟩)
 ·rw [hgd j (by omega)]; exact (h.told.told j hj (by omega)).1
 ·rw [hgd j (by omega)]; exact (h.told.want j hj (by omega)).1
 ·have h1 := (h.told.told i hi (by omega)).2 g hg
  have h2 := (h.told.told j hj (by omega)).2 g e
  omega
 ·obtain ⟨j, hj, e⟩ := hk
  have h1 := (h.told.told j hj (by omega)).2 k e
  refine ⟨fun e2 => ?_, fun e2 => ?_⟩
  ·rw [e2, h.lq] at h1; omega
  ·have := l3 k e2; omega
 ·obtain ⟨j, hj, e2⟩ := e
  have := ((h.told.told j hj (by omega)).1.lt k e2).1
  omega
end Go.Proofs.Ytihbhpggpnmifaa
namespace Go.Proofs.Ytihbhpggpnmifaa
open Go.RowKit Go.Lib Hw
def IsTwo (v : Value) : Prop := ∃ a b : Int, v = .agg #[.int .i64 a, .int .i64 b]
def stepC (d who : Int) (texts digs : Value) (n s : Nat) : List Value := [.int .i64 d, .int .i64 who, texts, digs, .int .u64 (n : Int), .int .u64 (s : Int)]
def IsSteps (w : World) (v : Value) : Prop := ∃ (S : Nat) (ad : Option Addr) (c : Nat), v = .slice ad S c ∧ S * 80 ≤ 140737488355328 ∧ (0 < S → ∃ sb so, ad = some ⟨sb, so, none⟩ ∧ sb < w.heap.size ∧ ∀ k, k < S → ∃ (d who : Int) (texts digs : Value) (n s : Nat) (ss : List ByteArray) (ds : List Dg), w.rangeAt sb (so + k * 6) (stepC d who texts digs n s) ∧ StepIn w w.heap.size texts digs ss ds n s)
theorem info_Step : (Try.prog.info? 74).map (·.size) = some 6 := by kernel_rfl
set_option maxRecDepth 20000 in
set_option maxHeartbeats 16000000 in
theorem RingsPlays_walk (v0 v1 v2 v3 : Value) (w : World) (h0 : IsTwo v0) (h1 : IsStrsZ w v1) (h2 : IsStrsZ w v2) (h3 : IsSteps w v3) :
  Calls Try.prog 11 #[v0, v1, v2, v3] w fun e w' => e = .returned (.bool true) ∧ Below w.heap.size w w' := by
 obtain ⟨na, nb, rfl⟩ := h0
 obtain ⟨l1, n1, c1, ad1, rfl, _, hv1, hl1, hs1⟩ := h1
 obtain ⟨l2, n2, c2, ad2, rfl, _, hv2, hl2, hs2⟩ := h2
 obtain ⟨S, sad, sc, rfl, hS, hst⟩ := h3
 have Hst := Lib.hid hst
 have HV1 := Lib.hid hv1
 have HV2 := Lib.hid hv2
 have HS1 := Lib.hid hs1
 have HS2 := Lib.hid hs2
 obtain ⟨N, hN⟩ : ∃ N, w.heap.size = N := ⟨_, rfl⟩
 have HN := Lib.hid hN
 rw [hN]
 clear hst hv1 hv2 hs1 hs2 hN
 go_enter Try.func11, Try.ntmps11
 go_upto_region 0 with fail
 with_reducible refine wp_region_list ?_
 refine wpList_boxB rfl _ _ rfl N HN.out #[.int .i64 na, .int .i64 nb] rfl ?_
 intro w0 e0 b0 z0
 try simp only [Act.put,nA,nB,nC]
 (with_reducible refine wpList_plain rfl ?_); intro K hK; go_simp; (with_reducible refine hK _ _ ?_); clear hK K; try simp only [Act.put,nA,nB,nC]
 have E0 := Lib.hid e0
 have B0 := Lib.hid b0
 have V10 := Lib.hid (HV1.out.below' (by rw [HN.out]; exact b0))
 clear e0 b0
 have k0 := heap_cell E0.out (o := 0)
 go_upto_region 1 with fail
 with_reducible refine wp_region_list ?_
 iterate 3
  (with_reducible refine wpList_plain rfl ?_); intro K hK; go_simp; (with_reducible refine hK _ _ ?_); clear hK K; try simp only [Act.put,nA,nB,nC]
 with_reducible refine wpList_plain rfl ?_
 intro K hK
 go_simp
 refine (begun_any na _ l1 w0 V10.out hl1 HS1.out).mono ?_; rintro e w1 ⟨pa, aad, aln, acap, rfl, b1, pre1⟩
 first | with_reducible refine hK _ _ ?_ | refine hK _ _ ?_
 clear hK K
 try simp only [Act.put,nA,nB,nC]
 iterate 7
  (with_reducible refine wpList_plain rfl ?_); intro K hK; go_simp; (with_reducible refine hK _ _ ?_); clear hK K; try simp only [Act.put,nA,nB,nC]
 clear k0
 have E1 : Hid (w1.heap[N]? = some (.cells #[.int .i64 na, .int .i64 nb] 62 (0, 0))) := heap_below E0.out b1 (by omega)
 have B1 := Lib.hid (B0.out.trans (b1.mono (by omega)))
 have PA1 : Hid (Pre w1 N w0.heap.size w1.heap.size pa na (.slice aad aln acap)) := BegunA.pre (by omega) pre1
 have V21 := Lib.hid (HV2.out.below' (by rw [HN.out]; exact B1.out))
 have hz1 : w0.heap.size ≤ w1.heap.size := b1.size
 clear b1 pre1 E0 B0 V10
 have k0 := heap_cell E1.out (o := 1)
 go_upto_region 2 with fail
 with_reducible refine wp_region_list ?_
 iterate 3
  (with_reducible refine wpList_plain rfl ?_); intro K hK; go_simp; (with_reducible refine hK _ _ ?_); clear hK K; try simp only [Act.put,nA,nB,nC]
 with_reducible refine wpList_plain rfl ?_
 intro K hK
 go_simp
 refine (begun_any nb _ l2 w1 V21.out hl2 HS2.out).mono ?_; rintro e w2 ⟨pb, bad, bln, bcap, rfl, b2, pre2⟩
 first | with_reducible refine hK _ _ ?_ | refine hK _ _ ?_
 clear hK K
 try simp only [Act.put,nA,nB,nC]
 iterate 7
  (with_reducible refine wpList_plain rfl ?_); intro K hK; go_simp; (with_reducible refine hK _ _ ?_); clear hK K; try simp only [Act.put,nA,nB,nC]
 clear k0
 have E2 : Hid (w2.heap[N]? = some (.cells #[.int .i64 na, .int .i64 nb] 62 (0, 0))) := heap_below E1.out b2 (by omega)
 have B2 := Lib.hid (B1.out.trans (b2.mono (by omega)))
 have PA2 := Lib.hid (PA1.out.below b2)
 have PB2 : Hid (Pre w2 N w1.heap.size w2.heap.size pb nb (.slice bad bln bcap)) := BegunA.pre (by omega) pre2
 have hz2 : w1.heap.size ≤ w2.heap.size := b2.size
 clear b2 pre2 E1 B1 V21 PA1
 go_upto_region 3 with fail
 with_reducible refine wp_region_list ?_
 iterate 3
  (with_reducible refine wpList_plain rfl ?_); intro K hK; go_simp; (with_reducible refine hK _ _ ?_); clear hK K; try simp only [Act.put,nA,nB,nC]
 iterate 2
  (with_reducible refine wpList_step ?_); intro K hK; rw [if_pos (by rfl)]; go_simp; (with_reducible refine hK _ _ ?_); clear hK K; try simp only [Act.put,nA,nB,nC]
 iterate 2
  (with_reducible refine wpList_plain rfl ?_); intro K hK; go_simp; (with_reducible refine hK _ _ ?_); clear hK K; try simp only [Act.put,nA,nB,nC]
 with_reducible refine wpList_step ?_
 intro K hK
 rw [if_pos (by rfl)]
 go_simp
 refine (lives_any w2).mono ?_; rintro e w3 ⟨rfl, b3⟩
 first | with_reducible refine hK _ _ ?_ | refine hK _ _ ?_
 clear hK K
 try simp only [Act.put,nA,nB,nC]
 (with_reducible refine wpList_step ?_); intro K hK; rw [if_pos (by rfl)]; go_simp; (with_reducible refine hK _ _ ?_); clear hK K; try simp only [Act.put,nA,nB,nC]
 (with_reducible refine wpList_plain rfl ?_); intro K hK; go_simp; (with_reducible refine hK _ _ ?_); clear hK K; try simp only [Act.put,nA,nB,nC]
 have E3 : Hid (w3.heap[N]? = some (.cells #[.int .i64 na, .int .i64 nb] 62 (0, 0))) := heap_below E2.out b3 (by omega)
 have B3 := Lib.hid (B2.out.trans (b3.mono (by omega)))
 have PA3 := Lib.hid (PA2.out.below b3)
 have PB3 := Lib.hid (PB2.out.below b3)
 have hz3 : w2.heap.size ≤ w3.heap.size := b3.size
 clear b3 E2 B2 PA2 PB2
 have k0 := heap_cell E3.out (o := 0)
 have k1 := heap_cell E3.out (o := 1)
 go_upto_region 5 with fail
 with_reducible refine wp_region_list ?_
 iterate 11
  (with_reducible refine wpList_plain rfl ?_); intro K hK; go_simp; (with_reducible refine hK _ _ ?_); clear hK K; try simp only [Act.put,nA,nB,nC]
 obtain ⟨q, hq⟩ : ∃ q, w3.heap.size = q := ⟨_, rfl⟩
 refine wpList_boxB rfl _ _ rfl q hq #[.pointer pa, .int .i64 na, .slice aad aln acap, .pointer pb, .int .i64 nb, .slice bad bln bcap, .slice none 0 0, .slice none 0 0] rfl ?_
 intro w4 e4 b4 z4
 try simp only [Act.put,nA,nB,nC]
 (with_reducible refine wpList_plain rfl ?_); intro K hK; go_simp; (with_reducible refine hK _ _ ?_); clear hK K; try simp only [Act.put,nA,nB,nC]
 have hb4 : Below w3.heap.size w3 w4 := by rw [hq]; exact b4
 obtain ⟨lab0, WI0⟩ := WI.start (PA3.out.below hb4) (PB3.out.below hb4) (by omega) hz2 (by omega) e4
 have HW0 := Lib.hid WI0
 have B4 := Lib.hid (B3.out.trans (hb4.mono (by omega)))
 have hNq : N ≤ q := by omega
 clear hb4 e4 b4 z4 PA3 PB3 E3 B3 k0 k1 WI0 hq hz1 hz2 hz3 z0
 go_upto_region 7 with fail
 go_loopw [16] (fun iv wr => ∃ (k : Nat) (cs : List Value) (lab : Nat → Nat) (ts ws : List Value) (Ts : List (List Dg)), k ≤ S ∧ Hid (WI wr q N cs lab ts ws Ts) ∧ Hid (Ts.length ≤ 2 * k) ∧ Hid (Below N w wr) ∧ iv = .int .i64 (k : Int)) (fun iv _ => S - (intOf iv).toNat)
 case atStart => exact ⟨0, _, lab0, [], [], [], Nat.zero_le _, HW0, Nat.le_refl _, B4, rfl⟩
 case round =>
  obtain ⟨k, cs, lab, ts, ws, Ts, hk, HW, HT, Bk, rfl⟩ := hrel
  clear HW0 B4
  by_cases hlt : k < S
  case pos =>
   as_aux_lemma =>
    have dk : decide (k < S) = true := decide_eq_true hlt
    have dk2 : decide ((k : Int) < (S : Int)) = true := decide_eq_true (by omega)
    have ik : (k : Int) < (S : Int) := by omega
    obtain ⟨sb, so, rfl, hsb, hst1⟩ := Hst.out (by omega)
    obtain ⟨d, who, texts, digs, n, s, ss, ds, hr, hs⟩ := hst1 k hlt
    have hr5 := range_block hr (Bk.out.block sb (by have := HN.out; omega))
    have HR := Lib.hid hr5
    have hs2 : StepIn wr N texts digs ss ds n s := by have h1 := hs; rw [HN.out] at h1; exact h1.low' Bk.out (by have := HN.out; omega)
    have HS := Lib.hid hs2
    have cwho : wr.cell? ⟨sb, so + k * 6 + 1, none⟩ = some (.int .i64 who) := hr5 1 _ rfl
    clear hst1 hr hs hr5 hs2
    cases hC : (bits BinOp.and IntKind.i64 who 1 == 1)
    case false =>
     go_upto_region 12 with fail
     clear dk dk2 hC cwho
     rcases HW.out.sA with hnil | ⟨p, b, lv, rv, wd, L, hp, hw1, hw2, lp, lb, ll, lr⟩
     ·have cP : wr.cell? ⟨q, 0, none⟩ = some (.pointer none) := by rw [heap_cell HW.out.blk, List.getElem?_toArray]; exact hnil
      with_reducible refine wp_region_list ?_
      iterate 6
       (with_reducible refine wpList_plain rfl ?_); intro K hK; go_simp; (with_reducible refine hK _ _ ?_); clear hK K; try simp only [Act.put,nA,nB,nC]
      iterate 8
       (with_reducible refine wpList_step ?_); intro K hK; rw [if_neg (Bool.eq_false_iff.1 (by rfl))]; (with_reducible refine hK _ _ ?_); clear hK K; try simp only [Act.put,nA,nB,nC]
      (with_reducible refine wpList_plain rfl ?_); intro K hK; go_simp; (with_reducible refine hK _ _ ?_); clear hK K; try simp only [Act.put,nA,nB,nC]
      go_wp2_with fail
      exact ⟨⟨k + 1, cs, lab, ts, ws, Ts, by omega, HW, by show _ ≤ _; have := HT.out; omega, Bk, by go_num⟩, by simp [intOf]; omega⟩
     ·have cP : wr.cell? ⟨q, 0, none⟩ = some (.pointer (some ⟨p, 0, none⟩)) := hp.cell 0 _ hp.c0
      have HP := Lib.hid hp
      have HL : Hid (lab p = 1 ∧ lab b = 1 ∧ Lab lab 1 lv ∧ Lab lab 1 rv) := ⟨lp, lb, ll, lr⟩
      clear hp lp lb ll lr
      with_reducible refine wp_region_list ?_
      iterate 6
       (with_reducible refine wpList_plain rfl ?_); intro K hK; go_simp; (with_reducible refine hK _ _ ?_); clear hK K; try simp only [Act.put,nA,nB,nC]
      iterate 5
       (with_reducible refine wpList_step ?_); intro K hK; rw [if_pos (by rfl)]; go_simp; (with_reducible refine hK _ _ ?_); clear hK K; try simp only [Act.put,nA,nB,nC]
      with_reducible refine wpList_step ?_
      intro K hK
      rw [if_pos (by rfl)]
      refine wp_load_mid 74 _ rfl sb (so + k * 6) rfl (stepC d who texts digs n s) _ HR.out Try.underlying74 rfl info_Step ?_
      refine hK _ _ ?_
      clear hK K
      try simp only [Act.put,nA,nB,nC]
      with_reducible refine wpList_step ?_
      intro K hK
      rw [if_pos (by rfl)]
      go_simp
      refine (step_any wr q N cs lab ts ws Ts HW.out 0 1 (by omega) p b lv rv wd L HP.out hw1 hw2 HL.out.1 HL.out.2.1 HL.out.2.2.1 HL.out.2.2.2 d who texts digs n s ss ds HS.out (by have := HT.out; omega)).mono ?_; rintro e w5 ⟨rfl, cs5, lab5, ts5, ws5, Ts5, hw5, hT5, b5⟩
      first | with_reducible refine hK _ _ ?_ | refine hK _ _ ?_
      clear hK K
      try simp only [Act.put,nA,nB,nC]
      have HW5 := Lib.hid hw5
      have HT5 : Hid (Ts5.length ≤ 2 * (k + 1)) := by show _ ≤ _; have := HT.out; omega
      have B5 := Lib.hid (Bk.out.trans b5)
      clear hw5 hT5 b5 HW HT Bk HP HL cP
      (with_reducible refine wpList_step ?_); intro K hK; rw [if_pos (by rfl)]; go_simp; (with_reducible refine hK _ _ ?_); clear hK K; try simp only [Act.put,nA,nB,nC]
      (with_reducible refine wpList_plain rfl ?_); intro K hK; go_simp; (with_reducible refine hK _ _ ?_); clear hK K; try simp only [Act.put,nA,nB,nC]
      go_wp2_with fail
      exact ⟨⟨k + 1, cs5, lab5, ts5, ws5, Ts5, by omega, HW5, HT5, B5, by go_num⟩, by simp [intOf]; omega⟩
    case true =>
     go_upto_region 12 with fail
     clear dk dk2 hC cwho
     rcases HW.out.sB with hnil | ⟨p, b, lv, rv, wd, L, hp, hw1, hw2, lp, lb, ll, lr⟩
     ·have cP : wr.cell? ⟨q, 3, none⟩ = some (.pointer none) := by rw [heap_cell HW.out.blk, List.getElem?_toArray]; exact hnil
      with_reducible refine wp_region_list ?_
      iterate 6
       (with_reducible refine wpList_plain rfl ?_); intro K hK; go_simp; (with_reducible refine hK _ _ ?_); clear hK K; try simp only [Act.put,nA,nB,nC]
      iterate 8
       (with_reducible refine wpList_step ?_); intro K hK; rw [if_neg (Bool.eq_false_iff.1 (by rfl))]; (with_reducible refine hK _ _ ?_); clear hK K; try simp only [Act.put,nA,nB,nC]
      (with_reducible refine wpList_plain rfl ?_); intro K hK; go_simp; (with_reducible refine hK _ _ ?_); clear hK K; try simp only [Act.put,nA,nB,nC]
      go_wp2_with fail
      exact ⟨⟨k + 1, cs, lab, ts, ws, Ts, by omega, HW, by show _ ≤ _; have := HT.out; omega, Bk, by go_num⟩, by simp [intOf]; omega⟩
     ·have cP : wr.cell? ⟨q, 3, none⟩ = some (.pointer (some ⟨p, 0, none⟩)) := hp.cell 3 _ hp.c0
      have HP := Lib.hid hp
      have HL : Hid (lab p = 2 ∧ lab b = 2 ∧ Lab lab 2 lv ∧ Lab lab 2 rv) := ⟨lp, lb, ll, lr⟩
      clear hp lp lb ll lr
      with_reducible refine wp_region_list ?_
      iterate 6
       (with_reducible refine wpList_plain rfl ?_); intro K hK; go_simp; (with_reducible refine hK _ _ ?_); clear hK K; try simp only [Act.put,nA,nB,nC]
      iterate 5
       (with_reducible refine wpList_step ?_); intro K hK; rw [if_pos (by rfl)]; go_simp; (with_reducible refine hK _ _ ?_); clear hK K; try simp only [Act.put,nA,nB,nC]
      with_reducible refine wpList_step ?_
      intro K hK
      rw [if_pos (by rfl)]
      refine wp_load_mid 74 _ rfl sb (so + k * 6) rfl (stepC d who texts digs n s) _ HR.out Try.underlying74 rfl info_Step ?_
      refine hK _ _ ?_
      clear hK K
      try simp only [Act.put,nA,nB,nC]
      with_reducible refine wpList_step ?_
      intro K hK
      rw [if_pos (by rfl)]
      go_simp
      refine (step_any wr q N cs lab ts ws Ts HW.out 3 2 (by omega) p b lv rv wd L HP.out hw1 hw2 HL.out.1 HL.out.2.1 HL.out.2.2.1 HL.out.2.2.2 d who texts digs n s ss ds HS.out (by have := HT.out; omega)).mono ?_; rintro e w5 ⟨rfl, cs5, lab5, ts5, ws5, Ts5, hw5, hT5, b5⟩
      first | with_reducible refine hK _ _ ?_ | refine hK _ _ ?_
      clear hK K
      try simp only [Act.put,nA,nB,nC]
      have HW5 := Lib.hid hw5
      have HT5 : Hid (Ts5.length ≤ 2 * (k + 1)) := by show _ ≤ _; have := HT.out; omega
      have B5 := Lib.hid (Bk.out.trans b5)
      clear hw5 hT5 b5 HW HT Bk HP HL cP
      (with_reducible refine wpList_step ?_); intro K hK; rw [if_pos (by rfl)]; go_simp; (with_reducible refine hK _ _ ?_); clear hK K; try simp only [Act.put,nA,nB,nC]
      (with_reducible refine wpList_plain rfl ?_); intro K hK; go_simp; (with_reducible refine hK _ _ ?_); clear hK K; try simp only [Act.put,nA,nB,nC]
      go_wp2_with fail
      exact ⟨⟨k + 1, cs5, lab5, ts5, ws5, Ts5, by omega, HW5, HT5, B5, by go_num⟩, by simp [intOf]; omega⟩
  case neg =>
   have dk : decide (k < S) = false := decide_eq_false hlt
   have dk2 : decide ((k : Int) < (S : Int)) = false := decide_eq_false (by omega)
   have hT5 : Ts.length ≤ 5000000000000 := by have := HT.out; omega
   go_upto_region 14 with fail
   clear dk dk2 Hst HV1 HV2 HS1 HS2 HT
   obtain ⟨w5, hw5⟩ : ∃ W, wr = W := ⟨_, rfl⟩
   rw [hw5] at HW Bk ⊢
   clear hw5
   rcases HW.out.sA with hnil | ⟨p, b, lv, rv, wd, L, hp, hw1, hw2, lp, lb, ll, lr⟩
   ·as_aux_lemma =>
     have cP : w5.cell? ⟨q, 0, none⟩ = some (.pointer none) := by rw [heap_cell HW.out.blk, List.getElem?_toArray]; exact hnil
     go_upto_region 14 with fail
     refine wp_region_held_drew (S := fun W => W.cell? ⟨q, 0, none⟩ = some (.pointer none)) (by kernel_rfl) cP (fun hHeld => ?_)
     refine' tQ 0 ⟨some 90, .move (.tmp 15), 66, "law.go:203", #[], none⟩ rfl (by kernel_rfl) (Or.inl ⟨by rfl, _⟩) _; rotate_left; · (intro s h; (try dsimp only at h); go_simp; try with_reducible rfl)
     try simp only [Act.put,nA,nB,nC]
     refine' tQ 1 ⟨some 91, .nilCheck (.tmp 90), 0, "law.go:203", #[⟨0, .data⟩], none⟩ rfl (by kernel_rfl) (Or.inl ⟨by rfl, _⟩) _; rotate_left; · (intro s h; (try dsimp only at h); go_simp; try with_reducible rfl)
     try simp only [Act.put,nA,nB,nC]
     refine' tQ 2 ⟨some 92, .fieldAddr 71 (.tmp 91) 0, 0, "law.go:203", #[⟨1, .data⟩], none⟩ rfl (by kernel_rfl) (Or.inl ⟨by rfl, _⟩) _; rotate_left; · (intro s h; (try dsimp only at h); go_simp; try with_reducible rfl)
     try simp only [Act.put,nA,nB,nC]
     refine' tQ 3 ⟨some 93, .fieldAddr 68 (.tmp 92) 0, 0, "law.go:203", #[⟨2, .data⟩], none⟩ rfl (by kernel_rfl) (Or.inl ⟨by rfl, _⟩) _; rotate_left; · (intro s h; (try dsimp only at h); go_simp; try with_reducible rfl)
     try simp only [Act.put,nA,nB,nC]
     refine' tQ 4 ⟨some 94, .load 40 (.tmp 93), 40, "law.go:203", #[⟨3, .data⟩], none⟩ rfl (by kernel_rfl) (Or.inl ⟨by rfl, _⟩) _; rotate_left; · (intro s h; (try dsimp only at h); go_simp; try with_reducible rfl)
     try simp only [Act.put,nA,nB,nC]
     refine' tQ 5 ⟨some 95, .binOp .neq 40 (.tmp 94) (.const (.pointer none)) 40, 4, "law.go:203", #[⟨4, .data⟩], none⟩ rfl (by kernel_rfl) (Or.inl ⟨by rfl, _⟩) _; rotate_left; · (intro s h; (try dsimp only at h); go_simp; try with_reducible rfl)
     try simp only [Act.put,nA,nB,nC]
     refine' tQ 6 ⟨some 96, .move (.tmp 95), 4, "law.go:203", #[⟨5, .data⟩], none⟩ rfl (by kernel_rfl) (Or.inl ⟨by rfl, _⟩) _; rotate_left; · (intro s h; (try dsimp only at h); go_simp; try with_reducible rfl)
     try simp only [Act.put,nA,nB,nC]
     refine' tQ 7 ⟨some 97, .move (.tmp 15), 66, "law.go:203", #[⟨6, .guard⟩], some (6, true)⟩ rfl (by kernel_rfl) (Or.inr ⟨by rfl, rfl⟩) _
     try simp only [Act.put,nA,nB,nC]
     refine' tQ 8 ⟨some 98, .move (.tmp 15), 66, "law.go:203", #[⟨6, .guard⟩], some (6, true)⟩ rfl (by kernel_rfl) (Or.inr ⟨by rfl, rfl⟩) _
     try simp only [Act.put,nA,nB,nC]
     refine' tQ 9 ⟨some 99, .nilCheck (.tmp 98), 0, "law.go:203", #[⟨8, .data⟩, ⟨6, .guard⟩], some (6, true)⟩ rfl (by kernel_rfl) (Or.inr ⟨by rfl, rfl⟩) _
     try simp only [Act.put,nA,nB,nC]
     refine' tQ 10 ⟨some 100, .fieldAddr 71 (.tmp 99) 0, 0, "law.go:203", #[⟨9, .data⟩, ⟨6, .guard⟩], some (6, true)⟩ rfl (by kernel_rfl) (Or.inr ⟨by rfl, rfl⟩) _
     try simp only [Act.put,nA,nB,nC]
     refine' tQ 11 ⟨some 101, .build 74 #[(0, .const (.int .i64 6))], 74, "law.go:203", #[⟨6, .guard⟩], some (6, true)⟩ rfl (by kernel_rfl) (Or.inr ⟨by rfl, rfl⟩) _
     try simp only [Act.put,nA,nB,nC]
     refine' tQ 12 ⟨some 102, .call ⟨.value (.func 37), #[.tmp 97, .tmp 100, .tmp 101], #[66, 72, 74]⟩, 4, "law.go:203", #[⟨7, .data⟩, ⟨10, .data⟩, ⟨11, .data⟩, ⟨6, .chain⟩, ⟨6, .guard⟩], some (6, true)⟩ rfl (by kernel_rfl) (Or.inr ⟨by rfl, rfl⟩) _
     try simp only [Act.put,nA,nB,nC]
     refine' tQ 13 ⟨some 103, .unOp .not 4 (.tmp 102), 4, "law.go:203", #[⟨12, .data⟩, ⟨6, .guard⟩], some (6, true)⟩ rfl (by kernel_rfl) (Or.inr ⟨by rfl, rfl⟩) _
     try simp only [Act.put,nA,nB,nC]
     refine' tQ 14 ⟨some 104, .move (.tmp 103), 4, "law.go:203", #[⟨13, .data⟩, ⟨12, .chain⟩, ⟨6, .guard⟩], some (6, true)⟩ rfl (by kernel_rfl) (Or.inr ⟨by rfl, rfl⟩) _
     try simp only [Act.put,nA,nB,nC]
     refine' tQ 15 ⟨some 105, .move (.tmp 15), 66, "law.go:203", #[⟨14, .guard⟩], some (14, false)⟩ rfl (by kernel_rfl) (Or.inr ⟨by rfl, rfl⟩) _
     try simp only [Act.put,nA,nB,nC]
     refine' tQ 16 ⟨some 106, .move (.tmp 15), 66, "law.go:203", #[⟨14, .guard⟩], some (14, false)⟩ rfl (by kernel_rfl) (Or.inr ⟨by rfl, rfl⟩) _
     try simp only [Act.put,nA,nB,nC]
     refine' tQ 17 ⟨some 107, .nilCheck (.tmp 106), 0, "law.go:203", #[⟨16, .data⟩, ⟨14, .guard⟩], some (14, false)⟩ rfl (by kernel_rfl) (Or.inr ⟨by rfl, rfl⟩) _
     try simp only [Act.put,nA,nB,nC]
     refine' tQ 18 ⟨some 108, .fieldAddr 71 (.tmp 107) 0, 0, "law.go:203", #[⟨17, .data⟩, ⟨14, .guard⟩], some (14, false)⟩ rfl (by kernel_rfl) (Or.inr ⟨by rfl, rfl⟩) _
     try simp only [Act.put,nA,nB,nC]
     refine' tQ 19 ⟨some 109, .move (.tmp 15), 66, "law.go:203", #[⟨14, .guard⟩], some (14, false)⟩ rfl (by kernel_rfl) (Or.inr ⟨by rfl, rfl⟩) _
     try simp only [Act.put,nA,nB,nC]
     refine' tQ 20 ⟨some 110, .nilCheck (.tmp 109), 0, "law.go:203", #[⟨19, .data⟩, ⟨14, .guard⟩], some (14, false)⟩ rfl (by kernel_rfl) (Or.inr ⟨by rfl, rfl⟩) _
     try simp only [Act.put,nA,nB,nC]
     refine' tQ 21 ⟨some 111, .fieldAddr 71 (.tmp 110) 0, 0, "law.go:203", #[⟨20, .data⟩, ⟨14, .guard⟩], some (14, false)⟩ rfl (by kernel_rfl) (Or.inr ⟨by rfl, rfl⟩) _
     try simp only [Act.put,nA,nB,nC]
     refine' tQ 22 ⟨some 112, .fieldAddr 68 (.tmp 111) 2, 0, "law.go:203", #[⟨21, .data⟩, ⟨14, .guard⟩], some (14, false)⟩ rfl (by kernel_rfl) (Or.inr ⟨by rfl, rfl⟩) _
     try simp only [Act.put,nA,nB,nC]
     refine' tQ 23 ⟨some 113, .load 32 (.tmp 112), 32, "law.go:203", #[⟨22, .data⟩, ⟨14, .guard⟩], some (14, false)⟩ rfl (by kernel_rfl) (Or.inr ⟨by rfl, rfl⟩) _
     try simp only [Act.put,nA,nB,nC]
     refine' tQ 24 ⟨some 114, .call ⟨.builtin .len, #[.tmp 113], #[32]⟩, 3, "law.go:203", #[⟨23, .data⟩, ⟨14, .guard⟩], some (14, false)⟩ rfl (by kernel_rfl) (Or.inr ⟨by rfl, rfl⟩) _
     try simp only [Act.put,nA,nB,nC]
     refine' tQ 25 ⟨some 115, .convert 3 29 (.tmp 114), 29, "law.go:203", #[⟨24, .data⟩, ⟨14, .guard⟩], some (14, false)⟩ rfl (by kernel_rfl) (Or.inr ⟨by rfl, rfl⟩) _
     try simp only [Act.put,nA,nB,nC]
     refine' tQ 26 ⟨some 116, .build 74 #[(0, .const (.int .i64 3)), (5, .tmp 115)], 74, "law.go:203", #[⟨25, .data⟩, ⟨14, .guard⟩], some (14, false)⟩ rfl (by kernel_rfl) (Or.inr ⟨by rfl, rfl⟩) _
     try simp only [Act.put,nA,nB,nC]
     refine' tQ 27 ⟨some 117, .call ⟨.value (.func 37), #[.tmp 105, .tmp 108, .tmp 116], #[66, 72, 74]⟩, 4, "law.go:203", #[⟨15, .data⟩, ⟨18, .data⟩, ⟨26, .data⟩, ⟨14, .chain⟩, ⟨14, .guard⟩], some (14, false)⟩ rfl (by kernel_rfl) (Or.inr ⟨by rfl, rfl⟩) _
     try simp only [Act.put,nA,nB,nC]
     refine' tQ 28 ⟨some 118, .unOp .not 4 (.tmp 117), 4, "law.go:203", #[⟨27, .data⟩, ⟨14, .guard⟩], some (14, false)⟩ rfl (by kernel_rfl) (Or.inr ⟨by rfl, rfl⟩) _
     try simp only [Act.put,nA,nB,nC]
     refine' tQ 29 ⟨some 119, .pick (.tmp 104) (.const (.bool true)) (.tmp 118), 4, "law.go:203", #[⟨14, .data⟩, ⟨28, .data⟩, ⟨6, .guard⟩], some (6, true)⟩ rfl (by kernel_rfl) (Or.inr ⟨by rfl, rfl⟩) _
     try simp only [Act.put,nA,nB,nC]
     refine' tQ 30 ⟨some 120, .pick (.tmp 96) (.tmp 119) (.const (.bool false)), 4, "law.go:203", #[⟨6, .data⟩, ⟨29, .data⟩], none⟩ rfl (by kernel_rfl) (Or.inl ⟨by rfl, _⟩) _; rotate_left; · (intro s h; (try dsimp only at h); go_simp; try with_reducible rfl)
     try simp only [Act.put,nA,nB,nC]
     refine wpAnyH_done (by kernel_rfl) ?_ _
     clear hHeld cP
     obtain ⟨wnA, hwn⟩ : ∃ W, w5.drew = W := ⟨_, rfl⟩
     have HWnA : Hid (WI wnA q N cs lab ts ws Ts) := by rw [← hwn]; exact HW.out.quiet (Below.refl _ _).drew
     have BnA : Hid (Below N w wnA) := by rw [← hwn]; exact Bk.out.drew
     rw [hwn]
     clear hwn HW Bk
     rcases HWnA.out.sB with hnil | ⟨p, b, lv, rv, wd, L, hp, hw1, hw2, lp, lb, ll, lr⟩
     ·as_aux_lemma =>
       have cP : wnA.cell? ⟨q, 3, none⟩ = some (.pointer none) := by rw [heap_cell HWnA.out.blk, List.getElem?_toArray]; exact hnil
       go_upto_region 16 with fail
       refine wp_region_held_drew (S := fun W => W.cell? ⟨q, 3, none⟩ = some (.pointer none)) (by kernel_rfl) cP (fun hHeld => ?_)
       refine' tQ 0 ⟨some 121, .move (.tmp 15), 66, "law.go:206", #[], none⟩ rfl (by kernel_rfl) (Or.inl ⟨by rfl, _⟩) _; rotate_left; · (intro s h; (try dsimp only at h); go_simp; try with_reducible rfl)
       try simp only [Act.put,nA,nB,nC]
       refine' tQ 1 ⟨some 122, .nilCheck (.tmp 121), 0, "law.go:206", #[⟨0, .data⟩], none⟩ rfl (by kernel_rfl) (Or.inl ⟨by rfl, _⟩) _; rotate_left; · (intro s h; (try dsimp only at h); go_simp; try with_reducible rfl)
       try simp only [Act.put,nA,nB,nC]
       refine' tQ 2 ⟨some 123, .fieldAddr 71 (.tmp 122) 1, 0, "law.go:206", #[⟨1, .data⟩], none⟩ rfl (by kernel_rfl) (Or.inl ⟨by rfl, _⟩) _; rotate_left; · (intro s h; (try dsimp only at h); go_simp; try with_reducible rfl)
       try simp only [Act.put,nA,nB,nC]
       refine' tQ 3 ⟨some 124, .fieldAddr 68 (.tmp 123) 0, 0, "law.go:206", #[⟨2, .data⟩], none⟩ rfl (by kernel_rfl) (Or.inl ⟨by rfl, _⟩) _; rotate_left; · (intro s h; (try dsimp only at h); go_simp; try with_reducible rfl)
       try simp only [Act.put,nA,nB,nC]
       refine' tQ 4 ⟨some 125, .load 40 (.tmp 124), 40, "law.go:206", #[⟨3, .data⟩], none⟩ rfl (by kernel_rfl) (Or.inl ⟨by rfl, _⟩) _; rotate_left; · (intro s h; (try dsimp only at h); go_simp; try with_reducible rfl)
       try simp only [Act.put,nA,nB,nC]
       refine' tQ 5 ⟨some 126, .binOp .neq 40 (.tmp 125) (.const (.pointer none)) 40, 4, "law.go:206", #[⟨4, .data⟩], none⟩ rfl (by kernel_rfl) (Or.inl ⟨by rfl, _⟩) _; rotate_left; · (intro s h; (try dsimp only at h); go_simp; try with_reducible rfl)
       try simp only [Act.put,nA,nB,nC]
       refine' tQ 6 ⟨some 127, .move (.tmp 126), 4, "law.go:206", #[⟨5, .data⟩], none⟩ rfl (by kernel_rfl) (Or.inl ⟨by rfl, _⟩) _; rotate_left; · (intro s h; (try dsimp only at h); go_simp; try with_reducible rfl)
       try simp only [Act.put,nA,nB,nC]
       refine' tQ 7 ⟨some 128, .move (.tmp 15), 66, "law.go:206", #[⟨6, .guard⟩], some (6, true)⟩ rfl (by kernel_rfl) (Or.inr ⟨by rfl, rfl⟩) _
       try simp only [Act.put,nA,nB,nC]
       refine' tQ 8 ⟨some 129, .move (.tmp 15), 66, "law.go:206", #[⟨6, .guard⟩], some (6, true)⟩ rfl (by kernel_rfl) (Or.inr ⟨by rfl, rfl⟩) _
       try simp only [Act.put,nA,nB,nC]
       refine' tQ 9 ⟨some 130, .nilCheck (.tmp 129), 0, "law.go:206", #[⟨8, .data⟩, ⟨6, .guard⟩], some (6, true)⟩ rfl (by kernel_rfl) (Or.inr ⟨by rfl, rfl⟩) _
       try simp only [Act.put,nA,nB,nC]
       refine' tQ 10 ⟨some 131, .fieldAddr 71 (.tmp 130) 1, 0, "law.go:206", #[⟨9, .data⟩, ⟨6, .guard⟩], some (6, true)⟩ rfl (by kernel_rfl) (Or.inr ⟨by rfl, rfl⟩) _
       try simp only [Act.put,nA,nB,nC]
       refine' tQ 11 ⟨some 132, .build 74 #[(0, .const (.int .i64 6))], 74, "law.go:206", #[⟨6, .guard⟩], some (6, true)⟩ rfl (by kernel_rfl) (Or.inr ⟨by rfl, rfl⟩) _
       try simp only [Act.put,nA,nB,nC]
       refine' tQ 12 ⟨some 133, .call ⟨.value (.func 37), #[.tmp 128, .tmp 131, .tmp 132], #[66, 72, 74]⟩, 4, "law.go:206", #[⟨7, .data⟩, ⟨10, .data⟩, ⟨11, .data⟩, ⟨6, .chain⟩, ⟨6, .guard⟩], some (6, true)⟩ rfl (by kernel_rfl) (Or.inr ⟨by rfl, rfl⟩) _
       try simp only [Act.put,nA,nB,nC]
       refine' tQ 13 ⟨some 134, .unOp .not 4 (.tmp 133), 4, "law.go:206", #[⟨12, .data⟩, ⟨6, .guard⟩], some (6, true)⟩ rfl (by kernel_rfl) (Or.inr ⟨by rfl, rfl⟩) _
       try simp only [Act.put,nA,nB,nC]
       refine' tQ 14 ⟨some 135, .move (.tmp 134), 4, "law.go:206", #[⟨13, .data⟩, ⟨12, .chain⟩, ⟨6, .guard⟩], some (6, true)⟩ rfl (by kernel_rfl) (Or.inr ⟨by rfl, rfl⟩) _
       try simp only [Act.put,nA,nB,nC]
       refine' tQ 15 ⟨some 136, .move (.tmp 15), 66, "law.go:206", #[⟨14, .guard⟩], some (14, false)⟩ rfl (by kernel_rfl) (Or.inr ⟨by rfl, rfl⟩) _
       try simp only [Act.put,nA,nB,nC]
       refine' tQ 16 ⟨some 137, .move (.tmp 15), 66, "law.go:206", #[⟨14, .guard⟩], some (14, false)⟩ rfl (by kernel_rfl) (Or.inr ⟨by rfl, rfl⟩) _
       try simp only [Act.put,nA,nB,nC]
       refine' tQ 17 ⟨some 138, .nilCheck (.tmp 137), 0, "law.go:206", #[⟨16, .data⟩, ⟨14, .guard⟩], some (14, false)⟩ rfl (by kernel_rfl) (Or.inr ⟨by rfl, rfl⟩) _
       try simp only [Act.put,nA,nB,nC]
       refine' tQ 18 ⟨some 139, .fieldAddr 71 (.tmp 138) 1, 0, "law.go:206", #[⟨17, .data⟩, ⟨14, .guard⟩], some (14, false)⟩ rfl (by kernel_rfl) (Or.inr ⟨by rfl, rfl⟩) _
       try simp only [Act.put,nA,nB,nC]
       refine' tQ 19 ⟨some 140, .move (.tmp 15), 66, "law.go:206", #[⟨14, .guard⟩], some (14, false)⟩ rfl (by kernel_rfl) (Or.inr ⟨by rfl, rfl⟩) _
       try simp only [Act.put,nA,nB,nC]
       refine' tQ 20 ⟨some 141, .nilCheck (.tmp 140), 0, "law.go:206", #[⟨19, .data⟩, ⟨14, .guard⟩], some (14, false)⟩ rfl (by kernel_rfl) (Or.inr ⟨by rfl, rfl⟩) _
       try simp only [Act.put,nA,nB,nC]
       refine' tQ 21 ⟨some 142, .fieldAddr 71 (.tmp 141) 1, 0, "law.go:206", #[⟨20, .data⟩, ⟨14, .guard⟩], some (14, false)⟩ rfl (by kernel_rfl) (Or.inr ⟨by rfl, rfl⟩) _
       try simp only [Act.put,nA,nB,nC]
       refine' tQ 22 ⟨some 143, .fieldAddr 68 (.tmp 142) 2, 0, "law.go:206", #[⟨21, .data⟩, ⟨14, .guard⟩], some (14, false)⟩ rfl (by kernel_rfl) (Or.inr ⟨by rfl, rfl⟩) _
       try simp only [Act.put,nA,nB,nC]
       refine' tQ 23 ⟨some 144, .load 32 (.tmp 143), 32, "law.go:206", #[⟨22, .data⟩, ⟨14, .guard⟩], some (14, false)⟩ rfl (by kernel_rfl) (Or.inr ⟨by rfl, rfl⟩) _
       try simp only [Act.put,nA,nB,nC]
       refine' tQ 24 ⟨some 145, .call ⟨.builtin .len, #[.tmp 144], #[32]⟩, 3, "law.go:206", #[⟨23, .data⟩, ⟨14, .guard⟩], some (14, false)⟩ rfl (by kernel_rfl) (Or.inr ⟨by rfl, rfl⟩) _
       try simp only [Act.put,nA,nB,nC]
       refine' tQ 25 ⟨some 146, .convert 3 29 (.tmp 145), 29, "law.go:206", #[⟨24, .data⟩, ⟨14, .guard⟩], some (14, false)⟩ rfl (by kernel_rfl) (Or.inr ⟨by rfl, rfl⟩) _
       try simp only [Act.put,nA,nB,nC]
       refine' tQ 26 ⟨some 147, .build 74 #[(0, .const (.int .i64 3)), (5, .tmp 146)], 74, "law.go:206", #[⟨25, .data⟩, ⟨14, .guard⟩], some (14, false)⟩ rfl (by kernel_rfl) (Or.inr ⟨by rfl, rfl⟩) _
       try simp only [Act.put,nA,nB,nC]
       refine' tQ 27 ⟨some 148, .call ⟨.value (.func 37), #[.tmp 136, .tmp 139, .tmp 147], #[66, 72, 74]⟩, 4, "law.go:206", #[⟨15, .data⟩, ⟨18, .data⟩, ⟨26, .data⟩, ⟨14, .chain⟩, ⟨14, .guard⟩], some (14, false)⟩ rfl (by kernel_rfl) (Or.inr ⟨by rfl, rfl⟩) _
       try simp only [Act.put,nA,nB,nC]
       refine' tQ 28 ⟨some 149, .unOp .not 4 (.tmp 148), 4, "law.go:206", #[⟨27, .data⟩, ⟨14, .guard⟩], some (14, false)⟩ rfl (by kernel_rfl) (Or.inr ⟨by rfl, rfl⟩) _
       try simp only [Act.put,nA,nB,nC]
       refine' tQ 29 ⟨some 150, .pick (.tmp 135) (.const (.bool true)) (.tmp 149), 4, "law.go:206", #[⟨14, .data⟩, ⟨28, .data⟩, ⟨6, .guard⟩], some (6, true)⟩ rfl (by kernel_rfl) (Or.inr ⟨by rfl, rfl⟩) _
       try simp only [Act.put,nA,nB,nC]
       refine' tQ 30 ⟨some 151, .pick (.tmp 127) (.tmp 150) (.const (.bool false)), 4, "law.go:206", #[⟨6, .data⟩, ⟨29, .data⟩], none⟩ rfl (by kernel_rfl) (Or.inl ⟨by rfl, _⟩) _; rotate_left; · (intro s h; (try dsimp only at h); go_simp; try with_reducible rfl)
       try simp only [Act.put,nA,nB,nC]
       refine wpAnyH_done (by kernel_rfl) ?_ _
       clear hHeld cP
       obtain ⟨wnB, hwn⟩ : ∃ W, wnA.drew = W := ⟨_, rfl⟩
       have HWnB : Hid (WI wnB q N cs lab ts ws Ts) := by rw [← hwn]; exact HWnA.out.quiet (Below.refl _ _).drew
       have BnB : Hid (Below N w wnB) := by rw [← hwn]; exact BnA.out.drew
       rw [hwn]
       clear hwn HWnA BnA
       go_upto_region 18 with fail
       with_reducible refine wp_region_list ?_
       (with_reducible refine wpList_plain rfl ?_); intro K hK; go_simp; (with_reducible refine hK _ _ ?_); clear hK K; try simp only [Act.put,nA,nB,nC]
       with_reducible refine wpList_plain rfl ?_
       intro K hK
       go_simp
       refine (whole_kept wnB q N cs lab ts ws Ts HWnB.out hT5).mono ?_; rintro e wz ⟨rfl, bz⟩
       first | with_reducible refine hK _ _ ?_ | refine hK _ _ ?_
       clear hK K
       try simp only [Act.put,nA,nB,nC]
       have Bz := Lib.hid (BnB.out.trans bz)
       clear bz
       (with_reducible refine wpList_plain rfl ?_); intro K hK; go_simp; (with_reducible refine hK _ _ ?_); clear hK K; try simp only [Act.put,nA,nB,nC]
       go_wp2_with fail
       go_ret
       exact ⟨rfl, Bz.out⟩
     ·as_aux_lemma =>
       have BnAz : N ≤ wnA.heap.size := by have := heap_lt HWnA.out.blk; omega
       have cP : wnA.cell? ⟨q, 3, none⟩ = some (.pointer (some ⟨p, 0, none⟩)) := hp.cell 3 _ hp.c0
       obtain ⟨rad, rcap, hrv, _⟩ := hp.row.shape
       subst hrv
       have cL : wnA.cell? ⟨q, 5, none⟩ = some (.slice rad L.length rcap) := hp.cell 5 _ hp.c2
       have hLl := hp.log.len
       have wL := IntWalk.u64_in (L.length : Int) (by omega)
       have HP : Hid (PR wnA.drew q 3 cs N p b lv (.slice rad L.length rcap) wd L) := hp.low (Below.refl _ _).drew
       have HL : Hid (lab p = 2 ∧ lab b = 2 ∧ Lab lab 2 lv ∧ Lab lab 2 (.slice rad L.length rcap)) := ⟨lp, lb, ll, lr⟩
       clear hp lp lb ll lr
       go_upto_region 16 with fail
       refine wp_region_held_drew (S := fun W => W.cell? ⟨q, 3, none⟩ = some (.pointer (some ⟨p, 0, none⟩)) ∧ W.cell? ⟨q, 5, none⟩ = some (.slice rad L.length rcap)) (by kernel_rfl) ⟨cP, cL⟩ (fun hHeld => ?_)
       refine' tQ 0 ⟨some 121, .move (.tmp 15), 66, "law.go:206", #[], none⟩ rfl (by kernel_rfl) (Or.inl ⟨by rfl, _⟩) _; rotate_left; · (intro s h; (try dsimp only at h); go_simp; try with_reducible rfl)
       try simp only [Act.put,nA,nB,nC]
       refine' tQ 1 ⟨some 122, .nilCheck (.tmp 121), 0, "law.go:206", #[⟨0, .data⟩], none⟩ rfl (by kernel_rfl) (Or.inl ⟨by rfl, _⟩) _; rotate_left; · (intro s h; (try dsimp only at h); go_simp; try with_reducible rfl)
       try simp only [Act.put,nA,nB,nC]
       refine' tQ 2 ⟨some 123, .fieldAddr 71 (.tmp 122) 1, 0, "law.go:206", #[⟨1, .data⟩], none⟩ rfl (by kernel_rfl) (Or.inl ⟨by rfl, _⟩) _; rotate_left; · (intro s h; (try dsimp only at h); go_simp; try with_reducible rfl)
       try simp only [Act.put,nA,nB,nC]
       refine' tQ 3 ⟨some 124, .fieldAddr 68 (.tmp 123) 0, 0, "law.go:206", #[⟨2, .data⟩], none⟩ rfl (by kernel_rfl) (Or.inl ⟨by rfl, _⟩) _; rotate_left; · (intro s h; (try dsimp only at h); go_simp; try with_reducible rfl)
       try simp only [Act.put,nA,nB,nC]
       refine' tQ 4 ⟨some 125, .load 40 (.tmp 124), 40, "law.go:206", #[⟨3, .data⟩], none⟩ rfl (by kernel_rfl) (Or.inl ⟨by rfl, _⟩) _; rotate_left; · (intro s h; (try dsimp only at h); go_simp; try with_reducible rfl)
       try simp only [Act.put,nA,nB,nC]
       refine' tQ 5 ⟨some 126, .binOp .neq 40 (.tmp 125) (.const (.pointer none)) 40, 4, "law.go:206", #[⟨4, .data⟩], none⟩ rfl (by kernel_rfl) (Or.inl ⟨by rfl, _⟩) _; rotate_left; · (intro s h; (try dsimp only at h); go_simp; try with_reducible rfl)
       try simp only [Act.put,nA,nB,nC]
       refine' tQ 6 ⟨some 127, .move (.tmp 126), 4, "law.go:206", #[⟨5, .data⟩], none⟩ rfl (by kernel_rfl) (Or.inl ⟨by rfl, _⟩) _; rotate_left; · (intro s h; (try dsimp only at h); go_simp; try with_reducible rfl)
       try simp only [Act.put,nA,nB,nC]
       refine' tQ 7 ⟨some 128, .move (.tmp 15), 66, "law.go:206", #[⟨6, .guard⟩], some (6, true)⟩ rfl (by kernel_rfl) (Or.inl ⟨by rfl, _⟩) _; rotate_left; · (intro s h; (try dsimp only at h); go_simp; try with_reducible rfl)
       try simp only [Act.put,nA,nB,nC]
       refine' tQ 8 ⟨some 129, .move (.tmp 15), 66, "law.go:206", #[⟨6, .guard⟩], some (6, true)⟩ rfl (by kernel_rfl) (Or.inl ⟨by rfl, _⟩) _; rotate_left; · (intro s h; (try dsimp only at h); go_simp; try with_reducible rfl)
       try simp only [Act.put,nA,nB,nC]
       refine' tQ 9 ⟨some 130, .nilCheck (.tmp 129), 0, "law.go:206", #[⟨8, .data⟩, ⟨6, .guard⟩], some (6, true)⟩ rfl (by kernel_rfl) (Or.inl ⟨by rfl, _⟩) _; rotate_left; · (intro s h; (try dsimp only at h); go_simp; try with_reducible rfl)
       try simp only [Act.put,nA,nB,nC]
       refine' tQ 10 ⟨some 131, .fieldAddr 71 (.tmp 130) 1, 0, "law.go:206", #[⟨9, .data⟩, ⟨6, .guard⟩], some (6, true)⟩ rfl (by kernel_rfl) (Or.inl ⟨by rfl, _⟩) _; rotate_left; · (intro s h; (try dsimp only at h); go_simp; try with_reducible rfl)
       try simp only [Act.put,nA,nB,nC]
       refine' tQ 11 ⟨some 132, .build 74 #[(0, .const (.int .i64 6))], 74, "law.go:206", #[⟨6, .guard⟩], some (6, true)⟩ rfl (by kernel_rfl) (Or.inl ⟨by rfl, _⟩) _; rotate_left; · (intro s h; (try dsimp only at h); go_simp; try with_reducible rfl)
       try simp only [Act.put,nA,nB,nC]
       refine wpAnyH_ready (rs := [12]) (by kernel_rfl) (by simp) ?_
       refine AllReadyH.cons (o := ⟨some 133, .call ⟨.value (.func 37), #[.tmp 128, .tmp 131, .tmp 132], #[66, 72, 74]⟩, 4, "law.go:206", #[⟨7, .data⟩, ⟨10, .data⟩, ⟨11, .data⟩, ⟨6, .chain⟩, ⟨6, .guard⟩], some (6, true)⟩) rfl (fun K hK => ?_) AllReadyH.nil
       (go_simp; (go_at_call 37; refine (step_6 _ q 3 cs N p b lv _ wd L 0 (.slice none 0 0) (.slice none 0 0) 0 0 HP hw1).mono ?_; rintro e wa ⟨rfl, ba⟩; have HPa := Lib.hid (HP.out.low ba)))
       refine hK.out _ _ ?_ (fun hHeld => ?_)
       ·exact ⟨HPa.out.cell 3 _ HPa.out.c0, HPa.out.cell 5 _ HPa.out.c2⟩
       clear hK K
       try simp only [Act.put,nA,nB,nC]
       have ba2 : Below wnA.heap.size wnA wa := Below.trans (Below.refl _ _).drew ba
       have HWa := Lib.hid (HWnA.out.quiet ba2)
       have Bka := Lib.hid (BnA.out.trans (ba2.mono BnAz))
       clear ba ba2
       refine' tQ 13 ⟨some 134, .unOp .not 4 (.tmp 133), 4, "law.go:206", #[⟨12, .data⟩, ⟨6, .guard⟩], some (6, true)⟩ rfl (by kernel_rfl) (Or.inl ⟨by rfl, _⟩) _; rotate_left; · (intro s h; (try dsimp only at h); go_simp; try with_reducible rfl)
       try simp only [Act.put,nA,nB,nC]
       refine' tQ 14 ⟨some 135, .move (.tmp 134), 4, "law.go:206", #[⟨13, .data⟩, ⟨12, .chain⟩, ⟨6, .guard⟩], some (6, true)⟩ rfl (by kernel_rfl) (Or.inl ⟨by rfl, _⟩) _; rotate_left; · (intro s h; (try dsimp only at h); go_simp; try with_reducible rfl)
       try simp only [Act.put,nA,nB,nC]
       refine' tQ 15 ⟨some 136, .move (.tmp 15), 66, "law.go:206", #[⟨14, .guard⟩], some (14, false)⟩ rfl (by kernel_rfl) (Or.inl ⟨by rfl, _⟩) _; rotate_left; · (intro s h; (try dsimp only at h); go_simp; try with_reducible rfl)
       try simp only [Act.put,nA,nB,nC]
       refine' tQ 16 ⟨some 137, .move (.tmp 15), 66, "law.go:206", #[⟨14, .guard⟩], some (14, false)⟩ rfl (by kernel_rfl) (Or.inl ⟨by rfl, _⟩) _; rotate_left; · (intro s h; (try dsimp only at h); go_simp; try with_reducible rfl)
       try simp only [Act.put,nA,nB,nC]
       refine' tQ 17 ⟨some 138, .nilCheck (.tmp 137), 0, "law.go:206", #[⟨16, .data⟩, ⟨14, .guard⟩], some (14, false)⟩ rfl (by kernel_rfl) (Or.inl ⟨by rfl, _⟩) _; rotate_left; · (intro s h; (try dsimp only at h); go_simp; try with_reducible rfl)
       try simp only [Act.put,nA,nB,nC]
       refine' tQ 18 ⟨some 139, .fieldAddr 71 (.tmp 138) 1, 0, "law.go:206", #[⟨17, .data⟩, ⟨14, .guard⟩], some (14, false)⟩ rfl (by kernel_rfl) (Or.inl ⟨by rfl, _⟩) _; rotate_left; · (intro s h; (try dsimp only at h); go_simp; try with_reducible rfl)
       try simp only [Act.put,nA,nB,nC]
       refine' tQ 19 ⟨some 140, .move (.tmp 15), 66, "law.go:206", #[⟨14, .guard⟩], some (14, false)⟩ rfl (by kernel_rfl) (Or.inl ⟨by rfl, _⟩) _; rotate_left; · (intro s h; (try dsimp only at h); go_simp; try with_reducible rfl)
       try simp only [Act.put,nA,nB,nC]
       refine' tQ 20 ⟨some 141, .nilCheck (.tmp 140), 0, "law.go:206", #[⟨19, .data⟩, ⟨14, .guard⟩], some (14, false)⟩ rfl (by kernel_rfl) (Or.inl ⟨by rfl, _⟩) _; rotate_left; · (intro s h; (try dsimp only at h); go_simp; try with_reducible rfl)
       try simp only [Act.put,nA,nB,nC]
       refine' tQ 21 ⟨some 142, .fieldAddr 71 (.tmp 141) 1, 0, "law.go:206", #[⟨20, .data⟩, ⟨14, .guard⟩], some (14, false)⟩ rfl (by kernel_rfl) (Or.inl ⟨by rfl, _⟩) _; rotate_left; · (intro s h; (try dsimp only at h); go_simp; try with_reducible rfl)
       try simp only [Act.put,nA,nB,nC]
       refine' tQ 22 ⟨some 143, .fieldAddr 68 (.tmp 142) 2, 0, "law.go:206", #[⟨21, .data⟩, ⟨14, .guard⟩], some (14, false)⟩ rfl (by kernel_rfl) (Or.inl ⟨by rfl, _⟩) _; rotate_left; · (intro s h; (try dsimp only at h); go_simp; try with_reducible rfl)
       try simp only [Act.put,nA,nB,nC]
       refine' tQ 23 ⟨some 144, .load 32 (.tmp 143), 32, "law.go:206", #[⟨22, .data⟩, ⟨14, .guard⟩], some (14, false)⟩ rfl (by kernel_rfl) (Or.inl ⟨by rfl, _⟩) _; rotate_left; · (intro s h; (try dsimp only at h); go_simp; try with_reducible rfl)
       try simp only [Act.put,nA,nB,nC]
       refine' tQ 24 ⟨some 145, .call ⟨.builtin .len, #[.tmp 144], #[32]⟩, 3, "law.go:206", #[⟨23, .data⟩, ⟨14, .guard⟩], some (14, false)⟩ rfl (by kernel_rfl) (Or.inl ⟨by rfl, _⟩) _; rotate_left; · (intro s h; (try dsimp only at h); go_simp; try with_reducible rfl)
       try simp only [Act.put,nA,nB,nC]
       refine' tQ 25 ⟨some 146, .convert 3 29 (.tmp 145), 29, "law.go:206", #[⟨24, .data⟩, ⟨14, .guard⟩], some (14, false)⟩ rfl (by kernel_rfl) (Or.inl ⟨by rfl, _⟩) _; rotate_left; · (intro s h; (try dsimp only at h); go_simp; try with_reducible rfl)
       try simp only [Act.put,nA,nB,nC]
       refine' tQ 26 ⟨some 147, .build 74 #[(0, .const (.int .i64 3)), (5, .tmp 146)], 74, "law.go:206", #[⟨25, .data⟩, ⟨14, .guard⟩], some (14, false)⟩ rfl (by kernel_rfl) (Or.inl ⟨by rfl, _⟩) _; rotate_left; · (intro s h; (try dsimp only at h); go_simp; try with_reducible rfl)
       try simp only [Act.put,nA,nB,nC]
       refine wpAnyH_ready (rs := [27]) (by kernel_rfl) (by simp) ?_
       refine AllReadyH.cons (o := ⟨some 148, .call ⟨.value (.func 37), #[.tmp 136, .tmp 139, .tmp 147], #[66, 72, 74]⟩, 4, "law.go:206", #[⟨15, .data⟩, ⟨18, .data⟩, ⟨26, .data⟩, ⟨14, .chain⟩, ⟨14, .guard⟩], some (14, false)⟩) rfl (fun K hK => ?_) AllReadyH.nil
       (go_simp; (go_at_call 37; refine (step_3_yes _ q 3 cs N p b lv _ wd L 0 (.slice none 0 0) (.slice none 0 0) 0 L.length HPa hw1 hw2 (Nat.le_refl _) (by omega)).mono ?_; rintro e wb ⟨rfl, hpb, mb⟩))
       refine hK.out _ _ ?_ (fun hHeld => ?_)
       ·exact ⟨hpb.cell 3 _ hpb.c0, hpb.cell 5 _ hpb.c2⟩
       clear hK K
       try simp only [Act.put,nA,nB,nC]
       have hcs : cs.set (3 + 2) (.slice rad L.length rcap) = cs := set_same _ _ _ hpb.c2
       have hpb2 := hpb
       rw [← hcs] at hpb2
       obtain ⟨labbB, hwb⟩ := HWa.out.turn (off := 3) (t := 2) (by omega) HPa.out hw1 hw2 HL.out.1 HL.out.2.1 HL.out.2.2.1 HL.out.2.2.2 hpb2 mb (fun k hk => .inr (.inr (.inl hk))) (fun k hk => .inl hk) (fun k hk => .inl hk)
       rw [hcs] at hwb
       have HWbB := Lib.hid hwb
       have BkbB := Lib.hid (Bka.out.trans (mb.below (n := N) (fun k hk e => by have := HPa.out.log.hb; omega) (by have := heap_lt HWa.out.blk; omega)))
       clear hpb hpb2 mb hwb hcs HWa Bka HPa HP HL
       refine' tQ 28 ⟨some 149, .unOp .not 4 (.tmp 148), 4, "law.go:206", #[⟨27, .data⟩, ⟨14, .guard⟩], some (14, false)⟩ rfl (by kernel_rfl) (Or.inl ⟨by rfl, _⟩) _; rotate_left; · (intro s h; (try dsimp only at h); go_simp; try with_reducible rfl)
       try simp only [Act.put,nA,nB,nC]
       refine' tQ 29 ⟨some 150, .pick (.tmp 135) (.const (.bool true)) (.tmp 149), 4, "law.go:206", #[⟨14, .data⟩, ⟨28, .data⟩, ⟨6, .guard⟩], some (6, true)⟩ rfl (by kernel_rfl) (Or.inl ⟨by rfl, _⟩) _; rotate_left; · (intro s h; (try dsimp only at h); go_simp; try with_reducible rfl)
       try simp only [Act.put,nA,nB,nC]
       refine' tQ 30 ⟨some 151, .pick (.tmp 127) (.tmp 150) (.const (.bool false)), 4, "law.go:206", #[⟨6, .data⟩, ⟨29, .data⟩], none⟩ rfl (by kernel_rfl) (Or.inl ⟨by rfl, _⟩) _; rotate_left; · (intro s h; (try dsimp only at h); go_simp; try with_reducible rfl)
       try simp only [Act.put,nA,nB,nC]
       refine wpAnyH_done (by kernel_rfl) ?_ _
       clear hHeld cP cL wL
       obtain ⟨wyB, hwy⟩ : ∃ W, wb = W := ⟨_, rfl⟩
       rw [hwy] at HWbB BkbB ⊢
       clear hwy HWnA BnA
       go_upto_region 18 with fail
       with_reducible refine wp_region_list ?_
       (with_reducible refine wpList_plain rfl ?_); intro K hK; go_simp; (with_reducible refine hK _ _ ?_); clear hK K; try simp only [Act.put,nA,nB,nC]
       with_reducible refine wpList_plain rfl ?_
       intro K hK
       go_simp
       refine (whole_kept wyB q N cs labbB ts ws Ts HWbB.out hT5).mono ?_; rintro e wz ⟨rfl, bz⟩
       first | with_reducible refine hK _ _ ?_ | refine hK _ _ ?_
       clear hK K
       try simp only [Act.put,nA,nB,nC]
       have Bz := Lib.hid (BkbB.out.trans bz)
       clear bz
       (with_reducible refine wpList_plain rfl ?_); intro K hK; go_simp; (with_reducible refine hK _ _ ?_); clear hK K; try simp only [Act.put,nA,nB,nC]
       go_wp2_with fail
       go_ret
       exact ⟨rfl, Bz.out⟩
   ·as_aux_lemma =>
     have Bkz : N ≤ w5.heap.size := by have := heap_lt HW.out.blk; omega
     have cP : w5.cell? ⟨q, 0, none⟩ = some (.pointer (some ⟨p, 0, none⟩)) := hp.cell 0 _ hp.c0
     obtain ⟨rad, rcap, hrv, _⟩ := hp.row.shape
     subst hrv
     have cL : w5.cell? ⟨q, 2, none⟩ = some (.slice rad L.length rcap) := hp.cell 2 _ hp.c2
     have hLl := hp.log.len
     have wL := IntWalk.u64_in (L.length : Int) (by omega)
     have HP : Hid (PR w5.drew q 0 cs N p b lv (.slice rad L.length rcap) wd L) := hp.low (Below.refl _ _).drew
     have HL : Hid (lab p = 1 ∧ lab b = 1 ∧ Lab lab 1 lv ∧ Lab lab 1 (.slice rad L.length rcap)) := ⟨lp, lb, ll, lr⟩
     clear hp lp lb ll lr
     go_upto_region 14 with fail
     refine wp_region_held_drew (S := fun W => W.cell? ⟨q, 0, none⟩ = some (.pointer (some ⟨p, 0, none⟩)) ∧ W.cell? ⟨q, 2, none⟩ = some (.slice rad L.length rcap)) (by kernel_rfl) ⟨cP, cL⟩ (fun hHeld => ?_)
     refine' tQ 0 ⟨some 90, .move (.tmp 15), 66, "law.go:203", #[], none⟩ rfl (by kernel_rfl) (Or.inl ⟨by rfl, _⟩) _; rotate_left; · (intro s h; (try dsimp only at h); go_simp; try with_reducible rfl)
     try simp only [Act.put,nA,nB,nC]
     refine' tQ 1 ⟨some 91, .nilCheck (.tmp 90), 0, "law.go:203", #[⟨0, .data⟩], none⟩ rfl (by kernel_rfl) (Or.inl ⟨by rfl, _⟩) _; rotate_left; · (intro s h; (try dsimp only at h); go_simp; try with_reducible rfl)
     try simp only [Act.put,nA,nB,nC]
     refine' tQ 2 ⟨some 92, .fieldAddr 71 (.tmp 91) 0, 0, "law.go:203", #[⟨1, .data⟩], none⟩ rfl (by kernel_rfl) (Or.inl ⟨by rfl, _⟩) _; rotate_left; · (intro s h; (try dsimp only at h); go_simp; try with_reducible rfl)
     try simp only [Act.put,nA,nB,nC]
     refine' tQ 3 ⟨some 93, .fieldAddr 68 (.tmp 92) 0, 0, "law.go:203", #[⟨2, .data⟩], none⟩ rfl (by kernel_rfl) (Or.inl ⟨by rfl, _⟩) _; rotate_left; · (intro s h; (try dsimp only at h); go_simp; try with_reducible rfl)
     try simp only [Act.put,nA,nB,nC]
     refine' tQ 4 ⟨some 94, .load 40 (.tmp 93), 40, "law.go:203", #[⟨3, .data⟩], none⟩ rfl (by kernel_rfl) (Or.inl ⟨by rfl, _⟩) _; rotate_left; · (intro s h; (try dsimp only at h); go_simp; try with_reducible rfl)
     try simp only [Act.put,nA,nB,nC]
     refine' tQ 5 ⟨some 95, .binOp .neq 40 (.tmp 94) (.const (.pointer none)) 40, 4, "law.go:203", #[⟨4, .data⟩], none⟩ rfl (by kernel_rfl) (Or.inl ⟨by rfl, _⟩) _; rotate_left; · (intro s h; (try dsimp only at h); go_simp; try with_reducible rfl)
     try simp only [Act.put,nA,nB,nC]
     refine' tQ 6 ⟨some 96, .move (.tmp 95), 4, "law.go:203", #[⟨5, .data⟩], none⟩ rfl (by kernel_rfl) (Or.inl ⟨by rfl, _⟩) _; rotate_left; · (intro s h; (try dsimp only at h); go_simp; try with_reducible rfl)
     try simp only [Act.put,nA,nB,nC]
     refine' tQ 7 ⟨some 97, .move (.tmp 15), 66, "law.go:203", #[⟨6, .guard⟩], some (6, true)⟩ rfl (by kernel_rfl) (Or.inl ⟨by rfl, _⟩) _; rotate_left; · (intro s h; (try dsimp only at h); go_simp; try with_reducible rfl)
     try simp only [Act.put,nA,nB,nC]
     refine' tQ 8 ⟨some 98, .move (.tmp 15), 66, "law.go:203", #[⟨6, .guard⟩], some (6, true)⟩ rfl (by kernel_rfl) (Or.inl ⟨by rfl, _⟩) _; rotate_left; · (intro s h; (try dsimp only at h); go_simp; try with_reducible rfl)
     try simp only [Act.put,nA,nB,nC]
     refine' tQ 9 ⟨some 99, .nilCheck (.tmp 98), 0, "law.go:203", #[⟨8, .data⟩, ⟨6, .guard⟩], some (6, true)⟩ rfl (by kernel_rfl) (Or.inl ⟨by rfl, _⟩) _; rotate_left; · (intro s h; (try dsimp only at h); go_simp; try with_reducible rfl)
     try simp only [Act.put,nA,nB,nC]
     refine' tQ 10 ⟨some 100, .fieldAddr 71 (.tmp 99) 0, 0, "law.go:203", #[⟨9, .data⟩, ⟨6, .guard⟩], some (6, true)⟩ rfl (by kernel_rfl) (Or.inl ⟨by rfl, _⟩) _; rotate_left; · (intro s h; (try dsimp only at h); go_simp; try with_reducible rfl)
     try simp only [Act.put,nA,nB,nC]
     refine' tQ 11 ⟨some 101, .build 74 #[(0, .const (.int .i64 6))], 74, "law.go:203", #[⟨6, .guard⟩], some (6, true)⟩ rfl (by kernel_rfl) (Or.inl ⟨by rfl, _⟩) _; rotate_left; · (intro s h; (try dsimp only at h); go_simp; try with_reducible rfl)
     try simp only [Act.put,nA,nB,nC]
     refine wpAnyH_ready (rs := [12]) (by kernel_rfl) (by simp) ?_
     refine AllReadyH.cons (o := ⟨some 102, .call ⟨.value (.func 37), #[.tmp 97, .tmp 100, .tmp 101], #[66, 72, 74]⟩, 4, "law.go:203", #[⟨7, .data⟩, ⟨10, .data⟩, ⟨11, .data⟩, ⟨6, .chain⟩, ⟨6, .guard⟩], some (6, true)⟩) rfl (fun K hK => ?_) AllReadyH.nil
     (go_simp; (go_at_call 37; refine (step_6 _ q 0 cs N p b lv _ wd L 0 (.slice none 0 0) (.slice none 0 0) 0 0 HP hw1).mono ?_; rintro e wa ⟨rfl, ba⟩; have HPa := Lib.hid (HP.out.low ba)))
     refine hK.out _ _ ?_ (fun hHeld => ?_)
     ·exact ⟨HPa.out.cell 0 _ HPa.out.c0, HPa.out.cell 2 _ HPa.out.c2⟩
     clear hK K
     try simp only [Act.put,nA,nB,nC]
     have ba2 : Below w5.heap.size w5 wa := Below.trans (Below.refl _ _).drew ba
     have HWa := Lib.hid (HW.out.quiet ba2)
     have Bka := Lib.hid (Bk.out.trans (ba2.mono Bkz))
     clear ba ba2
     refine' tQ 13 ⟨some 103, .unOp .not 4 (.tmp 102), 4, "law.go:203", #[⟨12, .data⟩, ⟨6, .guard⟩], some (6, true)⟩ rfl (by kernel_rfl) (Or.inl ⟨by rfl, _⟩) _; rotate_left; · (intro s h; (try dsimp only at h); go_simp; try with_reducible rfl)
     try simp only [Act.put,nA,nB,nC]
     refine' tQ 14 ⟨some 104, .move (.tmp 103), 4, "law.go:203", #[⟨13, .data⟩, ⟨12, .chain⟩, ⟨6, .guard⟩], some (6, true)⟩ rfl (by kernel_rfl) (Or.inl ⟨by rfl, _⟩) _; rotate_left; · (intro s h; (try dsimp only at h); go_simp; try with_reducible rfl)
     try simp only [Act.put,nA,nB,nC]
     refine' tQ 15 ⟨some 105, .move (.tmp 15), 66, "law.go:203", #[⟨14, .guard⟩], some (14, false)⟩ rfl (by kernel_rfl) (Or.inl ⟨by rfl, _⟩) _; rotate_left; · (intro s h; (try dsimp only at h); go_simp; try with_reducible rfl)
     try simp only [Act.put,nA,nB,nC]
     refine' tQ 16 ⟨some 106, .move (.tmp 15), 66, "law.go:203", #[⟨14, .guard⟩], some (14, false)⟩ rfl (by kernel_rfl) (Or.inl ⟨by rfl, _⟩) _; rotate_left; · (intro s h; (try dsimp only at h); go_simp; try with_reducible rfl)
     try simp only [Act.put,nA,nB,nC]
     refine' tQ 17 ⟨some 107, .nilCheck (.tmp 106), 0, "law.go:203", #[⟨16, .data⟩, ⟨14, .guard⟩], some (14, false)⟩ rfl (by kernel_rfl) (Or.inl ⟨by rfl, _⟩) _; rotate_left; · (intro s h; (try dsimp only at h); go_simp; try with_reducible rfl)
     try simp only [Act.put,nA,nB,nC]
     refine' tQ 18 ⟨some 108, .fieldAddr 71 (.tmp 107) 0, 0, "law.go:203", #[⟨17, .data⟩, ⟨14, .guard⟩], some (14, false)⟩ rfl (by kernel_rfl) (Or.inl ⟨by rfl, _⟩) _; rotate_left; · (intro s h; (try dsimp only at h); go_simp; try with_reducible rfl)
     try simp only [Act.put,nA,nB,nC]
     refine' tQ 19 ⟨some 109, .move (.tmp 15), 66, "law.go:203", #[⟨14, .guard⟩], some (14, false)⟩ rfl (by kernel_rfl) (Or.inl ⟨by rfl, _⟩) _; rotate_left; · (intro s h; (try dsimp only at h); go_simp; try with_reducible rfl)
     try simp only [Act.put,nA,nB,nC]
     refine' tQ 20 ⟨some 110, .nilCheck (.tmp 109), 0, "law.go:203", #[⟨19, .data⟩, ⟨14, .guard⟩], some (14, false)⟩ rfl (by kernel_rfl) (Or.inl ⟨by rfl, _⟩) _; rotate_left; · (intro s h; (try dsimp only at h); go_simp; try with_reducible rfl)
     try simp only [Act.put,nA,nB,nC]
     refine' tQ 21 ⟨some 111, .fieldAddr 71 (.tmp 110) 0, 0, "law.go:203", #[⟨20, .data⟩, ⟨14, .guard⟩], some (14, false)⟩ rfl (by kernel_rfl) (Or.inl ⟨by rfl, _⟩) _; rotate_left; · (intro s h; (try dsimp only at h); go_simp; try with_reducible rfl)
     try simp only [Act.put,nA,nB,nC]
     refine' tQ 22 ⟨some 112, .fieldAddr 68 (.tmp 111) 2, 0, "law.go:203", #[⟨21, .data⟩, ⟨14, .guard⟩], some (14, false)⟩ rfl (by kernel_rfl) (Or.inl ⟨by rfl, _⟩) _; rotate_left; · (intro s h; (try dsimp only at h); go_simp; try with_reducible rfl)
     try simp only [Act.put,nA,nB,nC]
     refine' tQ 23 ⟨some 113, .load 32 (.tmp 112), 32, "law.go:203", #[⟨22, .data⟩, ⟨14, .guard⟩], some (14, false)⟩ rfl (by kernel_rfl) (Or.inl ⟨by rfl, _⟩) _; rotate_left; · (intro s h; (try dsimp only at h); go_simp; try with_reducible rfl)
     try simp only [Act.put,nA,nB,nC]
     refine' tQ 24 ⟨some 114, .call ⟨.builtin .len, #[.tmp 113], #[32]⟩, 3, "law.go:203", #[⟨23, .data⟩, ⟨14, .guard⟩], some (14, false)⟩ rfl (by kernel_rfl) (Or.inl ⟨by rfl, _⟩) _; rotate_left; · (intro s h; (try dsimp only at h); go_simp; try with_reducible rfl)
     try simp only [Act.put,nA,nB,nC]
     refine' tQ 25 ⟨some 115, .convert 3 29 (.tmp 114), 29, "law.go:203", #[⟨24, .data⟩, ⟨14, .guard⟩], some (14, false)⟩ rfl (by kernel_rfl) (Or.inl ⟨by rfl, _⟩) _; rotate_left; · (intro s h; (try dsimp only at h); go_simp; try with_reducible rfl)
     try simp only [Act.put,nA,nB,nC]
     refine' tQ 26 ⟨some 116, .build 74 #[(0, .const (.int .i64 3)), (5, .tmp 115)], 74, "law.go:203", #[⟨25, .data⟩, ⟨14, .guard⟩], some (14, false)⟩ rfl (by kernel_rfl) (Or.inl ⟨by rfl, _⟩) _; rotate_left; · (intro s h; (try dsimp only at h); go_simp; try with_reducible rfl)
     try simp only [Act.put,nA,nB,nC]
     refine wpAnyH_ready (rs := [27]) (by kernel_rfl) (by simp) ?_
     refine AllReadyH.cons (o := ⟨some 117, .call ⟨.value (.func 37), #[.tmp 105, .tmp 108, .tmp 116], #[66, 72, 74]⟩, 4, "law.go:203", #[⟨15, .data⟩, ⟨18, .data⟩, ⟨26, .data⟩, ⟨14, .chain⟩, ⟨14, .guard⟩], some (14, false)⟩) rfl (fun K hK => ?_) AllReadyH.nil
     (go_simp; (go_at_call 37; refine (step_3_yes _ q 0 cs N p b lv _ wd L 0 (.slice none 0 0) (.slice none 0 0) 0 L.length HPa hw1 hw2 (Nat.le_refl _) (by omega)).mono ?_; rintro e wb ⟨rfl, hpb, mb⟩))
     refine hK.out _ _ ?_ (fun hHeld => ?_)
     ·exact ⟨hpb.cell 0 _ hpb.c0, hpb.cell 2 _ hpb.c2⟩
     clear hK K
     try simp only [Act.put,nA,nB,nC]
     have hcs : cs.set (0 + 2) (.slice rad L.length rcap) = cs := set_same _ _ _ hpb.c2
     have hpb2 := hpb
     rw [← hcs] at hpb2
     obtain ⟨labbA, hwb⟩ := HWa.out.turn (off := 0) (t := 1) (by omega) HPa.out hw1 hw2 HL.out.1 HL.out.2.1 HL.out.2.2.1 HL.out.2.2.2 hpb2 mb (fun k hk => .inr (.inr (.inl hk))) (fun k hk => .inl hk) (fun k hk => .inl hk)
     rw [hcs] at hwb
     have HWbA := Lib.hid hwb
     have BkbA := Lib.hid (Bka.out.trans (mb.below (n := N) (fun k hk e => by have := HPa.out.log.hb; omega) (by have := heap_lt HWa.out.blk; omega)))
     clear hpb hpb2 mb hwb hcs HWa Bka HPa HP HL
     refine' tQ 28 ⟨some 118, .unOp .not 4 (.tmp 117), 4, "law.go:203", #[⟨27, .data⟩, ⟨14, .guard⟩], some (14, false)⟩ rfl (by kernel_rfl) (Or.inl ⟨by rfl, _⟩) _; rotate_left; · (intro s h; (try dsimp only at h); go_simp; try with_reducible rfl)
     try simp only [Act.put,nA,nB,nC]
     refine' tQ 29 ⟨some 119, .pick (.tmp 104) (.const (.bool true)) (.tmp 118), 4, "law.go:203", #[⟨14, .data⟩, ⟨28, .data⟩, ⟨6, .guard⟩], some (6, true)⟩ rfl (by kernel_rfl) (Or.inl ⟨by rfl, _⟩) _; rotate_left; · (intro s h; (try dsimp only at h); go_simp; try with_reducible rfl)
     try simp only [Act.put,nA,nB,nC]
     refine' tQ 30 ⟨some 120, .pick (.tmp 96) (.tmp 119) (.const (.bool false)), 4, "law.go:203", #[⟨6, .data⟩, ⟨29, .data⟩], none⟩ rfl (by kernel_rfl) (Or.inl ⟨by rfl, _⟩) _; rotate_left; · (intro s h; (try dsimp only at h); go_simp; try with_reducible rfl)
     try simp only [Act.put,nA,nB,nC]
     refine wpAnyH_done (by kernel_rfl) ?_ _
     clear hHeld cP cL wL
     obtain ⟨wyA, hwy⟩ : ∃ W, wb = W := ⟨_, rfl⟩
     rw [hwy] at HWbA BkbA ⊢
     clear hwy HW Bk
     rcases HWbA.out.sB with hnil | ⟨p, b, lv, rv, wd, L, hp, hw1, hw2, lp, lb, ll, lr⟩
     ·as_aux_lemma =>
       have cP : wyA.cell? ⟨q, 3, none⟩ = some (.pointer none) := by rw [heap_cell HWbA.out.blk, List.getElem?_toArray]; exact hnil
       go_upto_region 16 with fail
       refine wp_region_held_drew (S := fun W => W.cell? ⟨q, 3, none⟩ = some (.pointer none)) (by kernel_rfl) cP (fun hHeld => ?_)
       refine' tQ 0 ⟨some 121, .move (.tmp 15), 66, "law.go:206", #[], none⟩ rfl (by kernel_rfl) (Or.inl ⟨by rfl, _⟩) _; rotate_left; · (intro s h; (try dsimp only at h); go_simp; try with_reducible rfl)
       try simp only [Act.put,nA,nB,nC]
       refine' tQ 1 ⟨some 122, .nilCheck (.tmp 121), 0, "law.go:206", #[⟨0, .data⟩], none⟩ rfl (by kernel_rfl) (Or.inl ⟨by rfl, _⟩) _; rotate_left; · (intro s h; (try dsimp only at h); go_simp; try with_reducible rfl)
       try simp only [Act.put,nA,nB,nC]
       refine' tQ 2 ⟨some 123, .fieldAddr 71 (.tmp 122) 1, 0, "law.go:206", #[⟨1, .data⟩], none⟩ rfl (by kernel_rfl) (Or.inl ⟨by rfl, _⟩) _; rotate_left; · (intro s h; (try dsimp only at h); go_simp; try with_reducible rfl)
       try simp only [Act.put,nA,nB,nC]
       refine' tQ 3 ⟨some 124, .fieldAddr 68 (.tmp 123) 0, 0, "law.go:206", #[⟨2, .data⟩], none⟩ rfl (by kernel_rfl) (Or.inl ⟨by rfl, _⟩) _; rotate_left; · (intro s h; (try dsimp only at h); go_simp; try with_reducible rfl)
       try simp only [Act.put,nA,nB,nC]
       refine' tQ 4 ⟨some 125, .load 40 (.tmp 124), 40, "law.go:206", #[⟨3, .data⟩], none⟩ rfl (by kernel_rfl) (Or.inl ⟨by rfl, _⟩) _; rotate_left; · (intro s h; (try dsimp only at h); go_simp; try with_reducible rfl)
       try simp only [Act.put,nA,nB,nC]
       refine' tQ 5 ⟨some 126, .binOp .neq 40 (.tmp 125) (.const (.pointer none)) 40, 4, "law.go:206", #[⟨4, .data⟩], none⟩ rfl (by kernel_rfl) (Or.inl ⟨by rfl, _⟩) _; rotate_left; · (intro s h; (try dsimp only at h); go_simp; try with_reducible rfl)
       try simp only [Act.put,nA,nB,nC]
       refine' tQ 6 ⟨some 127, .move (.tmp 126), 4, "law.go:206", #[⟨5, .data⟩], none⟩ rfl (by kernel_rfl) (Or.inl ⟨by rfl, _⟩) _; rotate_left; · (intro s h; (try dsimp only at h); go_simp; try with_reducible rfl)
       try simp only [Act.put,nA,nB,nC]
       refine' tQ 7 ⟨some 128, .move (.tmp 15), 66, "law.go:206", #[⟨6, .guard⟩], some (6, true)⟩ rfl (by kernel_rfl) (Or.inr ⟨by rfl, rfl⟩) _
       try simp only [Act.put,nA,nB,nC]
       refine' tQ 8 ⟨some 129, .move (.tmp 15), 66, "law.go:206", #[⟨6, .guard⟩], some (6, true)⟩ rfl (by kernel_rfl) (Or.inr ⟨by rfl, rfl⟩) _
       try simp only [Act.put,nA,nB,nC]
       refine' tQ 9 ⟨some 130, .nilCheck (.tmp 129), 0, "law.go:206", #[⟨8, .data⟩, ⟨6, .guard⟩], some (6, true)⟩ rfl (by kernel_rfl) (Or.inr ⟨by rfl, rfl⟩) _
       try simp only [Act.put,nA,nB,nC]
       refine' tQ 10 ⟨some 131, .fieldAddr 71 (.tmp 130) 1, 0, "law.go:206", #[⟨9, .data⟩, ⟨6, .guard⟩], some (6, true)⟩ rfl (by kernel_rfl) (Or.inr ⟨by rfl, rfl⟩) _
       try simp only [Act.put,nA,nB,nC]
       refine' tQ 11 ⟨some 132, .build 74 #[(0, .const (.int .i64 6))], 74, "law.go:206", #[⟨6, .guard⟩], some (6, true)⟩ rfl (by kernel_rfl) (Or.inr ⟨by rfl, rfl⟩) _
       try simp only [Act.put,nA,nB,nC]
       refine' tQ 12 ⟨some 133, .call ⟨.value (.func 37), #[.tmp 128, .tmp 131, .tmp 132], #[66, 72, 74]⟩, 4, "law.go:206", #[⟨7, .data⟩, ⟨10, .data⟩, ⟨11, .data⟩, ⟨6, .chain⟩, ⟨6, .guard⟩], some (6, true)⟩ rfl (by kernel_rfl) (Or.inr ⟨by rfl, rfl⟩) _
       try simp only [Act.put,nA,nB,nC]
       refine' tQ 13 ⟨some 134, .unOp .not 4 (.tmp 133), 4, "law.go:206", #[⟨12, .data⟩, ⟨6, .guard⟩], some (6, true)⟩ rfl (by kernel_rfl) (Or.inr ⟨by rfl, rfl⟩) _
       try simp only [Act.put,nA,nB,nC]
       refine' tQ 14 ⟨some 135, .move (.tmp 134), 4, "law.go:206", #[⟨13, .data⟩, ⟨12, .chain⟩, ⟨6, .guard⟩], some (6, true)⟩ rfl (by kernel_rfl) (Or.inr ⟨by rfl, rfl⟩) _
       try simp only [Act.put,nA,nB,nC]
       refine' tQ 15 ⟨some 136, .move (.tmp 15), 66, "law.go:206", #[⟨14, .guard⟩], some (14, false)⟩ rfl (by kernel_rfl) (Or.inr ⟨by rfl, rfl⟩) _
       try simp only [Act.put,nA,nB,nC]
       refine' tQ 16 ⟨some 137, .move (.tmp 15), 66, "law.go:206", #[⟨14, .guard⟩], some (14, false)⟩ rfl (by kernel_rfl) (Or.inr ⟨by rfl, rfl⟩) _
       try simp only [Act.put,nA,nB,nC]
       refine' tQ 17 ⟨some 138, .nilCheck (.tmp 137), 0, "law.go:206", #[⟨16, .data⟩, ⟨14, .guard⟩], some (14, false)⟩ rfl (by kernel_rfl) (Or.inr ⟨by rfl, rfl⟩) _
       try simp only [Act.put,nA,nB,nC]
       refine' tQ 18 ⟨some 139, .fieldAddr 71 (.tmp 138) 1, 0, "law.go:206", #[⟨17, .data⟩, ⟨14, .guard⟩], some (14, false)⟩ rfl (by kernel_rfl) (Or.inr ⟨by rfl, rfl⟩) _
       try simp only [Act.put,nA,nB,nC]
       refine' tQ 19 ⟨some 140, .move (.tmp 15), 66, "law.go:206", #[⟨14, .guard⟩], some (14, false)⟩ rfl (by kernel_rfl) (Or.inr ⟨by rfl, rfl⟩) _
       try simp only [Act.put,nA,nB,nC]
       refine' tQ 20 ⟨some 141, .nilCheck (.tmp 140), 0, "law.go:206", #[⟨19, .data⟩, ⟨14, .guard⟩], some (14, false)⟩ rfl (by kernel_rfl) (Or.inr ⟨by rfl, rfl⟩) _
       try simp only [Act.put,nA,nB,nC]
       refine' tQ 21 ⟨some 142, .fieldAddr 71 (.tmp 141) 1, 0, "law.go:206", #[⟨20, .data⟩, ⟨14, .guard⟩], some (14, false)⟩ rfl (by kernel_rfl) (Or.inr ⟨by rfl, rfl⟩) _
       try simp only [Act.put,nA,nB,nC]
       refine' tQ 22 ⟨some 143, .fieldAddr 68 (.tmp 142) 2, 0, "law.go:206", #[⟨21, .data⟩, ⟨14, .guard⟩], some (14, false)⟩ rfl (by kernel_rfl) (Or.inr ⟨by rfl, rfl⟩) _
       try simp only [Act.put,nA,nB,nC]
       refine' tQ 23 ⟨some 144, .load 32 (.tmp 143), 32, "law.go:206", #[⟨22, .data⟩, ⟨14, .guard⟩], some (14, false)⟩ rfl (by kernel_rfl) (Or.inr ⟨by rfl, rfl⟩) _
       try simp only [Act.put,nA,nB,nC]
       refine' tQ 24 ⟨some 145, .call ⟨.builtin .len, #[.tmp 144], #[32]⟩, 3, "law.go:206", #[⟨23, .data⟩, ⟨14, .guard⟩], some (14, false)⟩ rfl (by kernel_rfl) (Or.inr ⟨by rfl, rfl⟩) _
       try simp only [Act.put,nA,nB,nC]
       refine' tQ 25 ⟨some 146, .convert 3 29 (.tmp 145), 29, "law.go:206", #[⟨24, .data⟩, ⟨14, .guard⟩], some (14, false)⟩ rfl (by kernel_rfl) (Or.inr ⟨by rfl, rfl⟩) _
       try simp only [Act.put,nA,nB,nC]
       refine' tQ 26 ⟨some 147, .build 74 #[(0, .const (.int .i64 3)), (5, .tmp 146)], 74, "law.go:206", #[⟨25, .data⟩, ⟨14, .guard⟩], some (14, false)⟩ rfl (by kernel_rfl) (Or.inr ⟨by rfl, rfl⟩) _
       try simp only [Act.put,nA,nB,nC]
       refine' tQ 27 ⟨some 148, .call ⟨.value (.func 37), #[.tmp 136, .tmp 139, .tmp 147], #[66, 72, 74]⟩, 4, "law.go:206", #[⟨15, .data⟩, ⟨18, .data⟩, ⟨26, .data⟩, ⟨14, .chain⟩, ⟨14, .guard⟩], some (14, false)⟩ rfl (by kernel_rfl) (Or.inr ⟨by rfl, rfl⟩) _
       try simp only [Act.put,nA,nB,nC]
       refine' tQ 28 ⟨some 149, .unOp .not 4 (.tmp 148), 4, "law.go:206", #[⟨27, .data⟩, ⟨14, .guard⟩], some (14, false)⟩ rfl (by kernel_rfl) (Or.inr ⟨by rfl, rfl⟩) _
       try simp only [Act.put,nA,nB,nC]
       refine' tQ 29 ⟨some 150, .pick (.tmp 135) (.const (.bool true)) (.tmp 149), 4, "law.go:206", #[⟨14, .data⟩, ⟨28, .data⟩, ⟨6, .guard⟩], some (6, true)⟩ rfl (by kernel_rfl) (Or.inr ⟨by rfl, rfl⟩) _
       try simp only [Act.put,nA,nB,nC]
       refine' tQ 30 ⟨some 151, .pick (.tmp 127) (.tmp 150) (.const (.bool false)), 4, "law.go:206", #[⟨6, .data⟩, ⟨29, .data⟩], none⟩ rfl (by kernel_rfl) (Or.inl ⟨by rfl, _⟩) _; rotate_left; · (intro s h; (try dsimp only at h); go_simp; try with_reducible rfl)
       try simp only [Act.put,nA,nB,nC]
       refine wpAnyH_done (by kernel_rfl) ?_ _
       clear hHeld cP
       obtain ⟨wnB, hwn⟩ : ∃ W, wyA.drew = W := ⟨_, rfl⟩
       have HWnB : Hid (WI wnB q N cs labbA ts ws Ts) := by rw [← hwn]; exact HWbA.out.quiet (Below.refl _ _).drew
       have BnB : Hid (Below N w wnB) := by rw [← hwn]; exact BkbA.out.drew
       rw [hwn]
       clear hwn HWbA BkbA
       go_upto_region 18 with fail
       with_reducible refine wp_region_list ?_
       (with_reducible refine wpList_plain rfl ?_); intro K hK; go_simp; (with_reducible refine hK _ _ ?_); clear hK K; try simp only [Act.put,nA,nB,nC]
       with_reducible refine wpList_plain rfl ?_
       intro K hK
       go_simp
       refine (whole_kept wnB q N cs labbA ts ws Ts HWnB.out hT5).mono ?_; rintro e wz ⟨rfl, bz⟩
       first | with_reducible refine hK _ _ ?_ | refine hK _ _ ?_
       clear hK K
       try simp only [Act.put,nA,nB,nC]
       have Bz := Lib.hid (BnB.out.trans bz)
       clear bz
       (with_reducible refine wpList_plain rfl ?_); intro K hK; go_simp; (with_reducible refine hK _ _ ?_); clear hK K; try simp only [Act.put,nA,nB,nC]
       go_wp2_with fail
       go_ret
       exact ⟨rfl, Bz.out⟩
     ·as_aux_lemma =>
       have BkbAz : N ≤ wyA.heap.size := by have := heap_lt HWbA.out.blk; omega
       have cP : wyA.cell? ⟨q, 3, none⟩ = some (.pointer (some ⟨p, 0, none⟩)) := hp.cell 3 _ hp.c0
       obtain ⟨rad, rcap, hrv, _⟩ := hp.row.shape
       subst hrv
       have cL : wyA.cell? ⟨q, 5, none⟩ = some (.slice rad L.length rcap) := hp.cell 5 _ hp.c2
       have hLl := hp.log.len
       have wL := IntWalk.u64_in (L.length : Int) (by omega)
       have HP : Hid (PR wyA.drew q 3 cs N p b lv (.slice rad L.length rcap) wd L) := hp.low (Below.refl _ _).drew
       have HL : Hid (labbA p = 2 ∧ labbA b = 2 ∧ Lab labbA 2 lv ∧ Lab labbA 2 (.slice rad L.length rcap)) := ⟨lp, lb, ll, lr⟩
       clear hp lp lb ll lr
       go_upto_region 16 with fail
       refine wp_region_held_drew (S := fun W => W.cell? ⟨q, 3, none⟩ = some (.pointer (some ⟨p, 0, none⟩)) ∧ W.cell? ⟨q, 5, none⟩ = some (.slice rad L.length rcap)) (by kernel_rfl) ⟨cP, cL⟩ (fun hHeld => ?_)
       refine' tQ 0 ⟨some 121, .move (.tmp 15), 66, "law.go:206", #[], none⟩ rfl (by kernel_rfl) (Or.inl ⟨by rfl, _⟩) _; rotate_left; · (intro s h; (try dsimp only at h); go_simp; try with_reducible rfl)
       try simp only [Act.put,nA,nB,nC]
       refine' tQ 1 ⟨some 122, .nilCheck (.tmp 121), 0, "law.go:206", #[⟨0, .data⟩], none⟩ rfl (by kernel_rfl) (Or.inl ⟨by rfl, _⟩) _; rotate_left; · (intro s h; (try dsimp only at h); go_simp; try with_reducible rfl)
       try simp only [Act.put,nA,nB,nC]
       refine' tQ 2 ⟨some 123, .fieldAddr 71 (.tmp 122) 1, 0, "law.go:206", #[⟨1, .data⟩], none⟩ rfl (by kernel_rfl) (Or.inl ⟨by rfl, _⟩) _; rotate_left; · (intro s h; (try dsimp only at h); go_simp; try with_reducible rfl)
       try simp only [Act.put,nA,nB,nC]
       refine' tQ 3 ⟨some 124, .fieldAddr 68 (.tmp 123) 0, 0, "law.go:206", #[⟨2, .data⟩], none⟩ rfl (by kernel_rfl) (Or.inl ⟨by rfl, _⟩) _; rotate_left; · (intro s h; (try dsimp only at h); go_simp; try with_reducible rfl)
       try simp only [Act.put,nA,nB,nC]
       refine' tQ 4 ⟨some 125, .load 40 (.tmp 124), 40, "law.go:206", #[⟨3, .data⟩], none⟩ rfl (by kernel_rfl) (Or.inl ⟨by rfl, _⟩) _; rotate_left; · (intro s h; (try dsimp only at h); go_simp; try with_reducible rfl)
       try simp only [Act.put,nA,nB,nC]
       refine' tQ 5 ⟨some 126, .binOp .neq 40 (.tmp 125) (.const (.pointer none)) 40, 4, "law.go:206", #[⟨4, .data⟩], none⟩ rfl (by kernel_rfl) (Or.inl ⟨by rfl, _⟩) _; rotate_left; · (intro s h; (try dsimp only at h); go_simp; try with_reducible rfl)
       try simp only [Act.put,nA,nB,nC]
       refine' tQ 6 ⟨some 127, .move (.tmp 126), 4, "law.go:206", #[⟨5, .data⟩], none⟩ rfl (by kernel_rfl) (Or.inl ⟨by rfl, _⟩) _; rotate_left; · (intro s h; (try dsimp only at h); go_simp; try with_reducible rfl)
       try simp only [Act.put,nA,nB,nC]
       refine' tQ 7 ⟨some 128, .move (.tmp 15), 66, "law.go:206", #[⟨6, .guard⟩], some (6, true)⟩ rfl (by kernel_rfl) (Or.inl ⟨by rfl, _⟩) _; rotate_left; · (intro s h; (try dsimp only at h); go_simp; try with_reducible rfl)
       try simp only [Act.put,nA,nB,nC]
       refine' tQ 8 ⟨some 129, .move (.tmp 15), 66, "law.go:206", #[⟨6, .guard⟩], some (6, true)⟩ rfl (by kernel_rfl) (Or.inl ⟨by rfl, _⟩) _; rotate_left; · (intro s h; (try dsimp only at h); go_simp; try with_reducible rfl)
       try simp only [Act.put,nA,nB,nC]
       refine' tQ 9 ⟨some 130, .nilCheck (.tmp 129), 0, "law.go:206", #[⟨8, .data⟩, ⟨6, .guard⟩], some (6, true)⟩ rfl (by kernel_rfl) (Or.inl ⟨by rfl, _⟩) _; rotate_left; · (intro s h; (try dsimp only at h); go_simp; try with_reducible rfl)
       try simp only [Act.put,nA,nB,nC]
       refine' tQ 10 ⟨some 131, .fieldAddr 71 (.tmp 130) 1, 0, "law.go:206", #[⟨9, .data⟩, ⟨6, .guard⟩], some (6, true)⟩ rfl (by kernel_rfl) (Or.inl ⟨by rfl, _⟩) _; rotate_left; · (intro s h; (try dsimp only at h); go_simp; try with_reducible rfl)
       try simp only [Act.put,nA,nB,nC]
       refine' tQ 11 ⟨some 132, .build 74 #[(0, .const (.int .i64 6))], 74, "law.go:206", #[⟨6, .guard⟩], some (6, true)⟩ rfl (by kernel_rfl) (Or.inl ⟨by rfl, _⟩) _; rotate_left; · (intro s h; (try dsimp only at h); go_simp; try with_reducible rfl)
       try simp only [Act.put,nA,nB,nC]
       refine wpAnyH_ready (rs := [12]) (by kernel_rfl) (by simp) ?_
       refine AllReadyH.cons (o := ⟨some 133, .call ⟨.value (.func 37), #[.tmp 128, .tmp 131, .tmp 132], #[66, 72, 74]⟩, 4, "law.go:206", #[⟨7, .data⟩, ⟨10, .data⟩, ⟨11, .data⟩, ⟨6, .chain⟩, ⟨6, .guard⟩], some (6, true)⟩) rfl (fun K hK => ?_) AllReadyH.nil
       (go_simp; (go_at_call 37; refine (step_6 _ q 3 cs N p b lv _ wd L 0 (.slice none 0 0) (.slice none 0 0) 0 0 HP hw1).mono ?_; rintro e wa ⟨rfl, ba⟩; have HPa := Lib.hid (HP.out.low ba)))
       refine hK.out _ _ ?_ (fun hHeld => ?_)
       ·exact ⟨HPa.out.cell 3 _ HPa.out.c0, HPa.out.cell 5 _ HPa.out.c2⟩
       clear hK K
       try simp only [Act.put,nA,nB,nC]
       have ba2 : Below wyA.heap.size wyA wa := Below.trans (Below.refl _ _).drew ba
       have HWa := Lib.hid (HWbA.out.quiet ba2)
       have Bka := Lib.hid (BkbA.out.trans (ba2.mono BkbAz))
       clear ba ba2
       refine' tQ 13 ⟨some 134, .unOp .not 4 (.tmp 133), 4, "law.go:206", #[⟨12, .data⟩, ⟨6, .guard⟩], some (6, true)⟩ rfl (by kernel_rfl) (Or.inl ⟨by rfl, _⟩) _; rotate_left; · (intro s h; (try dsimp only at h); go_simp; try with_reducible rfl)
       try simp only [Act.put,nA,nB,nC]
       refine' tQ 14 ⟨some 135, .move (.tmp 134), 4, "law.go:206", #[⟨13, .data⟩, ⟨12, .chain⟩, ⟨6, .guard⟩], some (6, true)⟩ rfl (by kernel_rfl) (Or.inl ⟨by rfl, _⟩) _; rotate_left; · (intro s h; (try dsimp only at h); go_simp; try with_reducible rfl)
       try simp only [Act.put,nA,nB,nC]
       refine' tQ 15 ⟨some 136, .move (.tmp 15), 66, "law.go:206", #[⟨14, .guard⟩], some (14, false)⟩ rfl (by kernel_rfl) (Or.inl ⟨by rfl, _⟩) _; rotate_left; · (intro s h; (try dsimp only at h); go_simp; try with_reducible rfl)
       try simp only [Act.put,nA,nB,nC]
       refine' tQ 16 ⟨some 137, .move (.tmp 15), 66, "law.go:206", #[⟨14, .guard⟩], some (14, false)⟩ rfl (by kernel_rfl) (Or.inl ⟨by rfl, _⟩) _; rotate_left; · (intro s h; (try dsimp only at h); go_simp; try with_reducible rfl)
       try simp only [Act.put,nA,nB,nC]
       refine' tQ 17 ⟨some 138, .nilCheck (.tmp 137), 0, "law.go:206", #[⟨16, .data⟩, ⟨14, .guard⟩], some (14, false)⟩ rfl (by kernel_rfl) (Or.inl ⟨by rfl, _⟩) _; rotate_left; · (intro s h; (try dsimp only at h); go_simp; try with_reducible rfl)
       try simp only [Act.put,nA,nB,nC]
       refine' tQ 18 ⟨some 139, .fieldAddr 71 (.tmp 138) 1, 0, "law.go:206", #[⟨17, .data⟩, ⟨14, .guard⟩], some (14, false)⟩ rfl (by kernel_rfl) (Or.inl ⟨by rfl, _⟩) _; rotate_left; · (intro s h; (try dsimp only at h); go_simp; try with_reducible rfl)
       try simp only [Act.put,nA,nB,nC]
       refine' tQ 19 ⟨some 140, .move (.tmp 15), 66, "law.go:206", #[⟨14, .guard⟩], some (14, false)⟩ rfl (by kernel_rfl) (Or.inl ⟨by rfl, _⟩) _; rotate_left; · (intro s h; (try dsimp only at h); go_simp; try with_reducible rfl)
       try simp only [Act.put,nA,nB,nC]
       refine' tQ 20 ⟨some 141, .nilCheck (.tmp 140), 0, "law.go:206", #[⟨19, .data⟩, ⟨14, .guard⟩], some (14, false)⟩ rfl (by kernel_rfl) (Or.inl ⟨by rfl, _⟩) _; rotate_left; · (intro s h; (try dsimp only at h); go_simp; try with_reducible rfl)
       try simp only [Act.put,nA,nB,nC]
       refine' tQ 21 ⟨some 142, .fieldAddr 71 (.tmp 141) 1, 0, "law.go:206", #[⟨20, .data⟩, ⟨14, .guard⟩], some (14, false)⟩ rfl (by kernel_rfl) (Or.inl ⟨by rfl, _⟩) _; rotate_left; · (intro s h; (try dsimp only at h); go_simp; try with_reducible rfl)
       try simp only [Act.put,nA,nB,nC]
       refine' tQ 22 ⟨some 143, .fieldAddr 68 (.tmp 142) 2, 0, "law.go:206", #[⟨21, .data⟩, ⟨14, .guard⟩], some (14, false)⟩ rfl (by kernel_rfl) (Or.inl ⟨by rfl, _⟩) _; rotate_left; · (intro s h; (try dsimp only at h); go_simp; try with_reducible rfl)
       try simp only [Act.put,nA,nB,nC]
       refine' tQ 23 ⟨some 144, .load 32 (.tmp 143), 32, "law.go:206", #[⟨22, .data⟩, ⟨14, .guard⟩], some (14, false)⟩ rfl (by kernel_rfl) (Or.inl ⟨by rfl, _⟩) _; rotate_left; · (intro s h; (try dsimp only at h); go_simp; try with_reducible rfl)
       try simp only [Act.put,nA,nB,nC]
       refine' tQ 24 ⟨some 145, .call ⟨.builtin .len, #[.tmp 144], #[32]⟩, 3, "law.go:206", #[⟨23, .data⟩, ⟨14, .guard⟩], some (14, false)⟩ rfl (by kernel_rfl) (Or.inl ⟨by rfl, _⟩) _; rotate_left; · (intro s h; (try dsimp only at h); go_simp; try with_reducible rfl)
       try simp only [Act.put,nA,nB,nC]
       refine' tQ 25 ⟨some 146, .convert 3 29 (.tmp 145), 29, "law.go:206", #[⟨24, .data⟩, ⟨14, .guard⟩], some (14, false)⟩ rfl (by kernel_rfl) (Or.inl ⟨by rfl, _⟩) _; rotate_left; · (intro s h; (try dsimp only at h); go_simp; try with_reducible rfl)
       try simp only [Act.put,nA,nB,nC]
       refine' tQ 26 ⟨some 147, .build 74 #[(0, .const (.int .i64 3)), (5, .tmp 146)], 74, "law.go:206", #[⟨25, .data⟩, ⟨14, .guard⟩], some (14, false)⟩ rfl (by kernel_rfl) (Or.inl ⟨by rfl, _⟩) _; rotate_left; · (intro s h; (try dsimp only at h); go_simp; try with_reducible rfl)
       try simp only [Act.put,nA,nB,nC]
       refine wpAnyH_ready (rs := [27]) (by kernel_rfl) (by simp) ?_
       refine AllReadyH.cons (o := ⟨some 148, .call ⟨.value (.func 37), #[.tmp 136, .tmp 139, .tmp 147], #[66, 72, 74]⟩, 4, "law.go:206", #[⟨15, .data⟩, ⟨18, .data⟩, ⟨26, .data⟩, ⟨14, .chain⟩, ⟨14, .guard⟩], some (14, false)⟩) rfl (fun K hK => ?_) AllReadyH.nil
       (go_simp; (go_at_call 37; refine (step_3_yes _ q 3 cs N p b lv _ wd L 0 (.slice none 0 0) (.slice none 0 0) 0 L.length HPa hw1 hw2 (Nat.le_refl _) (by omega)).mono ?_; rintro e wb ⟨rfl, hpb, mb⟩))
       refine hK.out _ _ ?_ (fun hHeld => ?_)
       ·exact ⟨hpb.cell 3 _ hpb.c0, hpb.cell 5 _ hpb.c2⟩
       clear hK K
       try simp only [Act.put,nA,nB,nC]
       have hcs : cs.set (3 + 2) (.slice rad L.length rcap) = cs := set_same _ _ _ hpb.c2
       have hpb2 := hpb
       rw [← hcs] at hpb2
       obtain ⟨labbB, hwb⟩ := HWa.out.turn (off := 3) (t := 2) (by omega) HPa.out hw1 hw2 HL.out.1 HL.out.2.1 HL.out.2.2.1 HL.out.2.2.2 hpb2 mb (fun k hk => .inr (.inr (.inl hk))) (fun k hk => .inl hk) (fun k hk => .inl hk)
       rw [hcs] at hwb
       have HWbB := Lib.hid hwb
       have BkbB := Lib.hid (Bka.out.trans (mb.below (n := N) (fun k hk e => by have := HPa.out.log.hb; omega) (by have := heap_lt HWa.out.blk; omega)))
       clear hpb hpb2 mb hwb hcs HWa Bka HPa HP HL
       refine' tQ 28 ⟨some 149, .unOp .not 4 (.tmp 148), 4, "law.go:206", #[⟨27, .data⟩, ⟨14, .guard⟩], some (14, false)⟩ rfl (by kernel_rfl) (Or.inl ⟨by rfl, _⟩) _; rotate_left; · (intro s h; (try dsimp only at h); go_simp; try with_reducible rfl)
       try simp only [Act.put,nA,nB,nC]
       refine' tQ 29 ⟨some 150, .pick (.tmp 135) (.const (.bool true)) (.tmp 149), 4, "law.go:206", #[⟨14, .data⟩, ⟨28, .data⟩, ⟨6, .guard⟩], some (6, true)⟩ rfl (by kernel_rfl) (Or.inl ⟨by rfl, _⟩) _; rotate_left; · (intro s h; (try dsimp only at h); go_simp; try with_reducible rfl)
       try simp only [Act.put,nA,nB,nC]
       refine' tQ 30 ⟨some 151, .pick (.tmp 127) (.tmp 150) (.const (.bool false)), 4, "law.go:206", #[⟨6, .data⟩, ⟨29, .data⟩], none⟩ rfl (by kernel_rfl) (Or.inl ⟨by rfl, _⟩) _; rotate_left; · (intro s h; (try dsimp only at h); go_simp; try with_reducible rfl)
       try simp only [Act.put,nA,nB,nC]
       refine wpAnyH_done (by kernel_rfl) ?_ _
       clear hHeld cP cL wL
       obtain ⟨wyB, hwy⟩ : ∃ W, wb = W := ⟨_, rfl⟩
       rw [hwy] at HWbB BkbB ⊢
       clear hwy HWbA BkbA
       go_upto_region 18 with fail
       with_reducible refine wp_region_list ?_
       (with_reducible refine wpList_plain rfl ?_); intro K hK; go_simp; (with_reducible refine hK _ _ ?_); clear hK K; try simp only [Act.put,nA,nB,nC]
       with_reducible refine wpList_plain rfl ?_
       intro K hK
       go_simp
       refine (whole_kept wyB q N cs labbB ts ws Ts HWbB.out hT5).mono ?_; rintro e wz ⟨rfl, bz⟩
       first | with_reducible refine hK _ _ ?_ | refine hK _ _ ?_
       clear hK K
       try simp only [Act.put,nA,nB,nC]
       have Bz := Lib.hid (BkbB.out.trans bz)
       clear bz
       (with_reducible refine wpList_plain rfl ?_); intro K hK; go_simp; (with_reducible refine hK _ _ ?_); clear hK K; try simp only [Act.put,nA,nB,nC]
       go_wp2_with fail
       go_ret
       exact ⟨rfl, Bz.out⟩
end Go.Proofs.Ytihbhpggpnmifaa
namespace Go.Proofs.Ytihbhpggpnmifaa
open Go.Deep Go.ChangeShapes Go.WideShapes Go.ChangeAt Go.RowKit Go.Joins Hw
section
variable {H : Type} {enc : TypeId × Value → H} {W : World} {base : Nat} {sp : Nat → Bool} {b1 : Nat} {held : Bool}
theorem cells_Two : Try.prog.cellsOf 62 = 2 := by kernel_rfl
theorem cells_I : Try.prog.cellsOf 3 = 1 := by kernel_rfl
theorem cells_St : Try.prog.cellsOf 74 = 6 := by kernel_rfl
theorem cells_Ss : Try.prog.cellsOf 37 = 1 := by kernel_rfl
theorem cells_Ds : Try.prog.cellsOf 32 = 1 := by kernel_rfl
theorem cells_U : Try.prog.cellsOf 29 = 1 := by kernel_rfl
theorem bytes_St : Try.prog.bytesOf 74 = 80 := by kernel_rfl
set_option maxRecDepth 100000 in
theorem view_two {v : Value} {d : DataW H} {p : List MemPlace} (hv : Value.okWide Try.prog W .any b1 62 v) (h : DataW.Trod enc Try.prog W base sp held 62 v d p) : IsTwo v := by
 obtain ⟨cs, rfl, hsz⟩ := okWide_row Try.underlying62 hv
 obtain ⟨n, hf⟩ := h
 obtain ⟨xs, m, _, _, hl, hx, hg⟩ := DataW.trod_array Try.underlying62 hf
 rw [cells_Two] at hl
 obtain ⟨cl⟩ := cs
 match cl, hl with
 | [c0, c1], _ =>
  have g0 := hg 0 (by decide)
  have g1 := hg 1 (by decide)
  rw [List.getElem?_eq_getElem (by omega : 0 < xs.length)] at g0
  rw [List.getElem?_eq_getElem (by omega : 1 < xs.length)] at g1
  obtain ⟨x0, e0, _, _⟩ := DataW.trod_int Try.underlying3 g0
  obtain ⟨x1, e1, _, _⟩ := DataW.trod_int Try.underlying3 g1
  rw [cells_I] at e0 e1
  refine ⟨x0, x1, ?_⟩
  have f0 : c0 = .int .i64 x0 := by simpa [Value.cells] using e0
  have f1 : c1 = .int .i64 x1 := by simpa [Value.cells] using e1
  rw [f0, f1]
theorem weightsAll_get {n : Nat} (e : TypeId) : ∀ (i : Nat) (ds : List (DataW H)) (d : DataW H), (DataW.weightsAll Try.prog e ds).all (· ≤ n) = true → ds[i]? = some d → (d.weights Try.prog e).all (· ≤ n) = true
 | 0, d' :: ds, d, h, hd => by
  simp only [List.getElem?_cons_zero, Option.some.injEq] at hd
  subst hd
  rw [DataW.weightsAll, List.all_append, Bool.and_eq_true] at h
  exact h.1
 | i + 1, d' :: ds, d, h, hd => by
  rw [DataW.weightsAll, List.all_append, Bool.and_eq_true] at h
  exact weightsAll_get e i ds d h.2 (by simpa using hd)
 | _, [], _, _, hd => by simp at hd
set_option maxRecDepth 100000 in
theorem strs_sized {ss : List ByteArray} {y : DataW H} (hz : (y.weights Try.prog 37).all (· ≤ reachBytes) = true) (hc : (ss = [] ∧ y = .nil) ∨ ∃ spare, y = .slice (ss.map (strD H)) spare) : ss.length * 16 ≤ 140737488355240 ∧ ∀ s ∈ ss, s.size ≤ 140737488351232 := by
 rcases hc with ⟨rfl, _⟩ | ⟨spare, hd⟩
 ·exact ⟨by simp, fun s h => by simp at h⟩
 ·subst hd
  rw [DataW.weights, Try.underlying37] at hz
  simp only [List.all_cons, List.all_append, Bool.and_eq_true, decide_eq_true_eq, List.length_map, bytes_string] at hz
  have h1 := hz.1
  have h2 : reachBytes = 140737488351232 := rfl
  exact ⟨by omega, weights_strs ss hz.2.1⟩
set_option maxRecDepth 100000 in
theorem dgs_sized {l : List Dg} {y : DataW H} (hz : (y.weights Try.prog 32).all (· ≤ reachBytes) = true) (hc : (l = [] ∧ y = .nil) ∨ ∃ ds spare, y = .slice ds spare ∧ ds.length = l.length) : l.length * 32 ≤ 140737488351232 := by
 rcases hc with ⟨rfl, _⟩ | ⟨ds, spare, hd, hlen⟩
 ·simp
 ·subst hd
  rw [DataW.weights, Try.underlying32] at hz
  simp only [List.all_cons, Bool.and_eq_true, decide_eq_true_eq, bytes_Dg] at hz
  have h1 := hz.1
  have h2 : reachBytes = 140737488351232 := rfl
  omega
set_option maxRecDepth 100000 in
theorem trod_step {n : Nat} {cs : List Value} {y : DataW H × List MemPlace} (hz : (y.1.weights Try.prog 74).all (· ≤ reachBytes) = true) (h : DataW.trod enc Try.prog W base sp held n 74 cs = some y) :
  ∃ (d who : Int) (texts digs : Value) (n s : Nat) (ss : List ByteArray) (ds : List Dg), cs = stepC d who texts digs n s ∧ StepIn W W.heap.size texts digs ss ds n s := by
 obtain ⟨xs, m, _, rfl, hl, hlen, hf⟩ := DataW.trod_struct Try.underlying74 h
 rw [cells_St] at hl
 match cs, hl with
 | [c0, c1, c2, c3, c4, c5], _ =>
  match xs, hlen with
  | [y0, y1, y2, y3, y4, y5], _ =>
   have g0 := hf 0 _ rfl
   have g1 := hf 1 _ rfl
   have g2 := hf 2 _ rfl
   have g3 := hf 3 _ rfl
   have g4 := hf 4 _ rfl
   have g5 := hf 5 _ rfl
   simp [cells_I, cells_Ss, cells_Ds, cells_U] at g0 g1 g2 g3 g4 g5
   obtain ⟨x0, e0, _, _⟩ := DataW.trod_int Try.underlying3 g0
   obtain ⟨x1, e1, _, _⟩ := DataW.trod_int Try.underlying3 g1
   obtain ⟨ss, hss, _, hsc⟩ := trod_strs g2
   obtain ⟨ds, hds, hdn, hdc⟩ := trod_dgs g3
   obtain ⟨x4, e4, _, w4⟩ := DataW.trod_int Try.underlying29 g4
   obtain ⟨x5, e5, _, w5⟩ := DataW.trod_int Try.underlying29 g5
   have q4 := wf_u64_bd w4
   have q5 := wf_u64_bd w5
   simp only [List.cons.injEq, and_true] at e0 e1 e4 e5
   rw [DataW.weights, Try.underlying74] at hz
   have z2 := weights_get 2 _ _ _ _ hz rfl rfl
   have z3 := weights_get 3 _ _ _ _ hz rfl rfl
   obtain ⟨s1, s2⟩ := strs_sized z2 hsc
   have s3 := dgs_sized z3 hdc
   refine ⟨x0, x1, c2, c3, x4.toNat, x5.toNat, ss, ds, ?_, ⟨hss, fun hp => hss.lt hp, s2, s1, hds, hdn, s3, by omega, by omega⟩⟩
   unfold stepC
   rw [e0, e1, e4, e5, Int.toNat_of_nonneg q4.1, Int.toNat_of_nonneg q5.1]
set_option maxRecDepth 100000 in
theorem view_steps_sz {v : Value} {d : DataW H} {p : List MemPlace} (hz : (d.weights Try.prog 63).all (· ≤ reachBytes) = true) (hv : Value.okWide Try.prog W .any b1 63 v) (h : DataW.Trod enc Try.prog W base sp held 63 v d p) : IsSteps W v := by
 obtain ⟨a0, len0, cap0, rfl⟩ := okWide_slice Try.underlying63 hv
 obtain ⟨n, h⟩ := h
 rcases open_slice Try.underlying63 h with ⟨hc, hy⟩ | ⟨a, len, cap, m, k, D, Pl, hc, _, hlc, hcm, hm, hy, hx⟩
 ·have hc1 := (List.cons.inj hc).1
  cases hc1
  exact ⟨0, none, 0, rfl, by simp, fun h => by omega⟩
 ·have hc1 := (List.cons.inj hc).1
  cases hc1
  have hlm : len0 ≤ m := by rw [hm]; split <;> omega
  have hd : d = .slice ((List.range len0).map D) ((List.range (m - len0)).map fun j => D (len0 + j)) := congrArg Prod.fst hy
  subst hd
  rw [DataW.weights, Try.underlying63] at hz
  simp only [List.all_cons, List.all_append, Bool.and_eq_true, decide_eq_true_eq, List.length_map, List.length_range, bytes_St] at hz
  have h2 : reachBytes = 140737488351232 := rfl
  have hw := hz.2.1
  have hzl := hz.1
  have each : ∀ i, i < len0 → ∃ x : Int × Int × Value × Value × Nat × Nat × List ByteArray × List Dg, (∀ j, j < 6 → W.cell? ((a.add (i * 6)).add j) = (stepC x.1 x.2.1 x.2.2.1 x.2.2.2.1 x.2.2.2.2.1 x.2.2.2.2.2.1)[j]?) ∧ StepIn W W.heap.size x.2.2.1 x.2.2.2.1 x.2.2.2.2.2.2.1 x.2.2.2.2.2.2.2 x.2.2.2.2.1 x.2.2.2.2.2.1 := by
   intro i hi
   obtain ⟨cs', h1, h3⟩ := hx i (by omega)
   rw [cells_St] at h1
   obtain ⟨_, hlen, hcell⟩ := World.cells?_some h1
   have hwi := weightsAll_get 74 i _ (D i) hw (by rw [List.getElem?_map, List.getElem?_range hi]; rfl)
   obtain ⟨d, who, texts, digs, n, s, ss, ds, e, hs⟩ := trod_step (y := (D i, Pl i)) hwi h3
   exact ⟨(d, who, texts, digs, n, s, ss, ds), fun j hj => by rw [← e]; exact hcell j hj, hs⟩
  haveI : Inhabited (Int × Int × Value × Value × Nat × Nat × List ByteArray × List Dg) := ⟨(0, 0, .slice none 0 0, .slice none 0 0, 0, 0, [], [])⟩
  obtain ⟨f, hf⟩ := choose_lt each
  refine ⟨len0, some a, cap0, rfl, by omega, fun hl => ?_⟩
  have cell0 : ∃ v, W.cell? (a.add (0 * 6)) = some v := by
   have h1 := (hf 0 hl).1 0 (by decide)
   have e : (a.add (0 * 6)).add 0 = a.add (0 * 6) := by simp [Addr.add]
   rw [e] at h1
   exact ⟨_, h1⟩
  obtain ⟨v0, h0⟩ := cell0
  have h0' := World.cell?_spot h0
  have ha : a = ⟨a.block, a.off, none⟩ := by
   cases a with
   | mk b o s => simp [Addr.add] at h0'; simp [h0']
  have hblk : a.block < W.heap.size := by
   have := World.block_lt_of_cell? _ _ h0
   simpa [Addr.add] using this
  refine ⟨a.block, a.off, by rw [← ha], hblk, fun i hi => ?_⟩
  obtain ⟨h1, h3⟩ := hf i hi
  refine ⟨(f i).1, (f i).2.1, (f i).2.2.1, (f i).2.2.2.1, (f i).2.2.2.2.1, (f i).2.2.2.2.2.1, (f i).2.2.2.2.2.2.1, (f i).2.2.2.2.2.2.2, fun j v hv => ?_, h3⟩
  have hj : j < 6 := by
   rcases Nat.lt_or_ge j 6 with h | h
   ·exact h
   ·rw [List.getElem?_eq_none (by simp [stepC]; omega)] at hv; cases hv
  have h4 := h1 j hj
  rw [hv] at h4
  rw [← h4]
  congr 1
  have hadd : a.add (i * 6) = ⟨a.block, a.off + i * 6, none⟩ := add_plain a (by rw [ha]) (i * 6)
  rw [hadd, add_plain _ rfl j]
end
end Go.Proofs.Ytihbhpggpnmifaa
