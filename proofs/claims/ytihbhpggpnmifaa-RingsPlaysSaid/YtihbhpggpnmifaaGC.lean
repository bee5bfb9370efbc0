/-
 SHA-256: the walks of New, dead, Len, Write.
-/
import Derived.Test.YtihbhpggpnmifaaGB
import Derived.Test.YtihbhpggpnmifaaGA
set_option linter.unusedSimpArgs false
set_option linter.unusedVariables false
namespace Go.Proofs.Ytihbhpggpnmifaa
open Go.RowKit Go.Lib Hw
structure Mod (S : Nat → Prop) (w w' : World) : Prop where
 os : w'.os = w.os
 tape : w'.tape = w.tape
 output : w'.output = w.output
 size : w.heap.size ≤ w'.heap.size
 block : ∀ k, k < w.heap.size → ¬ S k → w'.heap[k]? = w.heap[k]?
theorem Mod.refl (S : Nat → Prop) (w : World) : Mod S w w := ⟨rfl, rfl, rfl, Nat.le_refl _, fun _ _ _ => rfl⟩
theorem Mod.trans {S T : Nat → Prop} {a b c : World} (h : Mod S a b) (k : Mod T b c) (hT : ∀ i, i < a.heap.size → T i → S i) : Mod S a c :=
 ⟨k.os.trans h.os, k.tape.trans h.tape, k.output.trans h.output, Nat.le_trans h.size k.size, fun i hi hn => (k.block i (Nat.lt_of_lt_of_le hi h.size) (fun ht => hn (hT i hi ht))).trans (h.block i hi hn)⟩
theorem Mod.then {S : Nat → Prop} {a b c : World} (h : Mod S a b) (k : Mod S b c) : Mod S a c := h.trans k (fun _ _ h => h)
theorem Mod.mono {S T : Nat → Prop} {a b : World} (h : Mod S a b) (hT : ∀ i, i < a.heap.size → S i → T i) : Mod T a b :=
 ⟨h.os, h.tape, h.output, h.size, fun i hi hn => h.block i hi (fun hs => hn (hT i hi hs))⟩
theorem Mod.of (S : Nat → Prop) {w w' : World} (h : Below w.heap.size w w') : Mod S w w' := ⟨h.os, h.tape, h.output, h.size, fun k hk _ => h.block k hk⟩
theorem Mod.below {S : Nat → Prop} {n : Nat} {w w' : World} (h : Mod S w w') (hn : ∀ k, k < n → ¬ S k) (hz : n ≤ w.heap.size) : Below n w w' :=
 ⟨h.os, h.tape, h.output, h.size, fun k hk => h.block k (by omega) (hn k hk)⟩
theorem Mod.grown {S : Nat → Prop} {w w' : World} {row : Option Nat} (h : w.grownBy w' row) (hS : ∀ k, row = some k → S k) : Mod S w w' :=
 ⟨h.os, h.tape, h.output, h.size, fun k hk hn => h.block k hk (fun e => hn (hS k e.symm))⟩
theorem Mod.kept {S : Nat → Prop} {B : Nat} {w w' : World} (h : Kept B w w') (hS : S B) : Mod S w w' :=
 ⟨h.os, h.tape, h.output, h.size, fun k hk hn => h.block k hk (fun e => hn (e ▸ hS))⟩
theorem Mod.set {S : Nat → Prop} {p o : Nat} (w : World) (hp : S p) (v : Value) : Mod S w (w.setCell ⟨p, o, none⟩ v) := Mod.kept (Kept.set w o v) hp
theorem Mod.drew {S : Nat → Prop} {a b : World} (h : Mod S a b) : Mod S a b.drew := ⟨h.os, h.tape, h.output, h.size, h.block⟩
theorem Mod.heap {S : Nat → Prop} {w w' : World} {b : Nat} {o : Obj} (h : Mod S w w') (hb : w.heap[b]? = some o) (hn : ¬ S b) : w'.heap[b]? = some o := (h.block b (heap_lt hb) hn).trans hb
theorem OwnB.mod {w w' : World} {S : Nat → Prop} {B : Nat} {v : Value} {bs : List UInt8} (h : OwnB w B v bs) (m : Mod S w w') (hd : ∀ k, v.ownBlock = some k → ¬ S k) : OwnB w' B v bs := by
 refine ⟨h.1, ?_⟩
 rcases h.2 with hn | ⟨g, cap, cur, rfl, hb, hg, r⟩
 ·exact .inl hn
 ·exact .inr ⟨g, cap, cur, rfl, hb, m.heap hg (hd g rfl), r⟩
theorem OwnB.empty {w : World} {B g n cap : Nat} {bs : List UInt8} (h : OwnB w B (.slice (some ⟨g, 0, none⟩) n cap) bs) : OwnB w B (.slice (some ⟨g, 0, none⟩) 0 cap) [] := by
 refine ⟨rfl, ?_⟩
 rcases h.2 with ⟨hn, _⟩ | ⟨g', cap', cur, e, hb, hg, hn, hc, hs, ht⟩
 ·cases hn
 ·cases e
  exact .inr ⟨g, cap, cur, rfl, hb, hg, by simp, hc, hs, by simp⟩
theorem OwnB.range {w : World} {B g n cap : Nat} {bs : List UInt8} (h : OwnB w B (.slice (some ⟨g, 0, none⟩) n cap) bs) : w.rangeAt g 0 (bs.map bv) := by
 intro j v hv
 have h1 := World.ownsRow.cells (w := w) h (g := g) rfl j v hv
 have hadd : (⟨g, 0, none⟩ : Addr).add j = ⟨g, j, none⟩ := by unfold Addr.add; split <;> simp_all
 rw [hadd] at h1
 rw [Nat.zero_add]
 exact h1
theorem step_of {P : Program} {ops : Array Oper} {o : Oper} {a : Act} {w : World} {K : Act → World → Prop} {Q : Exit → Act → World → Prop} {E : Prop} (hgd : o.guard = none) (h : o.wp P a w K Q) : if Region.wanted o (yielded ops a.tmps) = true then o.wp P a w K Q else E := by
 have hw : Region.wanted o (yielded ops a.tmps) = true := by simp [Region.wanted, hgd]
 rw [if_pos hw]; exact h
theorem info_64 : (Try.prog.info? 144).map (·.size) = some 64 := by kernel_rfl
theorem wp_load64 {o : Oper} {a : Act} {w : World} {K : Act → World → Prop} {Q : Exit → Act → World → Prop} (x : Operand) (ho : o.op = .load 144 x) (g off : Nat) (hx : a.eval x = .pointer (some ⟨g, off, none⟩)) (bs : List UInt8) (hl : bs.length = 64) (hr : w.rangeAt g off (bs.map bv))
  (h : K (a.put o.dst (.agg (bs.map bv).toArray)) w) : o.wp Try.prog a w K Q :=
 wp_load_mid 144 x ho g off hx (bs.map bv) _ hr Try.underlying144 rfl (info_64.trans (congrArg some ((List.length_map _).trans hl).symm)) h
theorem arr64 (a : Addr) (cap : Nat) (w : World) : Sem.run Try.prog (Instr.arrayAt 144 (.slice (some a) 64 cap)) w = .ok (.pointer (some a)) w := by kernel_rfl
def strLen : Value → Nat
 | .string x => x.size
 | _ => 0
def hashCells (st : S8) (rv : Value) (n : Int) : Array Value := #[.bool true, wv st.a, wv st.b, wv st.c, wv st.d, wv st.e, wv st.f, wv st.g, wv st.h, rv, .int .i64 n]
theorem hash_rest {w : World} {p : Nat} {st : S8} {rv : Value} {n : Int} {t : TypeId} (h : w.heap[p]? = some (.cells (hashCells st rv n) t (0, 0))) (v : Value) : (w.setCell ⟨p, 9, none⟩ v).heap[p]? = some (.cells (hashCells st v n) t (0, 0)) := heap_set (o := 9) h v
theorem hash_words (st : S8) (rv : Value) (n : Int) : ∀ j (h : j < 8), (hashCells st rv n)[1 + j]? = some (wv (st.list[j]'h)) := by
 intro j h
 match j, h with
 | 0, _ => rfl
 | 1, _ => rfl
 | 2, _ => rfl
 | 3, _ => rfl
 | 4, _ => rfl
 | 5, _ => rfl
 | 6, _ => rfl
 | 7, _ => rfl
theorem lay8_hash (st st' : S8) (rv : Value) (n : Int) : lay8 (hashCells st rv n) 1 st' 8 = hashCells st' rv n := by simp [lay8, setL, S8.list, hashCells]
structure HashB (w : World) (B p : Nat) (rv : Value) (l : List UInt8) (n : Int) : Prop where
 cells : w.heap[p]? = some (.cells (hashCells (stOf l) rv n) 142 (0, 0))
 rest : OwnB w B rv (restOf l)
 ne : rv.ownBlock ≠ some p
theorem dead_any (B p : Nat) (rv : Value) (l : List UInt8) (n : Int) (w : World) (h : HashB w B p rv l n) : Calls Try.prog 92 #[.pointer (some ⟨p, 0, none⟩)] w fun e w' => e = .returned (.bool false) ∧ w = w' := by
 have hc : w.cell? ⟨p, 0, none⟩ = some (.bool true) := by rw [heap_cell h.cells]; rfl
 go_enter Try.func92, Try.ntmps92
 go_wp2
 go_ret
 exact ⟨rfl, rfl⟩
theorem New_any (w : World) : Calls Try.prog 86 #[] w fun e w' => ∃ p, e = .returned (.pointer (some ⟨p, 0, none⟩)) ∧ w.heap.size ≤ p ∧ p < w'.heap.size ∧ HashB w' w.heap.size p (.slice none 0 0) [] 0 ∧ Below w.heap.size w w' := by
 go_enter Try.func86, Try.ntmps86
 go_wp2_with fail
 refine (begin_any _).mono ?_
 rintro e w1 ⟨rfl, hb1⟩
 have hz := hb1.size
 go_wp2_with fail
 go_ret
 refine ⟨w1.heap.size, rfl, hz, by simp, ⟨heap_new _ _, OwnB.nil _ _, by simp [Value.ownBlock]⟩, hb1.alloc hz _⟩
def flat (ss : List ByteArray) : List UInt8 := ss.flatMap (fun s => s.data.toList)
theorem flat_take_succ (ss : List ByteArray) (k : Nat) (h : k < ss.length) : flat (ss.take (k + 1)) = flat (ss.take k) ++ (ss[k]).data.toList := by
 unfold flat
 rw [List.take_succ_eq_append_getElem h, List.flatMap_append]
 simp
theorem flat_length_le (ss : List ByteArray) (k : Nat) : (flat (ss.take k)).length ≤ (flat ss).length := by
 unfold flat
 conv => rhs; rw [← List.take_append_drop k ss]
 rw [List.flatMap_append, List.length_append]
 omega
theorem data_len (s : ByteArray) : s.data.toList.length = s.size := by rw [Array.length_toList]; rfl
theorem StrRow.mod {w w' : World} {S : Nat → Prop} {v : Value} {ss : List ByteArray} (h : StrRow w v ss) (hm : Mod S w w') (hd : ∀ k, v.ownBlock = some k → ¬ S k) : StrRow w' v ss := by
 obtain ⟨ad, c, rfl, hnn, hc⟩ := h
 refine ⟨ad, c, rfl, hnn, fun h0 => ?_⟩
 obtain ⟨b, o, rfl, hb⟩ := hc h0
 refine ⟨b, o, rfl, fun i hi => ?_⟩
 have h1 := hb i hi
 have hlt := World.block_lt_of_cell? _ _ h1
 rw [← h1]
 exact World.cell?_of_block (hm.block _ hlt (hd b rfl))
theorem ext_list (s : ByteArray) (i j : Nat) : (s.extract i j).data.toList = (s.data.toList.drop i).take (j - i) := by
 rw [ByteArray.data_extract, Array.toList_extract, List.extract_eq_take_drop]
theorem cut_step (s x y : ByteArray) (j q : Nat) (hj : j ≤ s.size) (hx : x = s.extract j s.size) (hq : q ≤ x.size) (hy : y = x.extract 0 q) :
  x.extract q x.size = s.extract (j + q) s.size ∧ (x.extract q x.size).size = s.size - (j + q) ∧ s.data.toList.take (j + q) = s.data.toList.take j ++ y.data.toList ∧ y.size = q ∧ j + q ≤ s.size := by
 have h1 : x.size = s.size - j := by rw [hx, ByteArray.size_extract]; omega
 refine ⟨?_, by rw [ByteArray.size_extract]; omega, ?_, by rw [hy, ByteArray.size_extract]; omega, by omega⟩
 ·have h2 : x.size = s.size - j := h1
  rw [h2, hx, ByteArray.extract_extract]
  congr 1
  omega
 ·rw [List.take_add, hy, hx, ByteArray.extract_extract, ext_list]
  congr 2
  omega
def WritePost (w : World) (B p : Nat) (rv : Value) (l : List UInt8) (e : Ending) (w' : World) : Prop :=
 ∃ rv', e = .returned (.tuple #[]) ∧ HashB w' B p rv' l l.length ∧ (rv'.ownBlock = rv.ownBlock ∨ ∀ k, rv'.ownBlock = some k → w.heap.size ≤ k) ∧ Mod (fun k => k = p ∨ rv.ownBlock = some k) w w'
set_option maxHeartbeats 2000000 in
theorem Write_any (B p : Nat) (rv : Value) (l : List UInt8) (v : Value) (ss : List ByteArray) (w : World) (hw : Hid (HashB w B p rv l l.length)) (hv : Hid (StrRow w v ss)) (hd : Hid (∀ k, v.ownBlock = some k → ¬ (k = p ∨ rv.ownBlock = some k)))
  (hB : B ≤ w.heap.size) (hn : ss.length ≤ 9223372036854775807) (hs : l.length + (flat ss).length ≤ 9223372036854775807) :
  Calls Try.prog 87 #[.pointer (some ⟨p, 0, none⟩), v] w (WritePost w B p rv (l ++ flat ss)) := by
 obtain ⟨ad, c, rfl, hvs⟩ : ∃ ad c, v = .slice ad ss.length c ∧ (0 < ss.length → ∃ b o, ad = some ⟨b, o, none⟩) := by
  obtain ⟨ad, c, e, _, h⟩ := hv.out
  exact ⟨ad, c, e, fun h0 => by obtain ⟨b, o, e, _⟩ := h h0; exact ⟨b, o, e⟩⟩
 go_enter Try.func87, Try.ntmps87
 go_wp2_with (go_at_call 92; refine (dead_any _ _ _ _ _ _ hw.out).mono ?_; rintro e w1 ⟨rfl, rfl⟩)
 go_loopw [11] (fun i wr => ∃ (k : Nat) (rv1 : Value), k ≤ ss.length ∧ Hid (HashB wr B p rv1 (l ++ flat (ss.take k)) (l ++ flat (ss.take k)).length) ∧ Hid (rv1.ownBlock = rv.ownBlock ∨ ∀ k, rv1.ownBlock = some k → w.heap.size ≤ k) ∧ Hid (Mod (fun k => k = p ∨ rv.ownBlock = some k) w wr) ∧ i = .int .i64 (k : Int)) (fun i _ => ss.length - (intOf i).toNat)
 case atStart => exact ⟨0, rv, by omega, by simpa [flat] using hw, .inl rfl, Mod.refl _ _, rfl⟩
 case round =>
  obtain ⟨k, rv1, hk, HW, HO, HM, rfl⟩ := hrel
  by_cases hlt : k < ss.length
  ·obtain ⟨b, o, rfl⟩ := hvs (by omega)
   have hcell : wr.cell? ⟨b, o + k, none⟩ = some (.string ss[k]) := by
    obtain ⟨ad, c', h1, _, h2⟩ := hv.out.mod HM.out hd.out
    obtain ⟨b', o', h3, h4⟩ := h2 (by omega)
    cases h1
    cases h3
    exact h4 k hlt
   have hfl := flat_length_le ss (k + 1)
   rw [flat_take_succ ss k hlt] at hfl
   have Hft := Lib.hid (flat_take_succ ss k hlt)
   obtain ⟨s, hsk⟩ : ∃ s, ss[k] = s := ⟨_, rfl⟩
   rw [hsk] at hcell hfl Hft
   rw [List.length_append, data_len] at hfl
   clear hsk
   obtain ⟨L, hL⟩ : ∃ L, l ++ flat (ss.take k) = L := ⟨_, rfl⟩
   rw [hL] at HW
   have hLl : L.length = l.length + (flat (ss.take k)).length := by rw [← hL, List.length_append]
   have HL := Lib.hid hL
   clear hL
   have hLs : L.length + s.size ≤ 9223372036854775807 := by omega
   clear hfl hLl
   have c10 : wr.cell? ⟨p, 10, none⟩ = some (.int .i64 (L.length : Int)) := by rw [heap_cell HW.out.cells]; rfl
   have f10 := heap_free HW.out.cells 10
   go_wp2_with fail
   refine wp_name (fun W => HashB W B p rv1 L ((L.length + s.size : Nat) : Int) ∧ Mod (fun k => k = p ∨ rv.ownBlock = some k) w W) ⟨⟨by have := heap_set (o := 10) HW.out.cells (.int .i64 ((L.length : Int) + (s.size : Int))); rw [Int.natCast_add]; exact this, HW.out.rest.setOther (p := p) (by exact HW.out.ne) _, HW.out.ne⟩, HM.out.then (Mod.set _ (.inl rfl) _)⟩ (fun wq hq => ?_)
   have HW1 := Lib.hid hq.1
   have HM1 := Lib.hid hq.2
   clear hq HW HM c10 f10 hcell
   go_loopw [5] (fun t wi => ∃ (j : Nat) (x : ByteArray) (rv2 : Value), j ≤ s.size ∧ x.size = s.size - j ∧ Hid (x = s.extract j s.size) ∧ Hid (HashB wi B p rv2 (L ++ s.data.toList.take j) ((L.length + s.size : Nat) : Int)) ∧ Hid (rv2.ownBlock = rv.ownBlock ∨ ∀ k, rv2.ownBlock = some k → w.heap.size ≤ k) ∧ Hid (Mod (fun k => k = p ∨ rv.ownBlock = some k) w wi) ∧ t = .string x) (fun t _ => strLen t)
   case atStart => exact ⟨0, s, rv1, by omega, by omega, by show _ = _; simp, by simpa using HW1, HO, HM1, rfl⟩
   case round =>
    clear HW1 HM1 HO
    obtain ⟨j, x, rv2, hj, hxs, Hx, HW2, HO2, HM2, rfl⟩ := hrel
    by_cases hpos : 0 < x.size
    ·have Hxs := Lib.hid hxs
     have hxl : x.size ≤ s.size := by omega
     have hr64 := restOf_lt (L ++ s.data.toList.take j)
     obtain ⟨hcs, hown, hne⟩ := HW2.out
     obtain ⟨R, hR⟩ : ∃ R, restOf (L ++ s.data.toList.take j) = R := ⟨_, rfl⟩
     rw [hR] at hown hr64
     have HR := Lib.hid hR
     clear hR HW2 hxs
     obtain ⟨ad, c2, rfl, had1, had2⟩ := own_size hown
     have c9 : wr.cell? ⟨p, 9, none⟩ = some (.slice ad R.length c2) := by rw [heap_cell hcs]; rfl
     have HC := Lib.hid hcs
     have HN := Lib.hid hne
     have HO := Lib.hid hown
     have HD := Lib.hid (And.intro had1 had2)
     have hBw : B ≤ wr.heap.size := Nat.le_trans hB HM2.out.size
     clear hcs hown hne had1 had2
     by_cases hfull : 64 - (R.length : Int) ≤ (x.size : Int)
     ·have hg : ¬ ((x.size : Int) < 64 - (R.length : Int)) := by omega
      have hq1 : 0 ≤ 64 - (R.length : Int) := by omega
      have hq2 : (R.length : Int) ≤ 64 := by omega
      go_upto_region 7 with fail
      refine wp_region_held_drew (S := fun _ => True) (by kernel_rfl) trivial (fun hHeld => ?_)
      refine' tQ 0 ⟨some 36, .move (.tmp 0), 132, "hash.go:81", #[], none⟩ rfl (by kernel_rfl) (Or.inl ⟨by rfl, _⟩) _; rotate_left; · (intro s h; (try dsimp only at h); go_simp; try with_reducible rfl)
      try simp only [Act.put,nA,nB,nC]
      refine' tQ 1 ⟨some 37, .move (.tmp 0), 132, "hash.go:81", #[], none⟩ rfl (by kernel_rfl) (Or.inl ⟨by rfl, _⟩) _; rotate_left; · (intro s h; (try dsimp only at h); go_simp; try with_reducible rfl)
      try simp only [Act.put,nA,nB,nC]
      refine' tQ 2 ⟨some 38, .nilCheck (.tmp 37), 0, "hash.go:81", #[⟨1, .data⟩], none⟩ rfl (by kernel_rfl) (Or.inl ⟨by rfl, _⟩) _; rotate_left; · (intro s h; (try dsimp only at h); go_simp; try with_reducible rfl)
      try simp only [Act.put,nA,nB,nC]
      refine' tQ 3 ⟨some 39, .fieldAddr 142 (.tmp 38) 2, 0, "hash.go:81", #[⟨2, .data⟩], none⟩ rfl (by kernel_rfl) (Or.inl ⟨by rfl, _⟩) _; rotate_left; · (intro s h; (try dsimp only at h); go_simp; try with_reducible rfl)
      try simp only [Act.put,nA,nB,nC]
      refine' tQ 5 ⟨some 41, .move (.tmp 5), 9, "hash.go:81", #[], none⟩ rfl (by kernel_rfl) (Or.inl ⟨by rfl, _⟩) _; rotate_left; · (intro s h; (try dsimp only at h); go_simp; try with_reducible rfl)
      try simp only [Act.put,nA,nB,nC]
      refine' tQ 6 ⟨some 42, .move (.tmp 6), 3, "hash.go:81", #[], none⟩ rfl (by kernel_rfl) (Or.inl ⟨by rfl, _⟩) _; rotate_left; · (intro s h; (try dsimp only at h); go_simp; try with_reducible rfl)
      try simp only [Act.put,nA,nB,nC]
      refine' tQ 7 ⟨some 43, .slice 9 (.tmp 41) none (some (.tmp 42)) none, 9, "hash.go:81", #[⟨5, .data⟩, ⟨6, .data⟩], none⟩ rfl (by kernel_rfl) (Or.inl ⟨by rfl, _⟩) _; rotate_left; · (intro s h; (try dsimp only at h); go_simp; try with_reducible rfl)
      try simp only [Act.put,nA,nB,nC]
      refine wpAnyH_ready (rs := [4]) (by kernel_rfl) (by simp) ?_
      refine AllReadyH.cons (o := ⟨some 40, .load 121 (.tmp 39), 121, "hash.go:81", #[⟨3, .data⟩], none⟩) rfl (fun K hK => ?_) AllReadyH.nil
      go_simp
      refine hK.out _ _ ?_ (fun hHeld => ?_)
      ·trivial
      clear hK K
      try simp only [Act.put,nA,nB,nC]
      obtain ⟨y, hy⟩ : ∃ y, x.extract 0 (64 - R.length) = y := ⟨_, rfl⟩
      have hys : y.size = 64 - R.length := by rw [← hy, ByteArray.size_extract]; omega
      have hyl : R.length + y.size = 64 := by omega
      rw [hy]
      have Hy := Lib.hid hy
      have Hyl := Lib.hid hyl
      clear hy hyl
      refine wpAnyH_ready (rs := [8]) (by kernel_rfl) (by simp) ?_
      refine AllReadyH.cons (o := ⟨some 44, .call ⟨.builtin .append, #[.tmp 40, .tmp 43], #[121, 9]⟩, 121, "hash.go:81", #[⟨4, .data⟩, ⟨7, .data⟩], none⟩) rfl (fun K hK => ?_) AllReadyH.nil
      (refine step_appS _ rfl _ _ rfl B (.slice ad R.length c2) R rfl HO.out.drew y rfl (by omega) (by omega) hBw _ rfl ?_; intro g cap w2 hown2 hg2 hat hlt2)
      refine hK.out _ _ ?_ (fun hHeld => ?_)
      ·trivial
      clear hK K
      try simp only [Act.put,nA,nB,nC]
      rw [Hyl.out] at hown2 ⊢
      have hp2 := heap_grown (w := wr.drew) HC.out hg2 (fun e => HN.out e.symm)
      have c9b : w2.cell? ⟨p, 9, none⟩ = some (.slice ad R.length c2) := by rw [heap_cell hp2]; rfl
      have f9b := heap_free hp2 9
      have Hp2 := Lib.hid hp2
      have Hown2 := Lib.hid hown2
      have Hg2 := Lib.hid hg2
      have Hat := Lib.hid hat
      clear hp2 hown2 hg2 hat
      refine' tQ 9 ⟨some 45, .nilCheck (.tmp 36), 0, "hash.go:81", #[⟨0, .data⟩, ⟨0, .phase⟩, ⟨1, .phase⟩, ⟨2, .phase⟩, ⟨3, .phase⟩, ⟨4, .phase⟩, ⟨5, .phase⟩, ⟨6, .phase⟩, ⟨7, .phase⟩, ⟨8, .phase⟩], none⟩ rfl (by kernel_rfl) (Or.inl ⟨by rfl, _⟩) _; rotate_left; · (intro s h; (try dsimp only at h); go_simp; try with_reducible rfl)
      try simp only [Act.put,nA,nB,nC]
      refine' tQ 10 ⟨some 46, .fieldAddr 142 (.tmp 45) 2, 0, "hash.go:81", #[⟨9, .data⟩, ⟨0, .phase⟩, ⟨1, .phase⟩, ⟨2, .phase⟩, ⟨3, .phase⟩, ⟨4, .phase⟩, ⟨5, .phase⟩, ⟨6, .phase⟩, ⟨7, .phase⟩, ⟨8, .phase⟩], none⟩ rfl (by kernel_rfl) (Or.inl ⟨by rfl, _⟩) _; rotate_left; · (intro s h; (try dsimp only at h); go_simp; try with_reducible rfl)
      try simp only [Act.put,nA,nB,nC]
      refine wpAnyH_ready (rs := [11]) (by kernel_rfl) (by simp) ?_
      refine AllReadyH.cons (o := ⟨none, .store 121 (.tmp 46) (.tmp 44), 0, "hash.go:81", #[⟨10, .data⟩, ⟨8, .data⟩, ⟨8, .chain⟩, ⟨0, .phase⟩, ⟨1, .phase⟩, ⟨2, .phase⟩, ⟨3, .phase⟩, ⟨4, .phase⟩, ⟨5, .phase⟩, ⟨6, .phase⟩, ⟨7, .phase⟩, ⟨8, .phase⟩], none⟩) rfl (fun K hK => ?_) AllReadyH.nil
      go_simp
      refine hK.out _ _ ?_ (fun hHeld => ?_)
      ·trivial
      clear hK K
      try simp only [Act.put,nA,nB,nC]
      refine wpAnyH_done (by kernel_rfl) ?_ _
      go_upto_region 8 with fail
      have hgp : Hid (g ≠ p) := by
       intro e
       rcases Hat.out with h | h
       ·exact HN.out (by rw [h, e])
       ·have := heap_lt HC.out
        rw [e] at h
        exact absurd this (by rw [h]; simp)
      refine wp_name (fun W => W.heap[p]? = some (.cells (hashCells (stOf (L ++ s.data.toList.take j)) (.slice (some ⟨g, 0, none⟩) 64 cap) ((L.length + s.size : Nat) : Int)) 142 (0, 0)) ∧ OwnB W B (.slice (some ⟨g, 0, none⟩) 64 cap) (R ++ y.data.toList) ∧ Mod (fun k => k = p ∨ rv.ownBlock = some k) w W)
       ⟨hash_rest Hp2.out _, Hown2.out.setOther (p := p) (by exact fun e => hgp.out (by injection e)) _, (HM2.out.drew.trans (Mod.grown (S := fun k => Value.ownBlock (.slice ad R.length c2) = some k) Hg2.out (fun k h => h)) ?_).then (Mod.set _ (.inl rfl) _)⟩ (fun wt hq => ?_)
      ·intro i hi h
       rcases HO2.out with h2 | h2
       ·right; rw [← h2]; exact h
       ·have := h2 i h; omega
      have Hp3 := Lib.hid hq.1
      have HO3 := Lib.hid hq.2.1
      have HM3 := Lib.hid hq.2.2
      clear hq c9 c9b f9b
      have c9 : wt.cell? ⟨p, 9, none⟩ = some (.slice (some ⟨g, 0, none⟩) 64 cap) := by rw [heap_cell Hp3.out]; rfl
      have f9 := heap_free Hp3.out 9
      go_upto_region 10 with fail
      have h64 : (R ++ y.data.toList).length = 64 := by rw [List.length_append, data_len]; exact Hyl.out
      have H64' := Lib.hid h64
      clear h64
      obtain ⟨Z, hZ⟩ : ∃ Z, R ++ y.data.toList = Z := ⟨_, rfl⟩
      have H64 : Hid (Z.length = 64) := by rw [← hZ]; exact H64'
      rw [hZ] at HO3
      have HZ := Lib.hid hZ
      clear hZ H64'
      refine wp_region_held_drew (S := fun _ => True) (by kernel_rfl) trivial (fun hHeld => ?_)
      have harr := arr64 ⟨g, 0, none⟩ cap
      refine' tQ 0 ⟨some 56, .move (.tmp 0), 132, "hash.go:84", #[], none⟩ rfl (by kernel_rfl) (Or.inl ⟨by rfl, _⟩) _; rotate_left; · (intro s h; (try dsimp only at h); go_simp; try with_reducible rfl)
      try simp only [Act.put,nA,nB,nC]
      refine' tQ 1 ⟨some 57, .nilCheck (.tmp 56), 0, "hash.go:84", #[⟨0, .data⟩], none⟩ rfl (by kernel_rfl) (Or.inl ⟨by rfl, _⟩) _; rotate_left; · (intro s h; (try dsimp only at h); go_simp; try with_reducible rfl)
      try simp only [Act.put,nA,nB,nC]
      refine' tQ 2 ⟨some 58, .fieldAddr 142 (.tmp 57) 1, 0, "hash.go:84", #[⟨1, .data⟩], none⟩ rfl (by kernel_rfl) (Or.inl ⟨by rfl, _⟩) _; rotate_left; · (intro s h; (try dsimp only at h); go_simp; try with_reducible rfl)
      try simp only [Act.put,nA,nB,nC]
      refine' tQ 3 ⟨some 59, .move (.tmp 0), 132, "hash.go:84", #[], none⟩ rfl (by kernel_rfl) (Or.inl ⟨by rfl, _⟩) _; rotate_left; · (intro s h; (try dsimp only at h); go_simp; try with_reducible rfl)
      try simp only [Act.put,nA,nB,nC]
      refine' tQ 4 ⟨some 60, .nilCheck (.tmp 59), 0, "hash.go:84", #[⟨3, .data⟩], none⟩ rfl (by kernel_rfl) (Or.inl ⟨by rfl, _⟩) _; rotate_left; · (intro s h; (try dsimp only at h); go_simp; try with_reducible rfl)
      try simp only [Act.put,nA,nB,nC]
      refine' tQ 5 ⟨some 61, .fieldAddr 142 (.tmp 60) 2, 0, "hash.go:84", #[⟨4, .data⟩], none⟩ rfl (by kernel_rfl) (Or.inl ⟨by rfl, _⟩) _; rotate_left; · (intro s h; (try dsimp only at h); go_simp; try with_reducible rfl)
      try simp only [Act.put,nA,nB,nC]
      refine wpAnyH_ready (rs := [6]) (by kernel_rfl) (by simp) ?_
      refine AllReadyH.cons (o := ⟨some 62, .load 121 (.tmp 61), 121, "hash.go:84", #[⟨5, .data⟩], none⟩) rfl (fun K hK => ?_) AllReadyH.nil
      go_simp
      refine hK.out _ _ ?_ (fun hHeld => ?_)
      ·trivial
      clear hK K
      try simp only [Act.put,nA,nB,nC]
      refine' tQ 7 ⟨some 63, .sliceToArrayPointer 144 (.tmp 62), 0, "hash.go:84", #[⟨6, .data⟩], none⟩ rfl (by kernel_rfl) (Or.inl ⟨by rfl, _⟩) _; rotate_left; · (intro s h; (try dsimp only at h); go_simp; try with_reducible rfl)
      try simp only [Act.put,nA,nB,nC]
      refine wpAnyH_ready (rs := [8]) (by kernel_rfl) (by simp) ?_
      refine AllReadyH.cons (o := ⟨some 64, .load 144 (.tmp 63), 144, "hash.go:84", #[⟨7, .data⟩], none⟩) rfl (fun K hK => ?_) AllReadyH.nil
      (set_option maxRecDepth 100000 in refine step_of rfl (wp_load64 _ rfl g 0 rfl Z H64.out HO3.out.range ?_))
      refine hK.out _ _ ?_ (fun hHeld => ?_)
      ·trivial
      clear hK K
      try simp only [Act.put,nA,nB,nC]
      refine wpAnyH_ready (rs := [9]) (by kernel_rfl) (by simp) ?_
      refine AllReadyH.cons (o := ⟨some 65, .call ⟨.value (.func 93), #[.tmp 58, .tmp 64], #[139, 144]⟩, 0, "hash.go:84", #[⟨2, .data⟩, ⟨8, .data⟩], none⟩) rfl (fun K hK => ?_) AllReadyH.nil
      go_simp
      (go_at_call 93; set_option maxRecDepth 100000 in refine (block_any p 1 (stOf (L ++ s.data.toList.take j)) Z _ _ wt.drew H64.out Hp3 (by show 1 + 8 ≤ 11; omega) (hash_words _ _ _)).mono ?_; rintro e w5 ⟨rfl, hp5, hk5⟩)
      refine hK.out _ _ ?_ (fun hHeld => ?_)
      ·trivial
      clear hK K
      try simp only [Act.put,nA,nB,nC]
      refine wpAnyH_done (by kernel_rfl) ?_ _
      go_upto_region 11 with fail
      rw [lay8_hash] at hp5
      have Hp5 := Lib.hid hp5
      have HO5 := Lib.hid (OwnB.mod (w := wt.drew) HO3.out (Mod.kept (S := fun k => k = p) hk5 rfl) (fun k h e => hgp.out (by rw [← e]; injection h)))
      have HM5 := Lib.hid (HM3.out.drew.then (Mod.kept hk5 (.inl rfl)))
      clear hp5 hk5 c9
      have c9 : w5.cell? ⟨p, 9, none⟩ = some (.slice (some ⟨g, 0, none⟩) 64 cap) := by rw [heap_cell Hp5.out]; rfl
      have f9 := heap_free Hp5.out 9
      go_wp2_with fail
      obtain ⟨q1, q2, q3, q4, q5⟩ := cut_step s x y j (64 - R.length) hj Hx.out (by omega) Hy.out.symm
      have q6 := more_full (L ++ s.data.toList.take j) y.data.toList (by rw [HR.out, data_len]; exact Hyl.out)
      rw [HR.out, HZ.out, List.append_assoc, ← q3] at q6
      refine ⟨⟨j + (64 - R.length), _, .slice (some ⟨g, 0, none⟩) 0 cap, q5, q2, q1, ⟨by rw [q6.1]; exact hash_rest Hp5.out _, ?_, fun e => hgp.out (by injection e)⟩, ?_, HM5.out.then (Mod.set _ (.inl rfl) _), rfl⟩, ?_⟩
      ·rw [q6.2]
       exact HO5.out.empty.setOther (p := p) (by exact fun e => hgp.out (by injection e)) _
      ·rcases Hat.out with h | h
       ·rcases HO2.out with h2 | h2
        ·left; rw [← h2, h]; rfl
        ·right
         intro k hk
         exact h2 k (by rw [h]; exact hk)
       ·right
        intro k hk
        have hk' : g = k := by injection hk
        have := HM2.out.size
        rw [← hk', h]
        exact this
      ·show (x.extract (64 - R.length) x.size).size < x.size
       rw [q2]; have := Hxs.out; omega
     ·have hg : (x.size : Int) < 64 - (R.length : Int) := by omega
      go_upto_region 7 with fail
      refine wp_region_held_drew (S := fun _ => True) (by kernel_rfl) trivial (fun hHeld => ?_)
      refine' tQ 0 ⟨some 36, .move (.tmp 0), 132, "hash.go:81", #[], none⟩ rfl (by kernel_rfl) (Or.inl ⟨by rfl, _⟩) _; rotate_left; · (intro s h; (try dsimp only at h); go_simp; try with_reducible rfl)
      try simp only [Act.put,nA,nB,nC]
      refine' tQ 1 ⟨some 37, .move (.tmp 0), 132, "hash.go:81", #[], none⟩ rfl (by kernel_rfl) (Or.inl ⟨by rfl, _⟩) _; rotate_left; · (intro s h; (try dsimp only at h); go_simp; try with_reducible rfl)
      try simp only [Act.put,nA,nB,nC]
      refine' tQ 2 ⟨some 38, .nilCheck (.tmp 37), 0, "hash.go:81", #[⟨1, .data⟩], none⟩ rfl (by kernel_rfl) (Or.inl ⟨by rfl, _⟩) _; rotate_left; · (intro s h; (try dsimp only at h); go_simp; try with_reducible rfl)
      try simp only [Act.put,nA,nB,nC]
      refine' tQ 3 ⟨some 39, .fieldAddr 142 (.tmp 38) 2, 0, "hash.go:81", #[⟨2, .data⟩], none⟩ rfl (by kernel_rfl) (Or.inl ⟨by rfl, _⟩) _; rotate_left; · (intro s h; (try dsimp only at h); go_simp; try with_reducible rfl)
      try simp only [Act.put,nA,nB,nC]
      refine' tQ 5 ⟨some 41, .move (.tmp 5), 9, "hash.go:81", #[], none⟩ rfl (by kernel_rfl) (Or.inl ⟨by rfl, _⟩) _; rotate_left; · (intro s h; (try dsimp only at h); go_simp; try with_reducible rfl)
      try simp only [Act.put,nA,nB,nC]
      refine' tQ 6 ⟨some 42, .move (.tmp 6), 3, "hash.go:81", #[], none⟩ rfl (by kernel_rfl) (Or.inl ⟨by rfl, _⟩) _; rotate_left; · (intro s h; (try dsimp only at h); go_simp; try with_reducible rfl)
      try simp only [Act.put,nA,nB,nC]
      refine' tQ 7 ⟨some 43, .slice 9 (.tmp 41) none (some (.tmp 42)) none, 9, "hash.go:81", #[⟨5, .data⟩, ⟨6, .data⟩], none⟩ rfl (by kernel_rfl) (Or.inl ⟨by rfl, _⟩) _; rotate_left; · (intro s h; (try dsimp only at h); go_simp; try with_reducible rfl)
      try simp only [Act.put,nA,nB,nC]
      refine wpAnyH_ready (rs := [4]) (by kernel_rfl) (by simp) ?_
      refine AllReadyH.cons (o := ⟨some 40, .load 121 (.tmp 39), 121, "hash.go:81", #[⟨3, .data⟩], none⟩) rfl (fun K hK => ?_) AllReadyH.nil
      go_simp
      refine hK.out _ _ ?_ (fun hHeld => ?_)
      ·trivial
      clear hK K
      try simp only [Act.put,nA,nB,nC]
      refine wpAnyH_ready (rs := [8]) (by kernel_rfl) (by simp) ?_
      refine AllReadyH.cons (o := ⟨some 44, .call ⟨.builtin .append, #[.tmp 40, .tmp 43], #[121, 9]⟩, 121, "hash.go:81", #[⟨4, .data⟩, ⟨7, .data⟩], none⟩) rfl (fun K hK => ?_) AllReadyH.nil
      (refine step_appS _ rfl _ _ rfl B (.slice ad R.length c2) R rfl HO.out.drew x rfl (by omega) (by omega) hBw _ rfl ?_; intro g cap w2 hown2 hg2 hat hlt2)
      refine hK.out _ _ ?_ (fun hHeld => ?_)
      ·trivial
      clear hK K
      try simp only [Act.put,nA,nB,nC]
      obtain ⟨T, hT⟩ : ∃ T, R.length + x.size = T := ⟨_, rfl⟩
      have hT1 : T < 64 := by omega
      have hT2 : ((T : Int) == 64) = false := by rw [beq_eq_false_iff_ne]; omega
      rw [hT] at hown2 ⊢
      have HT := Lib.hid hT
      clear hT
      have hp2 := heap_grown (w := wr.drew) HC.out hg2 (fun e => HN.out e.symm)
      have c9b : w2.cell? ⟨p, 9, none⟩ = some (.slice ad R.length c2) := by rw [heap_cell hp2]; rfl
      have f9b := heap_free hp2 9
      have Hp2 := Lib.hid hp2
      have Hown2 := Lib.hid hown2
      have Hg2 := Lib.hid hg2
      have Hat := Lib.hid hat
      clear hp2 hown2 hg2 hat
      refine' tQ 9 ⟨some 45, .nilCheck (.tmp 36), 0, "hash.go:81", #[⟨0, .data⟩, ⟨0, .phase⟩, ⟨1, .phase⟩, ⟨2, .phase⟩, ⟨3, .phase⟩, ⟨4, .phase⟩, ⟨5, .phase⟩, ⟨6, .phase⟩, ⟨7, .phase⟩, ⟨8, .phase⟩], none⟩ rfl (by kernel_rfl) (Or.inl ⟨by rfl, _⟩) _; rotate_left; · (intro s h; (try dsimp only at h); go_simp; try with_reducible rfl)
      try simp only [Act.put,nA,nB,nC]
      refine' tQ 10 ⟨some 46, .fieldAddr 142 (.tmp 45) 2, 0, "hash.go:81", #[⟨9, .data⟩, ⟨0, .phase⟩, ⟨1, .phase⟩, ⟨2, .phase⟩, ⟨3, .phase⟩, ⟨4, .phase⟩, ⟨5, .phase⟩, ⟨6, .phase⟩, ⟨7, .phase⟩, ⟨8, .phase⟩], none⟩ rfl (by kernel_rfl) (Or.inl ⟨by rfl, _⟩) _; rotate_left; · (intro s h; (try dsimp only at h); go_simp; try with_reducible rfl)
      try simp only [Act.put,nA,nB,nC]
      refine wpAnyH_ready (rs := [11]) (by kernel_rfl) (by simp) ?_
      refine AllReadyH.cons (o := ⟨none, .store 121 (.tmp 46) (.tmp 44), 0, "hash.go:81", #[⟨10, .data⟩, ⟨8, .data⟩, ⟨8, .chain⟩, ⟨0, .phase⟩, ⟨1, .phase⟩, ⟨2, .phase⟩, ⟨3, .phase⟩, ⟨4, .phase⟩, ⟨5, .phase⟩, ⟨6, .phase⟩, ⟨7, .phase⟩, ⟨8, .phase⟩], none⟩) rfl (fun K hK => ?_) AllReadyH.nil
      go_simp
      refine hK.out _ _ ?_ (fun hHeld => ?_)
      ·trivial
      clear hK K
      try simp only [Act.put,nA,nB,nC]
      refine wpAnyH_done (by kernel_rfl) ?_ _
      go_upto_region 8 with fail
      have hgp : Hid (g ≠ p) := by
       intro e
       rcases Hat.out with h | h
       ·exact HN.out (by rw [h, e])
       ·have := heap_lt HC.out
        rw [e] at h
        exact absurd this (by rw [h]; simp)
      refine wp_name (fun W => W.heap[p]? = some (.cells (hashCells (stOf (L ++ s.data.toList.take j)) (.slice (some ⟨g, 0, none⟩) T cap) ((L.length + s.size : Nat) : Int)) 142 (0, 0)) ∧ OwnB W B (.slice (some ⟨g, 0, none⟩) T cap) (R ++ x.data.toList) ∧ Mod (fun k => k = p ∨ rv.ownBlock = some k) w W)
       ⟨hash_rest Hp2.out _, Hown2.out.setOther (p := p) (by exact fun e => hgp.out (by injection e)) _, (HM2.out.drew.trans (Mod.grown (S := fun k => Value.ownBlock (.slice ad R.length c2) = some k) Hg2.out (fun k h => h)) ?_).then (Mod.set _ (.inl rfl) _)⟩ (fun wt hq => ?_)
      ·intro i hi h
       rcases HO2.out with h2 | h2
       ·right; rw [← h2]; exact h
       ·have := h2 i h; omega
      have Hp3 := Lib.hid hq.1
      have HO3 := Lib.hid hq.2.1
      have HM3 := Lib.hid hq.2.2
      clear hq c9 c9b f9b
      have c9 : wt.cell? ⟨p, 9, none⟩ = some (.slice (some ⟨g, 0, none⟩) T cap) := by rw [heap_cell Hp3.out]; rfl
      go_wp2_with fail
      obtain ⟨q1, q2, q3, q4, q5⟩ := cut_step s x x j x.size hj Hx.out (by omega) (by simp)
      have q6 := more_less (L ++ s.data.toList.take j) x.data.toList (by rw [HR.out, data_len]; omega)
      rw [HR.out, List.append_assoc, ← q3] at q6
      have q7 : x.extract x.size x.size = ByteArray.empty := by simp
      rw [q7] at q1 q2
      refine ⟨⟨j + x.size, _, .slice (some ⟨g, 0, none⟩) T cap, q5, q2, q1, ⟨by rw [q6.1]; exact Hp3.out, by rw [q6.2]; exact HO3.out, fun e => hgp.out (by injection e)⟩, ?_, HM3.out, rfl⟩, ?_⟩
      ·rcases Hat.out with h | h
       ·rcases HO2.out with h2 | h2
        ·left; rw [← h2, h]; rfl
        ·right
         intro k hk
         exact h2 k (by rw [h]; exact hk)
       ·right
        intro k hk
        have hk' : g = k := by injection hk
        have := HM2.out.size
        rw [← hk', h]
        exact this
      ·exact hpos
    ·go_wp2_with fail
     have hj2 : s.data.toList.take j = s.data.toList := List.take_of_length_le (by rw [data_len]; omega)
     have hfin : HashB wr B p rv2 (l ++ flat (ss.take (k + 1))) ((l ++ flat (ss.take (k + 1))).length : Nat) := by
      have h1 := HW2.out
      rw [hj2] at h1
      have h2 : l ++ flat (ss.take (k + 1)) = L ++ s.data.toList := by rw [Hft.out, ← List.append_assoc, HL.out]
      rw [h2, List.length_append, data_len]
      exact h1
     exact ⟨⟨k + 1, rv2, by omega, hfin, HO2, HM2, by go_num⟩, by simp [intOf]; omega⟩
  ·go_wp2_with fail
   go_end0
   obtain rfl : k = ss.length := by omega
   rw [List.take_length] at HW
   exact ⟨rv1, rfl, HW.out, HO.out, HM.out⟩
end Go.Proofs.Ytihbhpggpnmifaa
