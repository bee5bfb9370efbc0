/-
  The walks of NewShelf and of a shelf's Page.
-/
import Derived.Test.YtfhfeaipdmcekaaAlikeP
import Derived.Test.YtfhfeaipdmcekaaPageL8
namespace Go.Proofs.Ytfhfeaipdmcekaa
open Go.RowKit Hw Go.Maps
set_option linter.unusedVariables false

theorem step_of {P : Program} {ops : Array Oper} {o : Oper} {a : Act} {w : World} {K : Act → World → Prop} {Q : Exit → Act → World → Prop} {E : Prop} (hgd : o.guard = none) (h : o.wp P a w K Q) : if Region.wanted o (yielded ops a.tmps) = true then o.wp P a w K Q else E := by
  have hw : Region.wanted o (yielded ops a.tmps) = true := by simp [Region.wanted, hgd]
  rw [if_pos hw]; exact h
/-- a row of pages -/
def PgRow (w : World) (v : Value) (l : List Pg) : Prop :=
  ∃ ad c, v = .slice ad l.length c ∧ (0 < l.length → ∃ b o, ad = some ⟨b, o, none⟩ ∧ ∀ i (h : i < l.length), w.cell? ⟨b, o + i * 4, none⟩ = some (.int .u8 l[i].k) ∧ w.cell? ⟨b, o + i * 4 + 1, none⟩ = some (.int .u32 l[i].n) ∧
    w.cell? ⟨b, o + i * 4 + 2, none⟩ = some (.int .u64 l[i].r) ∧ w.cell? ⟨b, o + i * 4 + 3, none⟩ = some (.string l[i].s))
theorem PgRow.below {w w' : World} {v : Value} {l : List Pg} (h : PgRow w v l) (hb : Below w.heap.size w w') : PgRow w' v l := by
  obtain ⟨ad, c, rfl, h3⟩ := h
  refine ⟨ad, c, rfl, fun hl => ?_⟩
  obtain ⟨b, o, ha, hc⟩ := h3 hl
  refine ⟨b, o, ha, fun i hi => ?_⟩
  obtain ⟨c0, c1, c2, c3⟩ := hc i hi
  have hbl := World.block_lt_of_cell? _ _ c0
  exact ⟨cellB hb hbl c0, cellB hb hbl c1, cellB hb hbl c2, cellB hb hbl c3⟩
/-- a shelf's block -/
def SHB (w : World) (S : Nat) (a b : Int) (mb : Nat) : Prop := w.heap[S]? = some (.cells #[.int .i64 a, .int .i64 b, .map (some mb)] 86 (0, 0))
theorem SHB.cells {w : World} {S mb : Nat} {a b : Int} (h : SHB w S a b mb) : w.cell? ⟨S, 0, none⟩ = some (.int .i64 a) ∧ w.cell? ⟨S, 1, none⟩ = some (.int .i64 b) ∧ w.cell? ⟨S, 2, none⟩ = some (.map (some mb)) :=
  ⟨by rw [heap_cell h]; rfl, by rw [heap_cell h]; rfl, by rw [heap_cell h]; rfl⟩
theorem map_ne_nil (mb : Nat) (w : World) : Sem.run Try.prog (binOp .eql 84 (.map (some mb)) (.map none)) w = .ok (.bool false) w := by kernel_rfl
theorem dead_live (S mb : Nat) (a b : Int) (w : World) (h : SHB w S a b mb) : Calls Try.prog 59 #[.pointer (some ⟨S, 0, none⟩)] w fun e w' => e = .returned (.bool false) ∧ w = w' := by
  obtain ⟨c0, c1, c2⟩ := h.cells
  go_enter Try.func59, Try.ntmps59
  have he := map_ne_nil mb
  go_wp2_with fail
  go_ret
  exact ⟨rfl, rfl⟩
theorem run_lookP {w : World} {b n : Nat} {g : Int → Option Pg} (h : PMap w b n g) (y : Int) (hy : 0 ≤ y ∧ y < 4294967296) (p : Pg) (t : Bool) (hp : (g y).getD zeroPg = p) (ht : (g y).isSome = t) :
    Sem.run Try.prog (Instr.lookup 84 (.map (some b)) (.int .u32 y) true) w = .ok (.tuple #[.agg #[.int .u8 p.k, .int .u32 p.n, .int .u64 p.r, .string p.s], .bool t]) w := by
  obtain ⟨D, h1, h2, h3⟩ := h
  obtain ⟨v, ps, hrun, hv⟩ := h1.look_ok keyed_u32 Try.underlying84 (zero_Page w) (PgR_mk zeroPg) (key_u32 hy)
  obtain ⟨h4, h5⟩ := h3 y
  refine hrun.trans ?_
  cases hgy : g y with
  | none =>
    rw [hgy] at hp ht
    have h6 := h5 hgy
    rw [atKey_of_not_has h6] at hv
    rw [PgR_inv hv, h6]
    obtain rfl : zeroPg = p := hp
    obtain rfl : false = t := ht
    rfl
  | some q =>
    rw [hgy] at hp ht
    obtain ⟨h6, h7⟩ := h4 q hgy
    rw [h7] at hv
    rw [PgR_inv hv, h6]
    obtain rfl : q = p := hp
    obtain rfl : true = t := ht
    rfl
theorem wp_storeP {o : Oper} {a : Act} {K : Act → World → Prop} {Q : Exit → Act → World → Prop} (w : World) (m x v : Operand) (hop : o.op = Op.mapUpdate 84 m x v) (b n : Nat) (g : Int → Option Pg) (hm : a.eval m = .map (some b)) (h : PMap w b n g) (hn : n < 9223372036854775807) (y : Int) (hx : a.eval x = .int .u32 y) (hy : 0 ≤ y ∧ y < 4294967296)
    (p : Pg) (hv : a.eval v = .agg #[.int .u8 p.k, .int .u32 p.n, .int .u64 p.r, .string p.s]) (hK : ∀ w', PMap w' b (n + 1) (updP g y p) → w.grownBy w' (some b) → K (a.put o.dst undef) w') : o.wp Try.prog a w K Q := by
  obtain ⟨D, h1, h2, h3⟩ := h
  obtain ⟨w', hrun, r1, r2⟩ := h1.update (t := 84) keyed_u32 Try.underlying84 (by unfold maxLen; omega) (key_u32 hy) (PgR_mk p)
  have hrun' : Sem.run Try.prog (Instr.mapUpdate 84 (.map (some b)) (.int .u32 y) (.agg #[.int .u8 p.k, .int .u32 p.n, .int .u64 p.r, .string p.s])) w = .ok () w' := hrun
  unfold Oper.wp
  simp [execOp, hop, hm, hx, hv, hrun', Result.andThen]
  exact hK _ (PMap.put h2 h3 y p r1) r2
/-- what a shelf's Page answers -/
def askC (g : Int → Option Pg) (y : Int) : Int := if (g y).isSome = true then 0 else 55

set_option maxHeartbeats 2000000 in
theorem SPage_any (S mb n : Nat) (a b y : Int) (g : Int → Option Pg) (w : World) (hS : Hid (SHB w S a b mb)) (hM : Hid (PMap w mb n g)) (hy : 0 ≤ y ∧ y < 4294967296) (p : Pg) (hp : (g y).getD zeroPg = p) (c : Int) (hc : askC g y = c) :
    Calls Try.prog 31 #[.pointer (some ⟨S, 0, none⟩), .int .u32 y] w fun e w' => e = .returned (.tuple #[.agg #[.int .u8 p.k, .int .u32 p.n, .int .u64 p.r, .string p.s], .int .i64 c]) ∧ Below w.heap.size w w' := by
  have S1 : Hid (SHB (w.alloc (.cells #[.int .u8 0, .int .u32 0, .int .u64 0, .string ⟨#[]⟩] 28)) S a b mb) := heap_alloc hS.out
  have M1 := Lib.hid (hM.out.alloc (.cells #[.int .u8 0, .int .u32 0, .int .u64 0, .string ⟨#[]⟩] 28))
  obtain ⟨c0, c1, c2⟩ := S1.out.cells
  have hsl := heap_lt hS.out
  obtain ⟨ok, hok⟩ : ∃ t, (g y).isSome = t := ⟨_, rfl⟩
  have hc2 : (if ok = true then 0 else 55) = c := by rw [← hok]; exact hc
  have HOk := Lib.hid hok
  have HP := Lib.hid hp
  have R0 := Lib.hid (heap_new w (.cells #[.int .u8 0, .int .u32 0, .int .u64 0, .string ⟨#[]⟩] 28))
  clear hok hp hc
  go_enter Try.func31, Try.ntmps31
  go_upto_region 3 with (go_at_call 59; refine (dead_live _ _ _ _ _ S1.out).mono ?_; rintro e w1 ⟨rfl, rfl⟩)
  go_upto_region 4 with (at_lookup; refine wpList_lookP _ rfl _ _ rfl mb n g rfl M1.out y rfl hy p ok HP.out HOk.out ?_; unfold pgV)
  have B0 := Lib.hid ((Below.refl w.heap.size w).alloc (Nat.le_refl _) (.cells #[.int .u8 0, .int .u32 0, .int .u64 0, .string ⟨#[]⟩] 28))
  cases ok with
  | false =>
    have hgy : g y = none := by
      have := HOk.out
      cases hg : g y
      · rfl
      · rw [hg] at this; cases this
    obtain rfl : zeroPg = p := by have := HP.out; rw [hgy] at this; exact this
    obtain rfl : 55 = c := hc2
    go_wp2_with fail
    exact bodyPost_ret (v := .tuple #[.agg #[.int .u8 zeroPg.k, .int .u32 zeroPg.n, .int .u64 zeroPg.r, .string zeroPg.s], .int .i64 55]) (by simp [results, Try.results31, go_sem, zeroPg]) rfl ⟨rfl, B0.out.alloc (by simp) _⟩
  | true =>
    obtain rfl : 0 = c := hc2
    go_wp2_with fail
    exact bodyPost_ret (v := .tuple #[.agg #[.int .u8 p.k, .int .u32 p.n, .int .u64 p.r, .string p.s], .int .i64 0]) (by simp [results, Try.results31, go_sem]) rfl ⟨rfl, ((Below.refl w.heap.size w).alloc (Nat.le_refl _) _).alloc (by simp) _⟩

/-- what the loop of NewShelf keeps -/
structure NS (w W : World) (a b : Int) (S mb k : Nat) (v : Value) (l : List Pg) (g : Int → Option Pg) : Prop where
  f : W.heap[w.heap.size]? = some (.cells #[.int .i64 a, .int .i64 b] 23 (0, 0))
  s : SHB W S a b mb
  m : PMap W mb k g
  lo : w.heap.size ≤ S
  lm : w.heap.size < mb
  ne : S ≠ mb
  r : PgRow w v l
  bel : Below w.heap.size w W
theorem NS.below {w W W' : World} {a b : Int} {S mb k : Nat} {v : Value} {l : List Pg} {g : Int → Option Pg} (h : NS w W a b S mb k v l g) (hb : Below W.heap.size W W') : NS w W' a b S mb k v l g :=
  ⟨heap_below h.f hb (heap_lt h.f), heap_below h.s hb (heap_lt h.s), h.m.below hb h.m.lt, h.lo, h.lm, h.ne, h.r, h.bel.trans (hb.mono h.bel.size)⟩

theorem NS.drew {w W : World} {a b : Int} {S mb k : Nat} {v : Value} {l : List Pg} {g : Int → Option Pg} (h : NS w W a b S mb k v l g) : NS w W.drew a b S mb k v l g :=
  ⟨h.f, h.s, h.m, h.lo, h.lm, h.ne, h.r, h.bel.drew⟩
theorem NS.stored {w W W' : World} {a b : Int} {S mb k : Nat} {v : Value} {l : List Pg} {g : Int → Option Pg} {x : Int} {p : Pg} (h : NS w W a b S mb k v l g) (hm : PMap W' mb (k + 1) (updP g x p)) (hg : W.grownBy W' (some mb)) : NS w W' a b S mb (k + 1) v l (updP g x p) := by
  have hs := heap_lt h.s
  have hb : ∀ o : Obj, ∀ q, q ≠ mb → W.heap[q]? = some o → W'.heap[q]? = some o := fun o q hq e => (hg.block q (heap_lt e) (by simpa using hq)).trans e
  refine ⟨hb _ _ (Nat.ne_of_lt h.lm) h.f, hb _ _ h.ne h.s, hm, h.lo, h.lm, h.ne, h.r, h.bel.grown hg h.bel.size (fun k hk => by obtain rfl := Option.some.inj hk; exact Nat.le_of_lt h.lm)⟩
def NSPost (w : World) (a b : Int) (n : Nat) (c : Int) (e : Ending) (w' : World) : Option (Int → Option Pg) → Prop
  | none => e = .returned (.tuple #[.pointer none, .int .i64 c])
  | some g => ∃ S mb, e = .returned (.tuple #[.pointer (some ⟨S, 0, none⟩), .int .i64 c]) ∧ SHB w' S a b mb ∧ PMap w' mb n g ∧ w.heap.size ≤ S ∧ w.heap.size ≤ mb ∧ S ≠ mb
set_option maxHeartbeats 4000000 in
theorem NewShelf_any (a b : Int) (v : Value) (l : List Pg) (w : World) (ha : -9223372036854775808 ≤ a ∧ a ≤ 9223372036854775807) (hv : Hid (PgRow w v l)) (hok : Hid (∀ p ∈ l, PgOk p)) (hl : l.length ≤ 9223372036854775806) (hmay : mayB a b = true)
    (r : Option (Int → Option Pg)) (c : Int) (hr : shelfC a b (fun _ => none) l = (r, c)) :
    Calls Try.prog 30 #[.agg #[.int .i64 a, .int .i64 b], v] w fun e w' => Below w.heap.size w w' ∧ NSPost w a b l.length c e w' r := by
  have HM := Lib.hid (May_any a b)
  rw [hmay] at HM
  have B0 := Lib.hid ((Below.refl w.heap.size w).alloc (Nat.le_refl _) (.cells #[.int .i64 a, .int .i64 b] 23))
  have F0 := Lib.hid (heap_new w (.cells #[.int .i64 a, .int .i64 b] 23))
  have hmm := @run_makeMap Try.prog
  have HR := Lib.hid hr
  clear hmay hr
  go_enter Try.func30, Try.ntmps30
  go_wp2_with fail
  refine (HM.out _).mono ?_
  rintro e w1 ⟨rfl, hb1⟩
  have hz0 : w.heap.size < (w.alloc (.cells #[.int .i64 a, .int .i64 b] 23)).heap.size := by simp
  have B1 := Lib.hid (B0.out.trans (hb1.mono (Nat.le_of_lt hz0)))
  have F1 := Lib.hid (heap_below F0.out hb1 hz0)
  have z1 := heap_lt F1.out
  obtain ⟨ad, cp, rfl, hrow⟩ := hv.out
  have V0 := hv
  clear hb1 B0 F0 hrow HM
  have f0 : w1.cell? ⟨w.heap.size, 0, none⟩ = some (.int .i64 a) := by rw [heap_cell F1.out]; rfl
  have f1 : w1.cell? ⟨w.heap.size, 1, none⟩ = some (.int .i64 b) := by rw [heap_cell F1.out]; rfl
  go_upto_region 4 with fail
  refine wp_name (fun W => Hid (NS w W a b (w1.heap.size + 1) w1.heap.size 0 (.slice ad l.length cp) l (fun _ => none))) ⟨heap_alloc (heap_alloc F1.out), by have := heap_new (w1.alloc (.map #[] 0)) (.cells #[.int .i64 a, .int .i64 b, .map (some w1.heap.size)] 86); (simp only [World.size_alloc] at this; exact this), (PMap.made w1).alloc _, by omega, by omega, by omega, V0.out, (B1.out.alloc (by omega) _).alloc (by simp; omega) _⟩ (fun w2 hq => ?_)
  have T0 := Lib.hid hq.out
  obtain ⟨S, hS⟩ : ∃ S, w1.heap.size + 1 = S := ⟨_, rfl⟩
  obtain ⟨mb, hmb⟩ : ∃ mb, w1.heap.size = mb := ⟨_, rfl⟩
  rw [hS, hmb] at T0 ⊢
  clear hq hS hmb f0 f1 V0 hv F1 B1 z1 hmm
  go_wp2_with fail
  go_loopw [21] (fun i wr => ∃ (k : Nat) (g : Int → Option Pg), k ≤ l.length ∧ Hid (NS w wr a b S mb k (.slice ad l.length cp) l g) ∧ Hid (shelfC a b g (l.drop k) = (r, c)) ∧ i = .int .i64 (k : Int)) (fun i _ => l.length - (intOf i).toNat)
  case atStart => exact ⟨0, _, Nat.zero_le _, T0, HR, rfl⟩
  case round =>
    clear T0 HR
    obtain ⟨k, g, hk, TN, HR, rfl⟩ := hrel
    by_cases hlt : k < l.length
    · have dk : decide (k < l.length) = true := decide_eq_true hlt
      have dk2 : decide ((k : Int) < (l.length : Int)) = true := decide_eq_true (by omega)
      have ik : (k : Int) < (l.length : Int) := by omega
      obtain ⟨_, _, he, hrow⟩ := TN.out.r.below TN.out.bel
      obtain ⟨rb, ro, rfl, hcs⟩ := hrow (by omega)
      obtain ⟨rfl, hz9, rfl⟩ := Value.slice.inj he
      clear hz9
      obtain ⟨c0, c1, c2, c3⟩ := hcs k hlt
      obtain ⟨p, hp⟩ : ∃ p, l[k] = p := ⟨_, rfl⟩
      have hpok := hok.out l[k] (List.getElem_mem hlt)
      have hdr : l.drop k = p :: l.drop (k + 1) := by rw [List.drop_eq_getElem_cons hlt, hp]
      rw [hp] at c0 c1 c2 c3 hpok
      have HR2 : Hid (shelfC a b g (p :: l.drop (k + 1)) = (r, c)) := by show _ = _; rw [← hdr]; exact HR.out
      clear he hrow hcs hp hdr HR
      have hpw := TN.out.bel.size
      go_upto_region 7 with fail
      refine wp_name (fun W => Hid (NS w W a b S mb k (.slice (some ⟨rb, ro, none⟩) l.length cp) l g) ∧ Hid (W.heap[wr.heap.size]? = some (.cells #[.int .u8 p.k, .int .u32 p.n, .int .u64 p.r, .string p.s] 28 (0, 0)))) ⟨TN.out.below ((Below.refl _ _).alloc (Nat.le_refl _) _), heap_new _ _⟩ (fun w3 hq => ?_)
      obtain ⟨T3, P3⟩ := hq
      obtain ⟨pb, hpb⟩ : ∃ x, wr.heap.size = x := ⟨_, rfl⟩
      have hSm : S < pb ∧ mb < pb := by rw [← hpb]; exact ⟨heap_lt TN.out.s, TN.out.m.lt⟩
      rw [hpb] at P3 hpw ⊢
      clear c0 c1 c2 c3 TN hpb
      have f0 : w3.cell? ⟨w.heap.size, 0, none⟩ = some (.int .i64 a) := by rw [heap_cell T3.out.f]; rfl
      have f1 : w3.cell? ⟨w.heap.size, 1, none⟩ = some (.int .i64 b) := by rw [heap_cell T3.out.f]; rfl
      obtain ⟨q0, q1, q2, q3, _⟩ := blk4 P3.out
      have hz3 := T3.out.bel.size
      obtain ⟨C, hC⟩ : ∃ C, ckP a b p = C := ⟨_, rfl⟩
      have HC := Lib.hid hC
      clear hC
      have HCk : Hid (∀ W, Calls Try.prog 18 #[.agg #[.int .i64 a, .int .i64 b], .agg #[.int .u8 p.k, .int .u32 p.n, .int .u64 p.r, .string p.s]] W fun e w' => e = .returned (.int .i64 C) ∧ Below W.heap.size W w') := fun W => by
        rw [← HC.out]
        exact Check_any a b p.k p.n p.r p.s W ha hpok.1 hpok.2.1 hpok.2.2.1 hpok.2.2.2
      go_upto_region 8 with (go_at_call 18; refine (HCk.out _).mono ?_; rintro e w4 ⟨rfl, hb4⟩)
      have T4 := Lib.hid (T3.out.below hb4)
      have P4 := Lib.hid (heap_below P3.out hb4 (heap_lt P3.out))
      clear f0 f1 q0 q1 q2 q3 T3 P3 hb4 HCk hz3
      by_cases hC0 : C = 0
      · have d0 : (C != 0) = false := by rw [hC0]; rfl
        have D4 : Hid (NS w w4.drew a b S mb k (.slice (some ⟨rb, ro, none⟩) l.length cp) l g) := ⟨T4.out.f, T4.out.s, T4.out.m, T4.out.lo, T4.out.lm, T4.out.ne, T4.out.r, T4.out.bel.drew⟩
        have P4d : Hid (w4.drew.heap[pb]? = some (.cells #[.int .u8 p.k, .int .u32 p.n, .int .u64 p.r, .string p.s] 28 (0, 0))) := P4.out
        obtain ⟨s0, s1, s2⟩ := D4.out.s.cells
        obtain ⟨q0, q1, q2, q3, _⟩ := blk4 P4d.out
        obtain ⟨t, ht⟩ : ∃ t, (g p.n).isSome = t := ⟨_, rfl⟩
        obtain ⟨q, hq⟩ : ∃ q, (g p.n).getD zeroPg = q := ⟨_, rfl⟩
        have hlook := fun (W : World) (h : PMap W mb k g) => run_lookP h p.n hpok.2.1 q t hq ht
        have Ht := Lib.hid ht
        clear ht hq
        go_upto_region 10 with fail
        refine wp_region_held_drew (S := fun W => W.cell? ⟨S, 2, none⟩ = some (.map (some mb)) ∧ W.cell? ⟨pb, 1, none⟩ = some (.int .u32 p.n) ∧ PMap W mb k g) (by kernel_rfl) ⟨s2, q1, D4.out.m⟩ (fun hHeld => ?_)
        refine' wpAnyH_take (i := 0) (oi := { dst := Option.some 32, op := Op.move (Operand.tmp 6), type := 63, pos := "page.go:160", after := #[], guard := Option.none }) rfl (by kernel_rfl) (by kernel_rfl) (by kernel_rfl) (fun _ _ _ h => h) (Or.inl ⟨by rfl, _⟩) (by assumption) _
        rotate_left
        · (intro wS hSw; (try dsimp only at hSw); go_simp; try with_reducible rfl)
        try simp only [Act.put, List.setIfInBounds_toArray, List.set_cons_zero, List.set_cons_succ]
        refine' wpAnyH_take (i := 1) (oi := { dst := Option.some 33, op := Op.nilCheck (Operand.tmp 32), type := 0, pos := "page.go:160", after := #[{ on := 0, ground := Ground.data }], guard := Option.none }) rfl (by kernel_rfl) (by kernel_rfl) (by kernel_rfl) (fun _ _ _ h => h) (Or.inl ⟨by rfl, _⟩) (by assumption) _
        rotate_left
        · (intro wS hSw; (try dsimp only at hSw); go_simp; try with_reducible rfl)
        try simp only [Act.put, List.setIfInBounds_toArray, List.set_cons_zero, List.set_cons_succ]
        refine' wpAnyH_take (i := 2) (oi := { dst := Option.some 34, op := Op.fieldAddr 86 (Operand.tmp 33) 1, type := 0, pos := "page.go:160", after := #[{ on := 1, ground := Ground.data }], guard := Option.none }) rfl (by kernel_rfl) (by kernel_rfl) (by kernel_rfl) (fun _ _ _ h => h) (Or.inl ⟨by rfl, _⟩) (by assumption) _
        rotate_left
        · (intro wS hSw; (try dsimp only at hSw); go_simp; try with_reducible rfl)
        try simp only [Act.put, List.setIfInBounds_toArray, List.set_cons_zero, List.set_cons_succ]
        refine' wpAnyH_take (i := 3) (oi := { dst := Option.some 35, op := Op.load 84 (Operand.tmp 34), type := 84, pos := "page.go:160", after := #[{ on := 2, ground := Ground.data }], guard := Option.none }) rfl (by kernel_rfl) (by kernel_rfl) (by kernel_rfl) (fun _ _ _ h => h) (Or.inl ⟨by rfl, _⟩) (by assumption) _
        rotate_left
        · (intro wS hSw; (try dsimp only at hSw); go_simp; try with_reducible rfl)
        try simp only [Act.put, List.setIfInBounds_toArray, List.set_cons_zero, List.set_cons_succ]
        refine' wpAnyH_take (i := 4) (oi := { dst := Option.some 36, op := Op.fieldAddr 28 (Operand.tmp 8) 1, type := 0, pos := "page.go:160", after := #[], guard := Option.none }) rfl (by kernel_rfl) (by kernel_rfl) (by kernel_rfl) (fun _ _ _ h => h) (Or.inl ⟨by rfl, _⟩) (by assumption) _
        rotate_left
        · (intro wS hSw; (try dsimp only at hSw); go_simp; try with_reducible rfl)
        try simp only [Act.put, List.setIfInBounds_toArray, List.set_cons_zero, List.set_cons_succ]
        refine' wpAnyH_take (i := 5) (oi := { dst := Option.some 37, op := Op.load 25 (Operand.tmp 36), type := 25, pos := "page.go:160", after := #[{ on := 4, ground := Ground.data }], guard := Option.none }) rfl (by kernel_rfl) (by kernel_rfl) (by kernel_rfl) (fun _ _ _ h => h) (Or.inl ⟨by rfl, _⟩) (by assumption) _
        rotate_left
        · (intro wS hSw; (try dsimp only at hSw); go_simp; try with_reducible rfl)
        try simp only [Act.put, List.setIfInBounds_toArray, List.set_cons_zero, List.set_cons_succ]
        refine' wpAnyH_take (i := 6) (oi := { dst := Option.some 38, op := Op.lookup 84 (Operand.tmp 35) (Operand.tmp 37) Bool.true, type := 115, pos := "page.go:160", after := #[{ on := 3, ground := Ground.data }, { on := 5, ground := Ground.data }], guard := Option.none }) rfl (by kernel_rfl) (by kernel_rfl) (by kernel_rfl) (fun _ _ _ h => h) (Or.inl ⟨by rfl, _⟩) (by assumption) _
        rotate_left
        · intro wS hSw
          have hlk := hlook wS hSw.2.2
          go_simp
          try with_reducible rfl
        try simp only [Act.put, List.setIfInBounds_toArray, List.set_cons_zero, List.set_cons_succ]
        refine' wpAnyH_take (i := 7) (oi := { dst := Option.some 31, op := Op.move (Operand.tmp 38), type := 115, pos := "page.go:160", after := #[{ on := 6, ground := Ground.data }], guard := Option.none }) rfl (by kernel_rfl) (by kernel_rfl) (by kernel_rfl) (fun _ _ _ h => h) (Or.inl ⟨by rfl, _⟩) (by assumption) _
        rotate_left
        · (intro wS hSw; (try dsimp only at hSw); go_simp; try with_reducible rfl)
        try simp only [Act.put, List.setIfInBounds_toArray, List.set_cons_zero, List.set_cons_succ]
        refine' wpAnyH_take (i := 8) (oi := { dst := Option.some 39, op := Op.extract (Operand.tmp 31) 0, type := 28, pos := "page.go:160", after := #[{ on := 7, ground := Ground.data }], guard := Option.none }) rfl (by kernel_rfl) (by kernel_rfl) (by kernel_rfl) (fun _ _ _ h => h) (Or.inl ⟨by rfl, _⟩) (by assumption) _
        rotate_left
        · (intro wS hSw; (try dsimp only at hSw); go_simp; try with_reducible rfl)
        try simp only [Act.put, List.setIfInBounds_toArray, List.set_cons_zero, List.set_cons_succ]
        refine' wpAnyH_take (i := 9) (oi := { dst := Option.some 40, op := Op.extract (Operand.tmp 31) 1, type := 4, pos := "page.go:160", after := #[{ on := 7, ground := Ground.data }, { on := 11, ground := Ground.gcOnly Departure.lateStores }], guard := Option.none }) rfl (by kernel_rfl) (by kernel_rfl) (by kernel_rfl) (fun _ _ _ h => h) (Or.inl ⟨by rfl, _⟩) (by assumption) _
        rotate_left
        · (intro wS hSw; (try dsimp only at hSw); go_simp; try with_reducible rfl)
        try simp only [Act.put, List.setIfInBounds_toArray, List.set_cons_zero, List.set_cons_succ]
        refine wpAnyH_ready (rs := [10]) (by kernel_rfl) (by simp) ?_
        refine AllReadyH.cons (o := { dst := Option.some 10, op := Op.alloc 28, type := 0, pos := "page.go:160", after := #[], guard := Option.none }) rfl (fun K hK => ?_) AllReadyH.nil
        go_simp
        refine hK.out _ _ ?_ (fun hHeld => ?_)
        · exact ⟨cellA hHeld.1, cellA hHeld.2.1, hHeld.2.2.alloc _⟩
        clear hK K
        try simp only [Act.put, List.setIfInBounds_toArray, List.set_cons_zero, List.set_cons_succ]
        refine wpAnyH_ready (rs := [11]) (by kernel_rfl) (by simp) ?_
        refine AllReadyH.cons (o := { dst := Option.none, op := Op.store 28 (Operand.tmp 10) (Operand.tmp 39), type := 0, pos := "page.go:160", after := #[{ on := 10, ground := Ground.data }, { on := 8, ground := Ground.data }, { on := 0, ground := Ground.phase }, { on := 1, ground := Ground.phase }, { on := 2, ground := Ground.phase }, { on := 3, ground := Ground.phase }, { on := 4, ground := Ground.phase }, { on := 5, ground := Ground.phase }, { on := 6, ground := Ground.phase }, { on := 7, ground := Ground.phase }, { on := 8, ground := Ground.phase }, { on := 9, ground := Ground.textOnly Departure.lateStores }, { on := 10, ground := Ground.phase }], guard := Option.none }) rfl (fun K hK => ?_) AllReadyH.nil
        go_simp
        refine hK.out _ _ ?_ (fun hHeld => ?_)
        · exact ⟨cellA (w := w4) T4.out.s.cells.2.2, cellA (w := w4) (blk4 P4.out).2.1, PMap.drew (T4.out.m.alloc _)⟩
        clear hK K
        try simp only [Act.put, List.setIfInBounds_toArray, List.set_cons_zero, List.set_cons_succ]
        refine' wpAnyH_take (i := 12) (oi := { dst := Option.some 11, op := Op.assign (Operand.tmp 40), type := 4, pos := "page.go:160", after := #[{ on := 9, ground := Ground.data }, { on := 11, ground := Ground.chain }, { on := 0, ground := Ground.phase }, { on := 1, ground := Ground.phase }, { on := 2, ground := Ground.phase }, { on := 3, ground := Ground.phase }, { on := 4, ground := Ground.phase }, { on := 5, ground := Ground.phase }, { on := 6, ground := Ground.phase }, { on := 7, ground := Ground.phase }, { on := 8, ground := Ground.phase }, { on := 9, ground := Ground.phase }, { on := 10, ground := Ground.phase }, { on := 11, ground := Ground.phase }], guard := Option.none }) rfl (by kernel_rfl) (by kernel_rfl) (by kernel_rfl) (fun _ _ _ h => h) (Or.inl ⟨by rfl, _⟩) (by assumption) _
        rotate_left
        · (intro wS hSw; (try dsimp only at hSw); go_simp; try with_reducible rfl)
        try simp only [Act.put, List.setIfInBounds_toArray, List.set_cons_zero, List.set_cons_succ]
        refine wpAnyH_done (by kernel_rfl) ?_ _
        clear hlook hHeld s0 s1 s2 q0 q1 q2 q3
        go_upto_region 11 with fail
        refine wp_name (fun W => Hid (NS w W a b S mb k (.slice (some ⟨rb, ro, none⟩) l.length cp) l g) ∧ Hid (W.heap[pb]? = some (.cells #[.int .u8 p.k, .int .u32 p.n, .int .u64 p.r, .string p.s] 28 (0, 0)))) ⟨(T4.out.below ((Below.refl _ _).alloc (Nat.le_refl _) _)).drew, heap_alloc P4.out⟩ (fun w5 hq => ?_)
        obtain ⟨T5, P5⟩ := hq
        clear T4 P4 D4 P4d
        cases t with
        | true =>
          have hrc : (none, 56) = (r, c) := by
            rw [← HR2.out, shelfC, if_neg (by rw [HC.out, hC0]; decide), if_pos Ht.out]
          obtain ⟨rfl, rfl⟩ := Prod.mk.inj hrc
          clear hrc
          go_wp2_with fail
          go_ret2
          exact ⟨T5.out.bel, rfl⟩
        | false =>
          have hrc : Hid (shelfC a b (updP g p.n p) (l.drop (k + 1)) = (r, c)) := by
            show _ = _
            rw [← HR2.out, shelfC, if_neg (by rw [HC.out, hC0]; decide), if_neg (by rw [Ht.out]; decide)]
          go_upto_region 13 with fail
          have D5 := Lib.hid T5.out.drew
          have P5d : Hid (w5.drew.heap[pb]? = some (.cells #[.int .u8 p.k, .int .u32 p.n, .int .u64 p.r, .string p.s] 28 (0, 0))) := P5.out
          obtain ⟨s0, s1, s2⟩ := D5.out.s.cells
          obtain ⟨q0, q1, q2, q3, _⟩ := blk4 P5d.out
          refine wp_region_held_drew (S := fun W => W.cell? ⟨S, 2, none⟩ = some (.map (some mb)) ∧ W.cell? ⟨pb, 0, none⟩ = some (.int .u8 p.k) ∧ W.cell? ⟨pb, 1, none⟩ = some (.int .u32 p.n) ∧ W.cell? ⟨pb, 2, none⟩ = some (.int .u64 p.r) ∧ W.cell? ⟨pb, 3, none⟩ = some (.string p.s)) (by kernel_rfl) ⟨s2, q0, q1, q2, q3⟩ (fun hHeld => ?_)
          refine' wpAnyH_take (i := 0) (oi := { dst := Option.some 42, op := Op.move (Operand.tmp 6), type := 63, pos := "page.go:163", after := #[], guard := Option.none }) rfl (by kernel_rfl) (by kernel_rfl) (by kernel_rfl) (fun _ _ _ h => h) (Or.inl ⟨by rfl, _⟩) (by assumption) _
          rotate_left
          · (intro wS hSw; (try dsimp only at hSw); go_simp; try with_reducible rfl)
          try simp only [Act.put, List.setIfInBounds_toArray, List.set_cons_zero, List.set_cons_succ]
          refine' wpAnyH_take (i := 1) (oi := { dst := Option.some 43, op := Op.nilCheck (Operand.tmp 42), type := 0, pos := "page.go:163", after := #[{ on := 0, ground := Ground.data }], guard := Option.none }) rfl (by kernel_rfl) (by kernel_rfl) (by kernel_rfl) (fun _ _ _ h => h) (Or.inl ⟨by rfl, _⟩) (by assumption) _
          rotate_left
          · (intro wS hSw; (try dsimp only at hSw); go_simp; try with_reducible rfl)
          try simp only [Act.put, List.setIfInBounds_toArray, List.set_cons_zero, List.set_cons_succ]
          refine' wpAnyH_take (i := 2) (oi := { dst := Option.some 44, op := Op.fieldAddr 86 (Operand.tmp 43) 1, type := 0, pos := "page.go:163", after := #[{ on := 1, ground := Ground.data }], guard := Option.none }) rfl (by kernel_rfl) (by kernel_rfl) (by kernel_rfl) (fun _ _ _ h => h) (Or.inl ⟨by rfl, _⟩) (by assumption) _
          rotate_left
          · (intro wS hSw; (try dsimp only at hSw); go_simp; try with_reducible rfl)
          try simp only [Act.put, List.setIfInBounds_toArray, List.set_cons_zero, List.set_cons_succ]
          refine' wpAnyH_take (i := 3) (oi := { dst := Option.some 45, op := Op.load 84 (Operand.tmp 44), type := 84, pos := "page.go:163", after := #[{ on := 2, ground := Ground.data }], guard := Option.none }) rfl (by kernel_rfl) (by kernel_rfl) (by kernel_rfl) (fun _ _ _ h => h) (Or.inl ⟨by rfl, _⟩) (by assumption) _
          rotate_left
          · (intro wS hSw; (try dsimp only at hSw); go_simp; try with_reducible rfl)
          try simp only [Act.put, List.setIfInBounds_toArray, List.set_cons_zero, List.set_cons_succ]
          refine' wpAnyH_take (i := 4) (oi := { dst := Option.some 46, op := Op.fieldAddr 28 (Operand.tmp 8) 1, type := 0, pos := "page.go:163", after := #[], guard := Option.none }) rfl (by kernel_rfl) (by kernel_rfl) (by kernel_rfl) (fun _ _ _ h => h) (Or.inl ⟨by rfl, _⟩) (by assumption) _
          rotate_left
          · (intro wS hSw; (try dsimp only at hSw); go_simp; try with_reducible rfl)
          try simp only [Act.put, List.setIfInBounds_toArray, List.set_cons_zero, List.set_cons_succ]
          refine' wpAnyH_take (i := 5) (oi := { dst := Option.some 47, op := Op.load 25 (Operand.tmp 46), type := 25, pos := "page.go:163", after := #[{ on := 4, ground := Ground.data }], guard := Option.none }) rfl (by kernel_rfl) (by kernel_rfl) (by kernel_rfl) (fun _ _ _ h => h) (Or.inl ⟨by rfl, _⟩) (by assumption) _
          rotate_left
          · (intro wS hSw; (try dsimp only at hSw); go_simp; try with_reducible rfl)
          try simp only [Act.put, List.setIfInBounds_toArray, List.set_cons_zero, List.set_cons_succ]
          refine' wpAnyH_take (i := 6) (oi := { dst := Option.some 48, op := Op.load 28 (Operand.tmp 8), type := 28, pos := "page.go:163", after := #[], guard := Option.none }) rfl (by kernel_rfl) (by kernel_rfl) (by kernel_rfl) (fun _ _ _ h => h) (Or.inl ⟨by rfl, _⟩) (by assumption) _
          rotate_left
          · (intro wS hSw; (try dsimp only at hSw); go_simp; try with_reducible rfl)
          try simp only [Act.put, List.setIfInBounds_toArray, List.set_cons_zero, List.set_cons_succ]
          refine wpAnyH_ready (rs := [7]) (by kernel_rfl) (by simp) ?_
          refine AllReadyH.cons (o := { dst := Option.none, op := Op.mapUpdate 84 (Operand.tmp 45) (Operand.tmp 47) (Operand.tmp 48), type := 0, pos := "page.go:163", after := #[{ on := 3, ground := Ground.data }, { on := 5, ground := Ground.data }, { on := 6, ground := Ground.data }, { on := 0, ground := Ground.phase }, { on := 1, ground := Ground.phase }, { on := 2, ground := Ground.phase }, { on := 3, ground := Ground.phase }, { on := 4, ground := Ground.phase }, { on := 5, ground := Ground.phase }, { on := 6, ground := Ground.phase }], guard := Option.none }) rfl (fun K hK => ?_) AllReadyH.nil
          (set_option maxRecDepth 100000 in refine step_of rfl (wp_storeP w5.drew _ _ _ rfl mb k g rfl D5.out.m (by omega) p.n rfl hpok.2.1 p rfl ?_); intro w6 hm6 hg6; have T6 := Lib.hid (D5.out.stored hm6 hg6); have P6 := (hg6.block pb (heap_lt P5d.out) (by simp; omega)).trans P5d.out; obtain ⟨y0, y1, y2, y3, _⟩ := blk4 P6)
          refine hK.out _ _ ?_ (fun hHeld => ?_)
          · exact ⟨T6.out.s.cells.2.2, y0, y1, y2, y3⟩
          clear hK K
          try simp only [Act.put, List.setIfInBounds_toArray, List.set_cons_zero, List.set_cons_succ]
          refine wpAnyH_done (by kernel_rfl) ?_ _
          clear hHeld s0 s1 s2 q0 q1 q2 q3 y0 y1 y2 y3 P6 hm6 hg6 D5 P5d T5 P5
          go_wp2_with fail
          exact ⟨⟨k + 1, _, by omega, T6, hrc, by go_num⟩, by simp [intOf]; omega⟩
      · have d0 : (C != 0) = true := by rw [bne_iff_ne]; exact hC0
        have hrc : (none, C) = (r, c) := by
          rw [← HR2.out, shelfC, if_pos (by rw [HC.out]; exact hC0), HC.out]
        obtain ⟨rfl, rfl⟩ := Prod.mk.inj hrc
        clear hrc
        go_wp2_with fail
        go_ret2
        exact ⟨T4.out.bel, rfl⟩
    · obtain rfl : k = l.length := by omega
      have dk : decide (l.length < l.length) = false := decide_eq_false (by omega)
      have hrc : (some g, 0) = (r, c) := by
        rw [← HR.out, List.drop_of_length_le (Nat.le_refl _)]; rfl
      obtain ⟨rfl, rfl⟩ := Prod.mk.inj hrc
      clear hrc HR
      go_wp2_with fail
      go_ret2
      exact ⟨TN.out.bel, S, mb, rfl, TN.out.s, TN.out.m, TN.out.lo, Nat.le_of_lt TN.out.lm, TN.out.ne⟩
end Go.Proofs.Ytfhfeaipdmcekaa
