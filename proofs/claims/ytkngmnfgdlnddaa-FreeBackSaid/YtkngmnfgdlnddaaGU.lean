/-
  The walk of free.Read over the law's Book.
-/
import Derived.Test.YtkngmnfgdlnddaaGT
import Derived.Test.YtkngmnfgdlnddaaFrFa
import Derived.Test.YtkngmnfgdlnddaaGI
set_option linter.unusedSimpArgs false
set_option linter.unusedVariables false
namespace Go.Proofs.Ytkngmnfgdlnddaa
open Go.RowKit Go.Lib Hw Go.Maps
set_option linter.unusedSimpArgs false
set_option linter.unusedVariables false

/-- what Read tells: a refusal or a chain -/
def readG (a b : Int) (ps : List Pg) (err : Int) (count : Nat) : Nat → Nat → List (Nat × List Nat) → Int ⊕ List (Nat × List Nat)
  | 0, _, _ => .inl 8
  | f + 1, no, acc => if no = 0 then .inr acc else match findP ps no with
    | none => .inl err
    | some p => if p.kind = 3 then (if fromB a b p.body = true then (if chkI a b (acc ++ [(no, numsOf p.body (cntOf p.body))]) count = 0 then readG a b ps err count f (nextOf p.body) (acc ++ [(no, numsOf p.body (cntOf p.body))]) else .inl 8) else .inl 8) else .inl 8
def ReadPost (r : Int ⊕ List (Nat × List Nat)) (w : World) (e : Ending) (w' : World) : Prop := Below w.heap.size w w' ∧ match r with
  | .inl k => e = .returned (.tuple #[.slice none 0 0, .int .i64 k])
  | .inr cs => ∃ v bs, e = .returned (.tuple #[v, .int .i64 0]) ∧ OwnC w' w.heap.size v bs ∧ Dealt w' w.heap.size v bs cs
/-- a chain that is right has few batches -/
theorem chk_len {a b : Int} {cs : List (Nat × List Nat)} {count : Nat} (h : chkI a b cs count = 0) : cs.length ≤ 65536 ∧ ∀ c ∈ cs, c.2.length ≤ 65536 ∧ c.1 < 4294967296 ∧ All4 c.2 := by
  unfold chkI at h
  split at h
  · rename_i hm
    simp only [Bool.and_eq_true, decide_eq_true_eq] at hm
    cases hs : seenGo (entI a b) count cs [] with
    | none => rw [hs] at h; cases h
    | some r =>
      obtain ⟨h1, h2, h3, h4⟩ := seenGo_some cs [] r hs
      have hM := h2 ⟨List.nodup_nil, fun x hx => by simp at hx⟩
      rw [h1, List.append_nil] at hM
      have hnd : (flat cs).Nodup := (List.reverse_perm (flat cs)).nodup_iff.1 hM.1
      have hln := nodup_le (flat cs) (List.range count) hnd (fun x hx => List.mem_range.2 (h3 x hx).2)
      rw [List.length_range] at hln
      have key : ∀ (l : List (Nat × List Nat)), l.length ≤ (flat l).length ∧ ∀ c ∈ l, c.2.length ≤ (flat l).length := by
        intro l
        induction l with
        | nil => exact ⟨Nat.le_refl _, fun c hc => by simp at hc⟩
        | cons c r ih =>
          have e : (flat (c :: r)).length = 1 + c.2.length + (flat r).length := by show (c.1 :: c.2 ++ flat r).length = _; simp; omega
          refine ⟨by rw [List.length_cons]; omega, fun d hd => ?_⟩
          rcases List.mem_cons.1 hd with rfl | hd
          · omega
          · have := ih.2 d hd; omega
      have hk := key cs
      refine ⟨by omega, fun c hc => ?_⟩
      have hin : ∀ x ∈ c.1 :: c.2, x < 65536 := fun x hx => by have := (h3 x (List.mem_flatMap.2 ⟨c, hc, hx⟩)).2; omega
      refine ⟨by have := hk.2 c hc; omega, by have := hin c.1 (List.mem_cons_self ..); omega, fun x hx => by have := hin x (List.mem_cons_of_mem _ hx); omega⟩
  · cases h
theorem methPage (a : Addr) (w : World) : Sem.run Try.prog (method 196 88 (.pointer (some a)) "Page") w = .ok (133, .pointer (some a)) w := by kernel_rfl
set_option maxRecDepth 5000 in
set_option maxHeartbeats 8000000 in
theorem Read_nilp (a b : Int) (first count : Nat) (w : World) : Calls Try.prog 47 #[.agg #[.int .i64 a, .int .i64 b], .nilIface, .int .u32 (first : Int), .int .u32 (count : Int)] w fun e w' => e = .returned (.tuple #[.slice none 0 0, .int .i64 1]) ∧ Below w.heap.size w w' := by
  obtain ⟨N, hN⟩ : ∃ N, w.heap.size = N := ⟨_, rfl⟩
  have HN := Lib.hid hN
  rw [hN]
  clear hN
  go_enter Try.func47, Try.ntmps47
  go_upto_region 0 with fail
  with_reducible refine wp_region_list ?_
  refine wpList_boxB rfl _ _ rfl N HN.out #[.int .i64 a, .int .i64 b] rfl ?_
  intro w1 e1 b1 z1
  (try simp only [Act.put, nA, nB, nC])
  (with_reducible refine wpList_plain rfl ?_); intro K hK; go_simp; (with_reducible refine hK _ _ ?_); clear hK K; try simp only [Act.put, nA, nB, nC]
  (with_reducible refine wpList_plain rfl ?_); intro K hK; go_simp; (with_reducible refine hK _ _ ?_); clear hK K; try simp only [Act.put, nA, nB, nC]
  have B1 := Lib.hid b1
  clear e1 b1 z1
  go_wp2_with fail
  go_ret2
  exact ⟨rfl, B1.out⟩
theorem fb_yes {a b : Int} {s : ByteArray} (h : fromB a b s = true) : fbN a b s = nextOf s ∧ fbX a b s = numsOf s (cntOf s) ∧ fbE a b s = 0 := by
  unfold fbN fbX fbE
  rw [if_pos h, if_pos h, if_pos h]
  exact ⟨rfl, rfl, rfl⟩
theorem fb_no {a b : Int} {s : ByteArray} (hm : mayB a b = true) (h : ¬ fromB a b s = true) : fbN a b s = 0 ∧ fbX a b s = [] ∧ fbE a b s = 90 := by
  unfold fbN fbX fbE
  rw [if_neg h, if_neg h, if_neg h, if_pos hm]
  exact ⟨rfl, rfl, rfl⟩
def readF (a b : Int) (ps : List Pg) (err : Int) (first count : Nat) : Int ⊕ List (Nat × List Nat) := if mayB a b && (decide (2 ≤ count) && decide (count ≤ 65536)) then readG a b ps err count 65538 first [] else .inl 2
def sliceLen (v : Value) : Nat := match v with | .slice _ n _ => n | _ => 0
def PgOk (ps : List Pg) : Prop := ∀ p ∈ ps, p.no < 4294967296 ∧ p.body.size ≤ 140737488351232 ∧ p.kind < 256
set_option maxRecDepth 5000 in
set_option maxHeartbeats 16000000 in
theorem RdBook_any (a b : Int) (p : Nat) (lv : Value) (ps : List Pg) (err : Int) (first count : Nat) (w : World) (hb : Hid (w.heap[p]? = some (.cells #[lv, .int .i64 err] 84 (0, 0)))) (hv : Hid (PRow w lv ps)) (hps : Hid (PgOk ps)) (herr : err ≠ 0) (hf : first < 4294967296) (hc : count < 4294967296) :
    Calls Try.prog 47 #[.agg #[.int .i64 a, .int .i64 b], .iface 88 (.pointer (some ⟨p, 0, none⟩)), .int .u32 (first : Int), .int .u32 (count : Int)] w (ReadPost (readF a b ps err first count) w) := by
  obtain ⟨N, hN⟩ : ∃ N, w.heap.size = N := ⟨_, rfl⟩
  have HN := Lib.hid hN
  obtain ⟨F, hF⟩ : ∃ F, readF a b ps err first count = F := ⟨_, rfl⟩
  have HF := Lib.hid hF
  rw [hF]
  have HNo : Hid (∀ k W, F = .inl k → Below N w W → ReadPost F w (.returned (.tuple #[.slice none 0 0, .int .i64 k])) W) := fun k W h1 h2 => by
    rw [h1]
    exact ⟨by rw [hN]; exact h2, rfl⟩
  have HYes : Hid (∀ cs v bs W, F = .inr cs → Below N w W → OwnC W N v bs → Dealt W N v bs cs → ReadPost F w (.returned (.tuple #[v, .int .i64 0])) W) := fun cs v bs W h1 h2 h3 h4 => by
    rw [h1]
    exact ⟨by rw [hN]; exact h2, v, bs, rfl, by rw [hN]; exact h3, by rw [hN]; exact h4⟩
  obtain ⟨R, hR⟩ : ∃ R, ReadPost F w = R := ⟨_, rfl⟩
  rw [hR] at HNo HYes ⊢
  have hpN : p < N := by rw [← hN]; exact heap_lt hb.out
  obtain ⟨q1, hq1⟩ : ∃ q, mayB a b = q := ⟨_, rfl⟩
  have H1 := Lib.hid hq1
  clear hN hF hR hq1
  go_enter Try.func47, Try.ntmps47
  go_upto_region 0 with fail
  with_reducible refine wp_region_list ?_
  refine wpList_boxB rfl _ _ rfl N HN.out #[.int .i64 a, .int .i64 b] rfl ?_
  intro w0 e0 b0 z0
  (try simp only [Act.put, nA, nB, nC])
  (with_reducible refine wpList_plain rfl ?_); intro K hK; go_simp; (with_reducible refine hK _ _ ?_); clear hK K; try simp only [Act.put, nA, nB, nC]
  (with_reducible refine wpList_plain rfl ?_); intro K hK; go_simp; (with_reducible refine hK _ _ ?_); clear hK K; try simp only [Act.put, nA, nB, nC]
  have B0 := Lib.hid b0
  have E0 := Lib.hid e0
  have k0 := heap_cell e0 (o := 0)
  have k1 := heap_cell e0 (o := 1)
  have hz0 : N < w0.heap.size := heap_lt e0
  clear b0 e0 z0
  go_upto_region 3 with fail
  with_reducible refine wp_region_list ?_
  (with_reducible refine wpList_plain rfl ?_); intro K hK; go_simp; (with_reducible refine hK _ _ ?_); clear hK K; try simp only [Act.put, nA, nB, nC]
  with_reducible refine wpList_plain rfl ?_
  intro K hK
  go_simp
  refine (Right_any a b w0).mono ?_; rintro e w1 ⟨rfl, b1⟩; rw [H1.out]
  first | with_reducible refine hK _ _ ?_ | refine hK _ _ ?_
  clear hK K
  (try simp only [Act.put, nA, nB, nC])
  (with_reducible refine wpList_plain rfl ?_); intro K hK; go_simp; (with_reducible refine hK _ _ ?_); clear hK K; try simp only [Act.put, nA, nB, nC]
  (with_reducible refine wpList_plain rfl ?_); intro K hK; go_simp; (with_reducible refine hK _ _ ?_); clear hK K; try simp only [Act.put, nA, nB, nC]
  have B1 : Hid (Below N w w1) := B0.out.trans (b1.mono (by omega))
  have e1 := heap_below E0.out b1 hz0
  have E1 := Lib.hid e1
  have hz1 : N < w1.heap.size := heap_lt e1
  clear b1 k0 k1 B0 E0 hz0 e1
  cases q1
  case false =>
    have hfF : F = .inl 2 := by rw [← HF.out]; unfold readF; rw [H1.out]; rfl
    have hf2 := Lib.hid (HNo.out 2 w1 hfF B1.out)
    clear hfF
    (with_reducible refine wpList_step ?_); intro K hK; rw [if_neg (Bool.eq_false_iff.1 (by rfl))]; (with_reducible refine hK _ _ ?_); clear hK K; try simp only [Act.put, nA, nB, nC]
    (with_reducible refine wpList_step ?_); intro K hK; rw [if_neg (Bool.eq_false_iff.1 (by rfl))]; (with_reducible refine hK _ _ ?_); clear hK K; try simp only [Act.put, nA, nB, nC]
    (with_reducible refine wpList_plain rfl ?_); intro K hK; go_simp; (with_reducible refine hK _ _ ?_); clear hK K; try simp only [Act.put, nA, nB, nC]
    (with_reducible refine wpList_plain rfl ?_); intro K hK; go_simp; (with_reducible refine hK _ _ ?_); clear hK K; try simp only [Act.put, nA, nB, nC]
    (with_reducible refine wpList_step ?_); intro K hK; rw [if_neg (Bool.eq_false_iff.1 (by rfl))]; (with_reducible refine hK _ _ ?_); clear hK K; try simp only [Act.put, nA, nB, nC]
    (with_reducible refine wpList_step ?_); intro K hK; rw [if_neg (Bool.eq_false_iff.1 (by rfl))]; (with_reducible refine hK _ _ ?_); clear hK K; try simp only [Act.put, nA, nB, nC]
    (with_reducible refine wpList_plain rfl ?_); intro K hK; go_simp; (with_reducible refine hK _ _ ?_); clear hK K; try simp only [Act.put, nA, nB, nC]
    go_wp2_with fail
    exact hf2.out
  case true =>
    by_cases h2 : count < 2
    case pos =>
      have y1 : decide ((count : Int) < 2) = true := decide_eq_true (by omega)
      have y2 : decide (count < 2) = true := decide_eq_true h2
      have hfF : F = .inl 2 := by rw [← HF.out]; unfold readF; rw [H1.out, decide_eq_false (show ¬ 2 ≤ count by omega)]; rfl
      have hf2 := Lib.hid (HNo.out 2 w1 hfF B1.out)
      clear hfF h2
      (with_reducible refine wpList_step ?_); intro K hK; rw [if_pos (by rfl)]; go_simp; (with_reducible refine hK _ _ ?_); clear hK K; try simp only [Act.put, nA, nB, nC]
      (with_reducible refine wpList_step ?_); intro K hK; rw [if_pos (by rfl)]; go_simp; (with_reducible refine hK _ _ ?_); clear hK K; try simp only [Act.put, nA, nB, nC]
      (with_reducible refine wpList_plain rfl ?_); intro K hK; go_simp; (with_reducible refine hK _ _ ?_); clear hK K; try simp only [Act.put, nA, nB, nC]
      (with_reducible refine wpList_plain rfl ?_); intro K hK; go_simp; (with_reducible refine hK _ _ ?_); clear hK K; try simp only [Act.put, nA, nB, nC]
      (with_reducible refine wpList_step ?_); intro K hK; rw [if_neg (Bool.eq_false_iff.1 (by rfl))]; (with_reducible refine hK _ _ ?_); clear hK K; try simp only [Act.put, nA, nB, nC]
      (with_reducible refine wpList_step ?_); intro K hK; rw [if_neg (Bool.eq_false_iff.1 (by rfl))]; (with_reducible refine hK _ _ ?_); clear hK K; try simp only [Act.put, nA, nB, nC]
      (with_reducible refine wpList_plain rfl ?_); intro K hK; go_simp; (with_reducible refine hK _ _ ?_); clear hK K; try simp only [Act.put, nA, nB, nC]
      clear y1 y2
      go_wp2_with fail
      exact hf2.out
    case neg =>
      have y1 : decide ((count : Int) < 2) = false := decide_eq_false (by omega)
      have y2 : decide (count < 2) = false := decide_eq_false h2
      by_cases h3 : count ≤ 65536
      case neg =>
        have y3 : decide ((65536 : Int) < (count : Int)) = true := decide_eq_true (by omega)
        have y4 : decide (65536 < count) = true := decide_eq_true (by omega)
        have hfF : F = .inl 2 := by rw [← HF.out]; unfold readF; rw [H1.out, decide_eq_false h3, Bool.and_false]; rfl
        have hf2 := Lib.hid (HNo.out 2 w1 hfF B1.out)
        clear hfF h2 h3
        (with_reducible refine wpList_step ?_); intro K hK; rw [if_pos (by rfl)]; go_simp; (with_reducible refine hK _ _ ?_); clear hK K; try simp only [Act.put, nA, nB, nC]
        (with_reducible refine wpList_step ?_); intro K hK; rw [if_pos (by rfl)]; go_simp; (with_reducible refine hK _ _ ?_); clear hK K; try simp only [Act.put, nA, nB, nC]
        (with_reducible refine wpList_plain rfl ?_); intro K hK; go_simp; (with_reducible refine hK _ _ ?_); clear hK K; try simp only [Act.put, nA, nB, nC]
        (with_reducible refine wpList_plain rfl ?_); intro K hK; go_simp; (with_reducible refine hK _ _ ?_); clear hK K; try simp only [Act.put, nA, nB, nC]
        (with_reducible refine wpList_step ?_); intro K hK; rw [if_pos (by rfl)]; go_simp; (with_reducible refine hK _ _ ?_); clear hK K; try simp only [Act.put, nA, nB, nC]
        (with_reducible refine wpList_step ?_); intro K hK; rw [if_pos (by rfl)]; go_simp; (with_reducible refine hK _ _ ?_); clear hK K; try simp only [Act.put, nA, nB, nC]
        (with_reducible refine wpList_plain rfl ?_); intro K hK; go_simp; (with_reducible refine hK _ _ ?_); clear hK K; try simp only [Act.put, nA, nB, nC]
        clear y1 y2 y3 y4
        go_wp2_with fail
        exact hf2.out
      case pos =>
        have y3 : decide ((65536 : Int) < (count : Int)) = false := decide_eq_false (by omega)
        have y4 : decide (65536 < count) = false := decide_eq_false (by omega)
        have hFG : Hid (F = readG a b ps err count 65538 first []) := by
          show _ = _
          rw [← HF.out]
          unfold readF
          rw [H1.out, decide_eq_true (show 2 ≤ count by omega), decide_eq_true h3]
          rfl
        have H3 := Lib.hid h3
        clear h2 h3
        (with_reducible refine wpList_step ?_); intro K hK; rw [if_pos (by rfl)]; go_simp; (with_reducible refine hK _ _ ?_); clear hK K; try simp only [Act.put, nA, nB, nC]
        (with_reducible refine wpList_step ?_); intro K hK; rw [if_pos (by rfl)]; go_simp; (with_reducible refine hK _ _ ?_); clear hK K; try simp only [Act.put, nA, nB, nC]
        (with_reducible refine wpList_plain rfl ?_); intro K hK; go_simp; (with_reducible refine hK _ _ ?_); clear hK K; try simp only [Act.put, nA, nB, nC]
        (with_reducible refine wpList_plain rfl ?_); intro K hK; go_simp; (with_reducible refine hK _ _ ?_); clear hK K; try simp only [Act.put, nA, nB, nC]
        (with_reducible refine wpList_step ?_); intro K hK; rw [if_pos (by rfl)]; go_simp; (with_reducible refine hK _ _ ?_); clear hK K; try simp only [Act.put, nA, nB, nC]
        (with_reducible refine wpList_step ?_); intro K hK; rw [if_pos (by rfl)]; go_simp; (with_reducible refine hK _ _ ?_); clear hK K; try simp only [Act.put, nA, nB, nC]
        (with_reducible refine wpList_plain rfl ?_); intro K hK; go_simp; (with_reducible refine hK _ _ ?_); clear hK K; try simp only [Act.put, nA, nB, nC]
        clear y1 y2 y3 y4
        obtain ⟨M, hM⟩ : ∃ M, w1.heap.size = M := ⟨_, rfl⟩
        have HM := Lib.hid hM
        rw [hM] at hz1
        clear hM
        go_upto_region 7 with fail
        go_loopw [10, 11] (fun cv nv wr => ∃ (no : Nat) (acc : List (Nat × List Nat)) (va : Option Addr) (vn vc : Nat) (bs : List (Nat × Value)), Hid (vn = acc.length) ∧ Hid (F = readG a b ps err count (65538 - acc.length) no acc) ∧ no < 4294967296 ∧ acc.length ≤ 65536 ∧ Hid (∀ c ∈ acc, c.1 < 4294967296 ∧ All4 c.2) ∧ Hid (OwnC wr M (.slice va vn vc) bs) ∧ Hid (Dealt wr M (.slice va vn vc) bs acc) ∧ Hid (Below M w1 wr) ∧ M ≤ wr.heap.size ∧ cv = .slice va vn vc ∧ nv = .int .u32 (no : Int)) (fun cv _ _ => 65538 - sliceLen cv)
        case atStart => exact ⟨first, [], none, 0, 0, [], rfl, hFG, hf, by simp, fun c hc => by simp at hc, OwnC.nil _ _, Dealt.nil _ _ _, Below.refl _ _, by rw [HM.out]; exact Nat.le_refl _, rfl, rfl⟩
        case round =>
          obtain ⟨no, acc, va, vn, vc, bs, HVN, HG, hno, hal, HA, HO, HD, HB, hzr, rfl, rfl⟩ := hrel
          have HBN : Hid (Below N w wr) := B1.out.trans (HB.out.mono (by omega))
          obtain ⟨fu, hfu⟩ : ∃ k, 65538 - acc.length = k + 1 := ⟨65537 - acc.length, by omega⟩
          have hg := HG.out
          rw [hfu, readG] at hg
          have HFU := Lib.hid hfu
          by_cases hn0 : no = 0
          case pos =>
            have y1 : ((no : Int) != 0) = false := by simp [hn0]
            have y2 : (no != 0) = false := by simp [hn0]
            rw [if_pos hn0] at hg
            have hf2 := Lib.hid (HYes.out acc _ bs wr hg HBN.out (HO.out.mono (by omega)) (HD.out.mono (by omega)))
            clear hn0 hg hfu hFG
            go_wp2_with fail
            exact hf2.out
          case neg =>
            have y1 : ((no : Int) != 0) = true := by simp; omega
            have y2 : (no != 0) = true := by simp [hn0]
            rw [if_neg hn0] at hg
            have hinv := methPage
            obtain ⟨fo, hfo⟩ : ∃ o, findP ps no = o := ⟨_, rfl⟩
            rw [hfo] at hg
            have HBP := Lib.hid (BookPage_any p lv ps err no wr (heap_below hb.out HBN.out hpN) (PRow.below hv.out (by rw [HN.out]; exact HBN.out)) hno (fun x hx => (hps.out x hx).1))
            rw [hfo] at HBP
            have hfm : ∀ x, fo = some x → x ∈ ps := fun x hx => by rw [hx] at hfo; exact List.mem_of_find?_eq_some hfo
            have HFM := Lib.hid hfm
            have HGG := Lib.hid hg
            clear hn0 hg hfo hFG HG hfm hfu
            go_upto_region 8 with fail
            with_reducible refine wp_region_list ?_
            (with_reducible refine wpList_plain rfl ?_); intro K hK; go_simp; (with_reducible refine hK _ _ ?_); clear hK K; try simp only [Act.put, nA, nB, nC]
            (with_reducible refine wpList_plain rfl ?_); intro K hK; go_simp; (with_reducible refine hK _ _ ?_); clear hK K; try simp only [Act.put, nA, nB, nC]
            with_reducible refine wpList_plain rfl ?_
            intro K hK
            go_simp
            refine HBP.out.mono ?_; rintro e w2 ⟨rfl, b2⟩
            first | with_reducible refine hK _ _ ?_ | refine hK _ _ ?_
            clear hK K
            (try simp only [Act.put, nA, nB, nC])
            clear hinv HBP
            have B2 : Hid (Below M w1 w2) := HB.out.trans (b2.mono hzr)
            have hz2 : M ≤ w2.heap.size := by have := b2.size; omega
            have O2 := Lib.hid (HO.out.below b2 (fun q hq => (HO.out.lt q hq).2))
            have D2 := Lib.hid (HD.out.below b2)
            clear b2 HO HD HB HBN
            obtain ⟨T, hT⟩ : ∃ T, w2.heap.size = T := ⟨_, rfl⟩
            cases fo with
            | none =>
              simp only [bookV]
              (with_reducible refine wpList_plain rfl ?_); intro K hK; go_simp; (with_reducible refine hK _ _ ?_); clear hK K; try simp only [Act.put, nA, nB, nC]
              (with_reducible refine wpList_plain rfl ?_); intro K hK; go_simp; (with_reducible refine hK _ _ ?_); clear hK K; try simp only [Act.put, nA, nB, nC]
              (with_reducible refine wpList_plain rfl ?_); intro K hK; go_simp; (with_reducible refine hK _ _ ?_); clear hK K; try simp only [Act.put, nA, nB, nC]
              refine wpList_allocB rfl 97 rfl T hT (.agg #[.int .u8 0, .int .u32 0, .int .u64 0, .string ⟨#[]⟩]) (fun _ => by kernel_rfl) ?_
              intro w3 e3 b3 z3
              (try simp only [Act.put, nA, nB, nC])
              refine wpList_storeB rfl 97 _ _ rfl T Pg.zero.cells.toArray rfl rfl 97 _ e3 (by kernel_rfl) rfl (by simp [Pg.cells, Pg.zero, Value.oneCell']) ?_
              intro w4 e4 m4
              (try simp only [Act.put, nA, nB, nC])
              (with_reducible refine wpList_plain rfl ?_); intro K hK; go_simp; (with_reducible refine hK _ _ ?_); clear hK K; try simp only [Act.put, nA, nB, nC]
              have b4 : Below T w2 w4 := b3.trans (m4.below (n := T) (fun q hq hs => by omega) (by omega))
              have hg2 : F = .inl err := HGG.out
              have hf2 := Lib.hid (HNo.out err w4 hg2 (B1.out.trans ((B2.out.trans (b4.mono (by omega))).mono (by omega))))
              have y3 : (err != 0) = true := by simp [herr]
              clear e3 b3 z3 e4 m4 b4 hg2 y1 y2
              go_wp2_with fail
              exact hf2.out
            | some pg =>
              simp only [bookV]
              have hpg := hps.out pg (HFM.out pg rfl)
              (with_reducible refine wpList_plain rfl ?_); intro K hK; go_simp; (with_reducible refine hK _ _ ?_); clear hK K; try simp only [Act.put, nA, nB, nC]
              (with_reducible refine wpList_plain rfl ?_); intro K hK; go_simp; (with_reducible refine hK _ _ ?_); clear hK K; try simp only [Act.put, nA, nB, nC]
              (with_reducible refine wpList_plain rfl ?_); intro K hK; go_simp; (with_reducible refine hK _ _ ?_); clear hK K; try simp only [Act.put, nA, nB, nC]
              refine wpList_allocB rfl 97 rfl T hT (.agg #[.int .u8 0, .int .u32 0, .int .u64 0, .string ⟨#[]⟩]) (fun _ => by kernel_rfl) ?_
              intro w3 e3 b3 z3
              (try simp only [Act.put, nA, nB, nC])
              refine wpList_storeB rfl 97 _ _ rfl T pg.cells.toArray rfl rfl 97 _ e3 (by kernel_rfl) rfl (by simp [Pg.cells, Value.oneCell']) ?_
              intro w4 e4 m4
              (try simp only [Act.put, nA, nB, nC])
              (with_reducible refine wpList_plain rfl ?_); intro K hK; go_simp; (with_reducible refine hK _ _ ?_); clear hK K; try simp only [Act.put, nA, nB, nC]
              have b4 : Below T w2 w4 := b3.trans (m4.below (n := T) (fun q hq hs => by omega) (by omega))
              have b4' : Below w2.heap.size w2 w4 := by rw [hT]; exact b4
              have B4 : Hid (Below M w1 w4) := B2.out.trans (b4'.mono hz2)
              have O4 := Lib.hid (O2.out.below b4' (fun q hq => (O2.out.lt q hq).2))
              have D4 := Lib.hid (D2.out.below b4')
              have hz4 : M ≤ w4.heap.size := by have := b4'.size; omega
              have d0 := heap_cell e4 (o := 0)
              have d3 := heap_cell e4 (o := 3)
              simp only [Pg.cells] at d0 d3
              have T4 := Lib.hid e4
              have E4 := Lib.hid (heap_below E1.out B4.out hz1)
              have BN4 : Hid (Below N w w4) := B1.out.trans (B4.out.mono (by omega))
              have hzT : T < w4.heap.size := heap_lt e4
              clear e3 b3 z3 e4 m4 b4 b4' O2 D2 B2 hT hz2
              have hgg : F = if pg.kind = 3 then (if fromB a b pg.body = true then (if chkI a b (acc ++ [(no, numsOf pg.body (cntOf pg.body))]) count = 0 then readG a b ps err count fu (nextOf pg.body) (acc ++ [(no, numsOf pg.body (cntOf pg.body))]) else .inl 8) else .inl 8) else .inl 8 := HGG.out
              by_cases hk3 : pg.kind = 3
              case neg =>
                have y5 : ((pg.kind : Int) != 3) = true := by simp; omega
                have y6 : (pg.kind != 3) = true := by simp [hk3]
                rw [if_neg hk3] at hgg
                have hf2 := Lib.hid (HNo.out 8 w4 hgg BN4.out)
                clear hgg hk3 y1 y2
                go_wp2_with fail
                exact hf2.out
              case pos =>
                have y5 : ((pg.kind : Int) != 3) = false := by simp; omega
                have y6 : (pg.kind != 3) = false := by simp [hk3]
                rw [if_pos hk3] at hgg
                have HGG2 := Lib.hid hgg
                have k0 := heap_cell E4.out (o := 0)
                have k1 := heap_cell E4.out (o := 1)
                have HFB := Lib.hid (FromBody_uni a b pg.body w4 hpg.2.1)
                clear hgg hk3 y1 y2
                by_cases hfb : fromB a b pg.body = true
                case neg =>
                  obtain ⟨f1, f2, f3⟩ := fb_no H1.out hfb
                  rw [f1, f2, f3] at HFB
                  have hf3 : F = .inl 8 := by have h := HGG2.out; rw [if_neg hfb] at h; exact h
                  have HF3 := Lib.hid hf3
                  clear f1 f2 f3 hfb hf3
                  go_upto_region 13 with fail
                  clear y5 y6
                  with_reducible refine wp_region_list ?_
                  (with_reducible refine wpList_plain rfl ?_); intro K hK; go_simp; (with_reducible refine hK _ _ ?_); clear hK K; try simp only [Act.put, nA, nB, nC]
                  (with_reducible refine wpList_plain rfl ?_); intro K hK; go_simp; (with_reducible refine hK _ _ ?_); clear hK K; try simp only [Act.put, nA, nB, nC]
                  (with_reducible refine wpList_plain rfl ?_); intro K hK; go_simp; (with_reducible refine hK _ _ ?_); clear hK K; try simp only [Act.put, nA, nB, nC]
                  with_reducible refine wpList_plain rfl ?_
                  intro K hK
                  go_simp
                  refine HFB.out.mono ?_; rintro e w5 ⟨lv5, rfl, o5, b5⟩; obtain ⟨lad, lc5, hlv5, hq1, hq2, hq3⟩ := o5.shape; subst hlv5; clear hq1 hq2 hq3
                  first | with_reducible refine hK _ _ ?_ | refine hK _ _ ?_
                  clear hK K
                  (try simp only [Act.put, nA, nB, nC])
                  (with_reducible refine wpList_plain rfl ?_); intro K hK; go_simp; (with_reducible refine hK _ _ ?_); clear hK K; try simp only [Act.put, nA, nB, nC]
                  (with_reducible refine wpList_plain rfl ?_); intro K hK; go_simp; (with_reducible refine hK _ _ ?_); clear hK K; try simp only [Act.put, nA, nB, nC]
                  (with_reducible refine wpList_plain rfl ?_); intro K hK; go_simp; (with_reducible refine hK _ _ ?_); clear hK K; try simp only [Act.put, nA, nB, nC]
                  (with_reducible refine wpList_plain rfl ?_); intro K hK; go_simp; (with_reducible refine hK _ _ ?_); clear hK K; try simp only [Act.put, nA, nB, nC]
                  (with_reducible refine wpList_plain rfl ?_); intro K hK; go_simp; (with_reducible refine hK _ _ ?_); clear hK K; try simp only [Act.put, nA, nB, nC]
                  (with_reducible refine wpList_plain rfl ?_); intro K hK; go_simp; (with_reducible refine hK _ _ ?_); clear hK K; try simp only [Act.put, nA, nB, nC]
                  (with_reducible refine wpList_plain rfl ?_); intro K hK; go_simp; (with_reducible refine hK _ _ ?_); clear hK K; try simp only [Act.put, nA, nB, nC]
                  have hf2 := Lib.hid (HNo.out 8 w5 HF3.out (BN4.out.trans (b5.mono (by have := BN4.out.size; have := HN.out; omega))))
                  clear b5 o5 k0 k1 d0 d3
                  go_wp2_with fail
                  exact hf2.out
                case pos =>
                  obtain ⟨f1, f2, f3⟩ := fb_yes hfb
                  rw [f1, f2, f3] at HFB
                  have hf3 := HGG2.out
                  rw [if_pos hfb] at hf3
                  obtain ⟨nx, hnx⟩ : ∃ x, nextOf pg.body = x := ⟨_, rfl⟩
                  obtain ⟨xs, hxs⟩ : ∃ x, numsOf pg.body (cntOf pg.body) = x := ⟨_, rfl⟩
                  have hnxb : nx < 4294967296 := by rw [← hnx]; exact told4_lt _ _
                  have hxA : All4 xs := by rw [← hxs]; exact numsOf_all _ _
                  rw [hnx, hxs] at hf3 HFB
                  have HXA := Lib.hid hxA
                  have HF3 := Lib.hid hf3
                  clear f1 f2 f3 hfb hf3 hnx hxs hxA
                  go_upto_region 13 with fail
                  clear y5 y6
                  with_reducible refine wp_region_list ?_
                  (with_reducible refine wpList_plain rfl ?_); intro K hK; go_simp; (with_reducible refine hK _ _ ?_); clear hK K; try simp only [Act.put, nA, nB, nC]
                  (with_reducible refine wpList_plain rfl ?_); intro K hK; go_simp; (with_reducible refine hK _ _ ?_); clear hK K; try simp only [Act.put, nA, nB, nC]
                  (with_reducible refine wpList_plain rfl ?_); intro K hK; go_simp; (with_reducible refine hK _ _ ?_); clear hK K; try simp only [Act.put, nA, nB, nC]
                  with_reducible refine wpList_plain rfl ?_
                  intro K hK
                  go_simp
                  refine HFB.out.mono ?_; rintro e w5 ⟨lv5, rfl, o5, b5⟩; obtain ⟨lad, lc5, hlv5, hq1, hq2, hq3⟩ := o5.shape; obtain ⟨ln, hln⟩ : ∃ n, xs.length = n := ⟨_, rfl⟩; rw [hln] at hlv5; subst hlv5; clear hq1 hq2 hq3 hln
                  first | with_reducible refine hK _ _ ?_ | refine hK _ _ ?_
                  clear hK K
                  (try simp only [Act.put, nA, nB, nC])
                  (with_reducible refine wpList_plain rfl ?_); intro K hK; go_simp; (with_reducible refine hK _ _ ?_); clear hK K; try simp only [Act.put, nA, nB, nC]
                  (with_reducible refine wpList_plain rfl ?_); intro K hK; go_simp; (with_reducible refine hK _ _ ?_); clear hK K; try simp only [Act.put, nA, nB, nC]
                  (with_reducible refine wpList_plain rfl ?_); intro K hK; go_simp; (with_reducible refine hK _ _ ?_); clear hK K; try simp only [Act.put, nA, nB, nC]
                  (with_reducible refine wpList_plain rfl ?_); intro K hK; go_simp; (with_reducible refine hK _ _ ?_); clear hK K; try simp only [Act.put, nA, nB, nC]
                  (with_reducible refine wpList_plain rfl ?_); intro K hK; go_simp; (with_reducible refine hK _ _ ?_); clear hK K; try simp only [Act.put, nA, nB, nC]
                  (with_reducible refine wpList_plain rfl ?_); intro K hK; go_simp; (with_reducible refine hK _ _ ?_); clear hK K; try simp only [Act.put, nA, nB, nC]
                  (with_reducible refine wpList_plain rfl ?_); intro K hK; go_simp; (with_reducible refine hK _ _ ?_); clear hK K; try simp only [Act.put, nA, nB, nC]
                  have hzz4 : M ≤ w4.heap.size := hz4
                  clear k0 k1 d0 d3 HFB HGG2
                  go_upto_region 16 with fail
                  with_reducible refine wp_region_list ?_
                  (with_reducible refine wpList_plain rfl ?_); intro K hK; go_simp; (with_reducible refine hK _ _ ?_); clear hK K; try simp only [Act.put, nA, nB, nC]
                  (with_reducible refine wpList_plain rfl ?_); intro K hK; go_simp; (with_reducible refine hK _ _ ?_); clear hK K; try simp only [Act.put, nA, nB, nC]
                  (with_reducible refine wpList_plain rfl ?_); intro K hK; go_simp; (with_reducible refine hK _ _ ?_); clear hK K; try simp only [Act.put, nA, nB, nC]
                  (with_reducible refine wpList_plain rfl ?_); intro K hK; go_simp; (with_reducible refine hK _ _ ?_); clear hK K; try simp only [Act.put, nA, nB, nC]
                  (with_reducible refine wpList_plain rfl ?_); intro K hK; go_simp; (with_reducible refine hK _ _ ?_); clear hK K; try simp only [Act.put, nA, nB, nC]
                  obtain ⟨wa, hwa⟩ : ∃ W, w5.alloc (.cells #[.int .u32 (no : Int), .slice lad ln lc5] 64) = W := ⟨_, rfl⟩
                  have ba' : Below w5.heap.size w5 wa := by rw [← hwa]; exact (Below.refl _ _).alloc (Nat.le_refl _) _
                  have ha : wa.heap[w5.heap.size]? = some (.cells (bpair (no, .slice lad ln lc5)).toArray 64 (0, 0)) := by rw [← hwa]; exact heap_alloc_new w5 _
                  have O5 := O4.out.below b5 (fun g hg => (O4.out.lt g hg).2)
                  have Oa := O5.below ba' (fun g hg => (O5.lt g hg).2)
                  have hza : M ≤ wa.heap.size := by have := ba'.size; have := b5.size; omega
                  have hbl : (bs.length + 1) * 32 ≤ 140737488355328 := by obtain ⟨hh, _⟩ := D4.out; omega
                  rw [hwa]
                  with_reducible refine wpList_plain rfl ?_
                  intro K hK
                  refine wp_appC2 wa (no, .slice lad ln lc5) rfl _ _ rfl M (.slice va vn vc) bs rfl Oa w5.heap.size 1 rfl ha hbl hza ?_
                  intro v6 w6 O6 M6 F6
                  refine hK _ _ ?_
                  clear hK K
                  obtain ⟨ad6, cp6, hv6, hy1, hy2, hy3⟩ := O6.shape
                  clear hy1 hy2 hy3
                  have hbl2 : (bs ++ [(no, Value.slice lad ln lc5)]).length = (acc ++ [(no, xs)]).length := by obtain ⟨hh, _⟩ := D4.out; simp [hh]
                  obtain ⟨n6, hn6⟩ : ∃ n, (bs ++ [(no, Value.slice lad ln lc5)]).length = n := ⟨_, rfl⟩
                  have hn6' : n6 = (acc ++ [(no, xs)]).length := by rw [← hn6, hbl2]
                  rw [hn6] at hv6
                  subst hv6
                  have HN6p := Lib.hid hn6'
                  clear hn6 hn6' hbl2
                  (try simp only [Act.put, nA, nB, nC])
                  (with_reducible refine wpList_plain rfl ?_); intro K hK; go_simp; (with_reducible refine hK _ _ ?_); clear hK K; try simp only [Act.put, nA, nB, nC]
                  have O6H := Lib.hid O6
                  have B6 : Hid (Below M w1 w6) := (B4.out.trans ((b5.trans (ba'.mono b5.size)).mono hz4)).trans (M6.below (n := M) (fun j hj e => by have := (Oa.lt j e).1; omega) (by omega))
                  have hz6 : M ≤ w6.heap.size := Nat.le_trans hza M6.size
                  have D6 : Hid (Dealt w6 M (.slice ad6 n6 cp6) (bs ++ [(no, .slice lad ln lc5)]) (acc ++ [(no, xs)])) := D4.out.snoc hz4 O4.out b5 o5 ba' M6 F6
                  have A6 : Hid (∀ c ∈ acc ++ [(no, xs)], c.1 < 4294967296 ∧ All4 c.2) := fun c hc => by
                    rcases List.mem_append.1 hc with h | h
                    · exact HA.out c h
                    · rw [List.mem_singleton.1 h]; exact ⟨hno, HXA.out⟩
                  have R6 : Hid (CRow w6 (.slice ad6 n6 cp6) (acc ++ [(no, xs)])) := D6.out.row O6 A6.out
                  obtain ⟨acc2, hacc2⟩ : ∃ l, acc ++ [(no, xs)] = l := ⟨_, rfl⟩
                  have HAL2 : Hid (acc2.length = acc.length + 1) := by show _ = _; rw [← hacc2]; simp
                  rw [hacc2] at D6 A6 R6 HF3 HN6p
                  have HN6 : Hid (n6 = acc2.length) := HN6p
                  have O6X : Hid (OwnC w6 M (.slice ad6 n6 cp6) (bs ++ [(no, .slice lad ln lc5)])) := by
                    exact O6H.out
                  obtain ⟨bs2, hbs2⟩ : ∃ l, bs ++ [(no, Value.slice lad ln lc5)] = l := ⟨_, rfl⟩
                  rw [hbs2] at O6X D6
                  have E6 := Lib.hid (heap_below E1.out B6.out hz1)
                  have BN6 : Hid (Below N w w6) := B1.out.trans (B6.out.mono (by omega))
                  have hzN6 : N < w6.heap.size := heap_lt E6.out
                  have k0 := heap_cell E6.out (o := 0)
                  have k1 := heap_cell E6.out (o := 1)
                  clear O6 M6 F6 O5 Oa ba' ha hwa hza hbl b5 o5 O6H hbs2 hacc2 HN6p O4 D4 B4 E4 BN4 T4 hzT hzz4 HA
                  go_upto_region 17 with fail
                  with_reducible refine wp_region_list ?_
                  (with_reducible refine wpList_plain rfl ?_); intro K hK; go_simp; (with_reducible refine hK _ _ ?_); clear hK K; try simp only [Act.put, nA, nB, nC]
                  (with_reducible refine wpList_plain rfl ?_); intro K hK; go_simp; (with_reducible refine hK _ _ ?_); clear hK K; try simp only [Act.put, nA, nB, nC]
                  (with_reducible refine wpList_plain rfl ?_); intro K hK; go_simp; (with_reducible refine hK _ _ ?_); clear hK K; try simp only [Act.put, nA, nB, nC]
                  obtain ⟨ck, hck⟩ : ∃ k, chkI a b acc2 count = k := ⟨_, rfl⟩
                  rw [hck] at HF3
                  have HCK := Lib.hid hck
                  clear hck
                  with_reducible refine wpList_plain rfl ?_
                  intro K hK
                  go_simp
                  refine (Check_any a b count _ acc2 w6 hc R6).mono ?_; rintro e w7 ⟨rfl, b7⟩; rw [HCK.out]
                  first | with_reducible refine hK _ _ ?_ | refine hK _ _ ?_
                  clear hK K
                  (try simp only [Act.put, nA, nB, nC])
                  (with_reducible refine wpList_plain rfl ?_); intro K hK; go_simp; (with_reducible refine hK _ _ ?_); clear hK K; try simp only [Act.put, nA, nB, nC]
                  have B7 : Hid (Below M w1 w7) := B6.out.trans (b7.mono hz6)
                  have BN7 : Hid (Below N w w7) := BN6.out.trans (b7.mono (by omega))
                  have O7 := Lib.hid (O6X.out.below b7 (fun q hq => (O6X.out.lt q hq).2))
                  have D7 := Lib.hid (D6.out.below b7)
                  have hz7 : M ≤ w7.heap.size := by have := b7.size; omega
                  clear b7 B6 BN6 O6X D6 R6 E6 k0 k1
                  by_cases hc0 : ck = 0
                  case neg =>
                    have y8 : (ck != 0) = true := by simp [hc0]
                    have hf3 : F = .inl 8 := by have h := HF3.out; rw [if_neg hc0] at h; exact h
                    have hf2 := Lib.hid (HNo.out 8 w7 hf3 BN7.out)
                    clear hf3 hc0
                    go_wp2_with fail
                    exact hf2.out
                  case pos =>
                    have y8 : (ck != 0) = false := by simp [hc0]
                    have hlen2 := (chk_len (by rw [HCK.out]; exact hc0)).1
                    have HF4 : Hid (F = readG a b ps err count (65538 - acc2.length) nx acc2) := by
                      have h := HF3.out
                      rw [if_pos hc0] at h
                      show _ = _
                      rw [show 65538 - acc2.length = fu by have := HFU.out; have := HAL2.out; omega]
                      exact h
                    have hms : 65538 - n6 < 65538 - vn := by have := HVN.out; have := HN6.out; have := HAL2.out; omega
                    clear hc0 HF3
                    go_wp2_with fail
                    exact ⟨⟨nx, acc2, ad6, n6, cp6, bs2, HN6, HF4, hnxb, hlen2, A6, O7, D7, B7, hz7, rfl, rfl⟩, by simp only [sliceLen]; exact hms⟩
end Go.Proofs.Ytkngmnfgdlnddaa

