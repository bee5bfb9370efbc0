/-
 The walk of Extends.
-/
import Derived.Test.YtihbhpggpnmifaaGP
set_option linter.unusedSimpArgs false
set_option linter.unusedVariables false
namespace Go.Proofs.Ytihbhpggpnmifaa
open Go.RowKit Go.Lib Hw
theorem yieldsIf_loadAt {ops : Array Oper} {S : World → Prop} {op : Oper} {a : Act} (hw : Region.wanted op (yielded ops a.tmps) = true) (x : Operand) (ho : op.op = .load 23 x) (b off : Nat) (hx : a.eval x = .pointer (some ⟨b, off, none⟩)) (m : Dg) (hm : m.length = 32) (cs : List Value) (t : TypeId) (hd : ∀ W, S W → W.heap[b]? = some (.cells cs.toArray t (0, 0))) (hs : (cs.drop off).take 32 = m.map bv) :
  YieldsIf Try.prog ops S op (dv m) a :=
 have hml : (m.map bv).length = 32 := by rw [List.length_map, hm]
 yieldsIf_load_mid hw 23 x ho b off hx (m.map bv) _ (fun W h => block_range (hd W h) off (m.map bv) (by rw [hml]; exact hs)) Try.underlying23 rfl (info_D.trans (congrArg some hml.symm))
theorem zero_fE (w : World) : (zeroValue 91).run Try.prog w = .ok .nilFunc w := by kernel_rfl
def extendsB (n : Int) (s : Nat) (od : Dg) (s2 : Nat) (nd : Dg) (t : List Dg) : Bool :=
 wideB n && fitsL n [od, nd] && fitsL n t && decide (s2 ≤ 1048576) && decide (s ≤ s2) &&
 (if s = s2 then (od == nd) && t.isEmpty
  else if s = 0 then (od == noneD n.toNat) && t.isEmpty
  else ((twoP n.toNat od s s2 t true true).2.2.2 && (twoP n.toNat od s s2 t true true).2.2.1.isEmpty && ((twoP n.toNat od s s2 t true true).1 == od) && ((twoP n.toNat od s s2 t true true).2.1 == nd)))
structure EF (W : World) (N : Nat) (n : Int) (s : Nat) (od : Dg) (s2 : Nat) (nd : Dg) (tv : Value) : Prop where
 bw : W.heap[N]? = some (.cells #[.int .i64 n] 3 (0, 0))
 bo : HB W (N + 1) s od
 bn : HB W (N + 2) s2 nd
 bt : W.heap[N + 3]? = some (.cells #[tv] 32 (0, 0))
section
variable {W W' : World} {N s s2 : Nat} {n : Int} {od nd : Dg} {tv : Value}
theorem EF.low (h : EF W N n s od s2 nd tv) {B : Nat} (hb : Below B W W') (hB : N + 4 ≤ B) : EF W' N n s od s2 nd tv := ⟨heap_below h.bw hb (by omega), heap_below h.bo hb (by omega), heap_below h.bn hb (by omega), heap_below h.bt hb (by omega)⟩
theorem EF.cw (h : EF W N n s od s2 nd tv) : W.cell? ⟨N, 0, none⟩ = some (.int .i64 n) := by rw [heap_cell h.bw]; rfl
theorem EF.ct (h : EF W N n s od s2 nd tv) : W.cell? ⟨N + 3, 0, none⟩ = some tv := by rw [heap_cell h.bt]; rfl
theorem EF.cs (h : EF W N n s od s2 nd tv) : W.cell? ⟨N + 1, 0, none⟩ = some (.int .u64 (s : Int)) := by rw [heap_cell h.bo]; rfl
theorem EF.cs2 (h : EF W N n s od s2 nd tv) : W.cell? ⟨N + 2, 0, none⟩ = some (.int .u64 (s2 : Int)) := by rw [heap_cell h.bn]; rfl
end
set_option maxHeartbeats 32000000 in
theorem Extends_any (n : Int) (s s2 : Nat) (od nd : Dg) (v : Value) (t : List Dg) (w : World) (hod : Hid (od.length = 32)) (hnd : Hid (nd.length = 32)) (hr : Hid (DRow w w.heap.size v t)) (hs : s < 18446744073709551616) (hs2 : s2 < 18446744073709551616) :
  Calls Try.prog 20 #[.int .i64 n, hv s od, hv s2 nd, v] w fun e w' => e = .returned (.bool (extendsB n s od s2 nd t)) ∧ Below w.heap.size w w' := by
 obtain ⟨R, hR⟩ : ∃ R, extendsB n s od s2 nd t = R := ⟨_, rfl⟩
 rw [hR]
 unfold extendsB at hR
 obtain ⟨ad, cap, rfl, _⟩ : ∃ ad c, v = .slice ad t.length c ∧ True := by
  obtain ⟨_, ad, c, e, _⟩ := hr.out
  exact ⟨ad, c, e, trivial⟩
 obtain ⟨N, hN⟩ : ∃ N, w.heap.size = N := ⟨_, rfl⟩
 rw [hN] at hr ⊢
 obtain ⟨W1, hW1⟩ : ∃ x, wideB n = x := ⟨_, rfl⟩
 obtain ⟨F1, hF1⟩ : ∃ x, fitsL n [od, nd] = x := ⟨_, rfl⟩
 obtain ⟨F2, hF2⟩ : ∃ x, fitsL n t = x := ⟨_, rfl⟩
 rw [hW1, hF1, hF2] at hR
 have HW := Lib.hid hW1
 have HF1 := Lib.hid hF1
 have HF2 := Lib.hid hF2
 have HR := Lib.hid hR
 have HN := Lib.hid hN
 clear hW1 hF1 hF2 hR hN
 go_enter Try.func20, Try.ntmps20
 go_upto_region 0 with fail
 refine wp_region_list ?_
 refine wpList_boxB rfl _ _ rfl N HN.out #[.int .i64 n] rfl ?_
 intro w0 e0 b0 z0
 try simp only [Act.put,nA,nB,nC]
 refine wpList_boxB rfl _ _ rfl (N + 1) z0 (hcs s od).toArray rfl ?_
 intro w1 e1 b1 z1
 try simp only [Act.put,nA,nB,nC]
 refine wpList_boxB rfl _ _ rfl (N + 2) z1 (hcs s2 nd).toArray rfl ?_
 intro w2 e2 b2 z2
 try simp only [Act.put,nA,nB,nC]
 refine wpList_boxB rfl _ _ rfl (N + 3) z2 #[.slice ad t.length cap] rfl ?_
 intro w3 e3 b3 z3
 try simp only [Act.put,nA,nB,nC]
 (refine wpList_plain rfl (fun K hK => ?_)); go_simp; refine hK _ _ ?_; clear hK K; try simp only [Act.put,nA,nB,nC]
 have HB := Lib.hid (((b0.trans (b1.mono (by omega))).trans (b2.mono (by omega))).trans (b3.mono (by omega)))
 have F : Hid (EF w3 N n s od s2 nd (.slice ad t.length cap)) := ⟨heap_below (heap_below (heap_below e0 b1 (by omega)) b2 (by omega)) b3 (by omega), heap_below (heap_below e1 b2 (by omega)) b3 (by omega), heap_below e2 b3 (by omega), e3⟩
 have HSub := Lib.hid (sub_hv s od hod.out)
 have HSub2 := Lib.hid (sub_hv s2 nd hnd.out)
 clear e0 b0 z0 e1 b1 z1 e2 b2 z2 e3 b3
 have cw := F.out.cw
 go_upto_region 1 with fail
 refine wp_region_list ?_
 (refine wpList_plain rfl (fun K hK => ?_)); go_simp; refine hK _ _ ?_; clear hK K; try simp only [Act.put,nA,nB,nC]
 refine wpList_plain rfl (fun K hK => ?_)
 go_simp
 refine (right_any _ _).mono ?_; rintro e wr ⟨rfl, rfl⟩; rw [HW.out]
 refine hK _ _ ?_
 clear hK K
 try simp only [Act.put,nA,nB,nC]
 iterate 2
  (refine wpList_plain rfl (fun K hK => ?_)); go_simp; refine hK _ _ ?_; clear hK K; try simp only [Act.put,nA,nB,nC]
 cases W1
 case false =>
  have HRes : Hid (R = false) := HR.out.symm
  have HBf := HB
  clear cw
  iterate 8
   refine wpList_step (fun K hK => ?_)
   rw [if_neg (Bool.eq_false_iff.1 (by rfl))]
   refine hK _ _ ?_
   clear hK K
   try simp only [Act.put,nA,nB,nC]
  iterate 2
   (refine wpList_plain rfl (fun K hK => ?_)); go_simp; refine hK _ _ ?_; clear hK K; try simp only [Act.put,nA,nB,nC]
  iterate 4
   refine wpList_step (fun K hK => ?_)
   rw [if_neg (Bool.eq_false_iff.1 (by rfl))]
   refine hK _ _ ?_
   clear hK K
   try simp only [Act.put,nA,nB,nC]
  iterate 2
   (refine wpList_plain rfl (fun K hK => ?_)); go_simp; refine hK _ _ ?_; clear hK K; try simp only [Act.put,nA,nB,nC]
  iterate 3
   refine wpList_step (fun K hK => ?_)
   rw [if_neg (Bool.eq_false_iff.1 (by rfl))]
   refine hK _ _ ?_
   clear hK K
   try simp only [Act.put,nA,nB,nC]
  iterate 2
   (refine wpList_plain rfl (fun K hK => ?_)); go_simp; refine hK _ _ ?_; clear hK K; try simp only [Act.put,nA,nB,nC]
  iterate 5
   refine wpList_step (fun K hK => ?_)
   rw [if_neg (Bool.eq_false_iff.1 (by rfl))]
   refine hK _ _ ?_
   clear hK K
   try simp only [Act.put,nA,nB,nC]
  (refine wpList_plain rfl (fun K hK => ?_)); go_simp; refine hK _ _ ?_; clear hK K; try simp only [Act.put,nA,nB,nC]
  clear F HSub HSub2
  go_wp2_with fail
  go_ret
  exact ⟨by rw [HRes.out]; rfl, HBf.out⟩
 case true =>
  iterate 2
   refine wpList_step (fun K hK => ?_)
   rw [if_pos (by rfl)]
   go_simp
   refine hK _ _ ?_
   clear hK K
   try simp only [Act.put,nA,nB,nC]
  refine wpList_loadAtG rfl _ rfl (N + 1) 1 rfl od hod.out _ _ F.out.bo HSub.out ?_
  try simp only [Act.put,nA,nB,nC]
  refine wpList_step (fun K hK => ?_)
  rw [if_pos (by rfl)]
  go_simp
  refine hK _ _ ?_
  clear hK K
  try simp only [Act.put,nA,nB,nC]
  refine wpList_loadAtG rfl _ rfl (N + 2) 1 rfl nd hnd.out _ _ F.out.bn HSub2.out ?_
  try simp only [Act.put,nA,nB,nC]
  refine wpList_slice2G rfl _ _ rfl od nd hod.out hnd.out rfl rfl (N + 4) z3 ?_
  intro w4 e4 b4 z4
  try simp only [Act.put,nA,nB,nC]
  have R2 := Lib.hid (row_lit rfl (all2 hod.out hnd.out) e4 (by simp))
  refine wpList_step (fun K hK => ?_)
  rw [if_pos (by rfl)]
  go_simp
  refine (fit_any n _ [od, nd] _ _ R2).mono ?_; rintro e w5 ⟨rfl, b5⟩; rw [HF1.out]
  refine hK _ _ ?_
  clear hK K
  try simp only [Act.put,nA,nB,nC]
  have b35 := b4.trans (b5.mono (by omega))
  have z5 := b5.size
  rw [z4] at z5
  have HB5 := Lib.hid (HB.out.trans (b35.mono (by omega)))
  have F5 := Lib.hid (F.out.low b35 (by omega))
  clear e4 b4 b5 b35 R2 F HB cw
  rename Hid (EF _ _ _ _ _ _ _ _) => F
  have cw := F.out.cw
  have ct := F.out.ct
  refine wpList_step (fun K hK => ?_)
  rw [if_pos (by rfl)]
  go_simp
  refine hK _ _ ?_
  clear hK K
  try simp only [Act.put,nA,nB,nC]
  iterate 2
   (refine wpList_plain rfl (fun K hK => ?_)); go_simp; refine hK _ _ ?_; clear hK K; try simp only [Act.put,nA,nB,nC]
  cases F1
  case false =>
   have HRes : Hid (R = false) := HR.out.symm
   have HBf := HB5
   clear cw ct
   iterate 4
    refine wpList_step (fun K hK => ?_)
    rw [if_neg (Bool.eq_false_iff.1 (by rfl))]
    refine hK _ _ ?_
    clear hK K
    try simp only [Act.put,nA,nB,nC]
   iterate 2
    (refine wpList_plain rfl (fun K hK => ?_)); go_simp; refine hK _ _ ?_; clear hK K; try simp only [Act.put,nA,nB,nC]
   iterate 3
    refine wpList_step (fun K hK => ?_)
    rw [if_neg (Bool.eq_false_iff.1 (by rfl))]
    refine hK _ _ ?_
    clear hK K
    try simp only [Act.put,nA,nB,nC]
   iterate 2
    (refine wpList_plain rfl (fun K hK => ?_)); go_simp; refine hK _ _ ?_; clear hK K; try simp only [Act.put,nA,nB,nC]
   iterate 5
    refine wpList_step (fun K hK => ?_)
    rw [if_neg (Bool.eq_false_iff.1 (by rfl))]
    refine hK _ _ ?_
    clear hK K
    try simp only [Act.put,nA,nB,nC]
   (refine wpList_plain rfl (fun K hK => ?_)); go_simp; refine hK _ _ ?_; clear hK K; try simp only [Act.put,nA,nB,nC]
   clear F HSub HSub2
   go_wp2_with fail
   go_ret
   exact ⟨by rw [HRes.out]; rfl, HBf.out⟩
  case true =>
   iterate 2
    refine wpList_step (fun K hK => ?_)
    rw [if_pos (by rfl)]
    go_simp
    refine hK _ _ ?_
    clear hK K
    try simp only [Act.put,nA,nB,nC]
   have hrw := hr.out.low HB5.out (by rw [HN.out]; exact Nat.le_refl _)
   refine wpList_step (fun K hK => ?_)
   rw [if_pos (by rfl)]
   go_simp
   refine (fit_any n (.slice ad t.length cap) t _ N hrw).mono ?_; rintro e w6 ⟨rfl, b6⟩; rw [HF2.out]
   refine hK _ _ ?_
   clear hK K
   try simp only [Act.put,nA,nB,nC]
   have z6 := b6.size
   have HB6 := Lib.hid (HB5.out.trans (b6.mono (by omega)))
   have F6 := Lib.hid (F.out.low b6 (by omega))
   clear b6 hrw F HB5 cw ct
   rename Hid (EF _ _ _ _ _ _ _ _) => F
   have cs2 := F.out.cs2
   have cs := F.out.cs
   refine wpList_step (fun K hK => ?_)
   rw [if_pos (by rfl)]
   go_simp
   refine hK _ _ ?_
   clear hK K
   try simp only [Act.put,nA,nB,nC]
   iterate 2
    (refine wpList_plain rfl (fun K hK => ?_)); go_simp; refine hK _ _ ?_; clear hK K; try simp only [Act.put,nA,nB,nC]
   cases F2
   case false =>
    have HRes : Hid (R = false) := by
     show R = false
     rw [← HR.out]; rfl
    have HBf := HB6
    clear cs cs2
    iterate 3
     refine wpList_step (fun K hK => ?_)
     rw [if_neg (Bool.eq_false_iff.1 (by rfl))]
     refine hK _ _ ?_
     clear hK K
     try simp only [Act.put,nA,nB,nC]
    iterate 2
     (refine wpList_plain rfl (fun K hK => ?_)); go_simp; refine hK _ _ ?_; clear hK K; try simp only [Act.put,nA,nB,nC]
    iterate 5
     refine wpList_step (fun K hK => ?_)
     rw [if_neg (Bool.eq_false_iff.1 (by rfl))]
     refine hK _ _ ?_
     clear hK K
     try simp only [Act.put,nA,nB,nC]
    (refine wpList_plain rfl (fun K hK => ?_)); go_simp; refine hK _ _ ?_; clear hK K; try simp only [Act.put,nA,nB,nC]
    clear F HSub HSub2
    go_wp2_with fail
    go_ret
    exact ⟨by rw [HRes.out]; rfl, HBf.out⟩
   case true =>
    have HBf := HB6
    by_cases hsm : s2 ≤ 1048576
    case neg =>
     have HRes : Hid (R = false) := by
      show R = false
      rw [← HR.out, decide_eq_false hsm]; rfl
     have d1 : decide (1048576 < s2) = true := decide_eq_true (by omega)
     have d2 : decide ((1048576 : Int) < (s2 : Int)) = true := decide_eq_true (by omega)
     iterate 3
      refine wpList_step (fun K hK => ?_)
      rw [if_pos (by rfl)]
      go_simp
      refine hK _ _ ?_
      clear hK K
      try simp only [Act.put,nA,nB,nC]
     iterate 2
      (refine wpList_plain rfl (fun K hK => ?_)); go_simp; refine hK _ _ ?_; clear hK K; try simp only [Act.put,nA,nB,nC]
     clear d1 d2 cs cs2
     iterate 5
      refine wpList_step (fun K hK => ?_)
      rw [if_neg (Bool.eq_false_iff.1 (by rfl))]
      refine hK _ _ ?_
      clear hK K
      try simp only [Act.put,nA,nB,nC]
     (refine wpList_plain rfl (fun K hK => ?_)); go_simp; refine hK _ _ ?_; clear hK K; try simp only [Act.put,nA,nB,nC]
     clear F HSub HSub2
     go_wp2_with fail
     go_ret
     exact ⟨by rw [HRes.out]; rfl, HBf.out⟩
    case pos =>
     have d1 : decide (1048576 < s2) = false := decide_eq_false (by omega)
     have d2 : decide ((1048576 : Int) < (s2 : Int)) = false := decide_eq_false (by omega)
     iterate 3
      refine wpList_step (fun K hK => ?_)
      rw [if_pos (by rfl)]
      go_simp
      refine hK _ _ ?_
      clear hK K
      try simp only [Act.put,nA,nB,nC]
     iterate 2
      (refine wpList_plain rfl (fun K hK => ?_)); go_simp; refine hK _ _ ?_; clear hK K; try simp only [Act.put,nA,nB,nC]
     clear d1 d2
     by_cases hss : s ≤ s2
     case neg =>
      have HRes : Hid (R = false) := by
       show R = false
       rw [← HR.out, decide_eq_true hsm, decide_eq_false hss]; rfl
      have d1 : decide (s2 < s) = true := decide_eq_true (by omega)
      have d2 : decide ((s2 : Int) < (s : Int)) = true := decide_eq_true (by omega)
      iterate 5
       refine wpList_step (fun K hK => ?_)
       rw [if_pos (by rfl)]
       go_simp
       refine hK _ _ ?_
       clear hK K
       try simp only [Act.put,nA,nB,nC]
      (refine wpList_plain rfl (fun K hK => ?_)); go_simp; refine hK _ _ ?_; clear hK K; try simp only [Act.put,nA,nB,nC]
      clear d1 d2 cs cs2 F HSub HSub2
      go_wp2_with fail
      go_ret
      exact ⟨by rw [HRes.out]; rfl, HBf.out⟩
     case pos =>
      have d1 : decide (s2 < s) = false := decide_eq_false (by omega)
      have d2 : decide ((s2 : Int) < (s : Int)) = false := decide_eq_false (by omega)
      iterate 5
       refine wpList_step (fun K hK => ?_)
       rw [if_pos (by rfl)]
       go_simp
       refine hK _ _ ?_
       clear hK K
       try simp only [Act.put,nA,nB,nC]
      (refine wpList_plain rfl (fun K hK => ?_)); go_simp; refine hK _ _ ?_; clear hK K; try simp only [Act.put,nA,nB,nC]
      clear d1 d2
      obtain ⟨m, rfl⟩ : ∃ m : Nat, n = (m : Int) := ⟨n.toNat, by have := HW.out; simp [wideB] at this; omega⟩
      have hm : m ≤ 32 := by have := HW.out; simp [wideB] at this; omega
      have HR2 : Hid ((if s = s2 then (od == nd) && t.isEmpty else if s = 0 then (od == noneD m) && t.isEmpty else ((twoP m od s s2 t true true).2.2.2 && (twoP m od s s2 t true true).2.2.1.isEmpty && ((twoP m od s s2 t true true).1 == od) && ((twoP m od s s2 t true true).2.1 == nd))) = R) := by
       show _ = R
       rw [← HR.out, decide_eq_true hsm, decide_eq_true hss, Int.toNat_natCast]; rfl
      clear HR
      by_cases heq : s = s2
      case pos =>
       rw [if_pos heq] at HR2
       have q1 : ((s : Int) == (s2 : Int)) = true := by simp; omega
       have q2 : (s == s2) = true := by simp; omega
       go_upto_region 4 with fail
       clear cs cs2 q1 q2
       obtain ⟨Q, hQ⟩ : ∃ x, (od == nd) = x := ⟨_, rfl⟩
       have hqe := eqD od nd hod.out hnd.out
       rw [hQ] at hqe HR2
       clear hQ
       have ct := F.out.ct
       refine wp_region_list ?_
       (refine wpList_plain rfl (fun K hK => ?_)); go_simp; refine hK _ _ ?_; clear hK K; try simp only [Act.put,nA,nB,nC]
       set_option maxRecDepth 20000 in
       refine wpList_loadAt rfl _ rfl (N + 1) 1 rfl od hod.out _ _ F.out.bo HSub.out ?_
       try simp only [Act.put,nA,nB,nC]
       (refine wpList_plain rfl (fun K hK => ?_)); go_simp; refine hK _ _ ?_; clear hK K; try simp only [Act.put,nA,nB,nC]
       set_option maxRecDepth 20000 in
       refine wpList_loadAt rfl _ rfl (N + 2) 1 rfl nd hnd.out _ _ F.out.bn HSub2.out ?_
       try simp only [Act.put,nA,nB,nC]
       (refine wpList_plain rfl (fun K hK => ?_)); go_simp; refine hK _ _ ?_; clear hK K; try simp only [Act.put,nA,nB,nC]
       clear hqe
       (refine wpList_plain rfl (fun K hK => ?_)); go_simp; refine hK _ _ ?_; clear hK K; try simp only [Act.put,nA,nB,nC]
       cases Q
       case false =>
        have HRes : Hid (R = false) := HR2.out.symm
        iterate 3
         refine wpList_step (fun K hK => ?_)
         rw [if_neg (Bool.eq_false_iff.1 (by rfl))]
         refine hK _ _ ?_
         clear hK K
         try simp only [Act.put,nA,nB,nC]
        iterate 2
         (refine wpList_plain rfl (fun K hK => ?_)); go_simp; refine hK _ _ ?_; clear hK K; try simp only [Act.put,nA,nB,nC]
        clear F HSub HSub2 ct
        go_wp2_with fail
        go_ret
        exact ⟨by rw [HRes.out]; rfl, HBf.out⟩
       case true =>
        have HRes : Hid (R = t.isEmpty) := HR2.out.symm
        iterate 3
         refine wpList_step (fun K hK => ?_)
         rw [if_pos (by rfl)]
         go_simp
         refine hK _ _ ?_
         clear hK K
         try simp only [Act.put,nA,nB,nC]
        iterate 2
         (refine wpList_plain rfl (fun K hK => ?_)); go_simp; refine hK _ _ ?_; clear hK K; try simp only [Act.put,nA,nB,nC]
        clear F HSub HSub2 ct
        go_wp2_with fail
        go_ret
        exact ⟨by rw [HRes.out]; cases t <;> rfl, HBf.out⟩
      case neg =>
       rw [if_neg heq] at HR2
       have q1 : ((s : Int) == (s2 : Int)) = false := by simp; omega
       have q2 : (s == s2) = false := by simp; omega
       by_cases hs0 : s = 0
       case pos =>
        rw [if_pos hs0] at HR2
        have q3 : ((s : Int) == 0) = true := by simp; omega
        have q4 : (s == 0) = true := by simp; omega
        go_upto_region 6 with fail
        clear cs cs2 q1 q2 q3 q4
        have hnl := noneD_length m
        obtain ⟨ND, hND⟩ : ∃ x, noneD m = x := ⟨_, rfl⟩
        rw [hND] at hnl HR2
        have HND := Lib.hid hND
        have HNl := Lib.hid hnl
        clear hND hnl
        obtain ⟨Q, hQ⟩ : ∃ x, (od == ND) = x := ⟨_, rfl⟩
        have hqe := eqD od ND hod.out HNl.out
        have heg := eqGuardD od ND
        rw [hQ] at hqe HR2
        clear hQ
        have ct := F.out.ct
        have cw := F.out.cw
        refine wp_region_held_drew (S := fun W => W.cell? ⟨N, 0, none⟩ = some (.int .i64 (m : Int)) ∧ HB W (N + 1) s od ∧ W.cell? ⟨N + 3, 0, none⟩ = some (.slice ad t.length cap)) (by kernel_rfl) ⟨cw, F.out.bo, ct⟩ (fun hHeld => ?_)
        refine' tQ 0 ⟨some 62, .fieldAddr 31 (.tmp 5) 1, 0, "rings.go:265", #[], none⟩ rfl (by kernel_rfl) (Or.inl ⟨by rfl, _⟩) _; rotate_left; · (intro s h; (try dsimp only at h); go_simp; try with_reducible rfl)
        try simp only [Act.put,nA,nB,nC]
        refine' tQ 1 ⟨some 63, .load 23 (.tmp 62), 23, "rings.go:265", #[⟨0, .data⟩], none⟩ rfl (by kernel_rfl) (yieldsIf_loadAt (by rfl) _ rfl (N + 1) 1 rfl od hod.out (hcs s od) _ (fun W hW => hW.2.1) HSub.out) _
        try simp only [Act.put,nA,nB,nC]
        refine' tQ 2 ⟨some 64, .load 3 (.tmp 4), 3, "rings.go:265", #[], none⟩ rfl (by kernel_rfl) (Or.inl ⟨by rfl, _⟩) _; rotate_left; · (intro s h; (try dsimp only at h); go_simp; try with_reducible rfl)
        try simp only [Act.put,nA,nB,nC]
        refine wpAnyH_ready (rs := [3]) (by kernel_rfl) (by simp) ?_
        refine AllReadyH.cons (o := ⟨some 65, .call ⟨.value (.func 49), #[.tmp 64], #[3]⟩, 23, "rings.go:265", #[⟨2, .data⟩], none⟩) rfl (fun K hK => ?_) AllReadyH.nil
        (go_simp; (go_at_call 49; refine (none_any m _).mono ?_; rintro e w7 ⟨rfl, hb7'⟩; rw [HND.out]; have hb7 : Below w6.heap.size w6 w7 := Below.trans (Below.refl _ _).drew hb7'; have F7 := F.out.low hb7 (by omega)))
        refine hK.out _ _ ?_ (fun hHeld => ?_)
        ·exact ⟨F7.cw, F7.bo, F7.ct⟩
        clear hK K
        try simp only [Act.put,nA,nB,nC]
        refine' tQ 4 ⟨some 66, .binOp .eql 23 (.tmp 63) (.tmp 65) 23, 4, "rings.go:265", #[⟨1, .data⟩, ⟨3, .data⟩], none⟩ rfl (by kernel_rfl) (Or.inl ⟨by rfl, _⟩) _; rotate_left; · (intro s h; (try dsimp only at h); go_simp; try with_reducible rfl)
        try simp only [Act.put,nA,nB,nC]
        refine' tQ 5 ⟨some 67, .move (.tmp 66), 4, "rings.go:265", #[⟨4, .data⟩, ⟨3, .chain⟩], none⟩ rfl (by kernel_rfl) (Or.inl ⟨by rfl, _⟩) _; rotate_left; · (intro s h; (try dsimp only at h); go_simp; try with_reducible rfl)
        try simp only [Act.put,nA,nB,nC]
        have HB7 := Lib.hid (HBf.out.trans (hb7.mono (by omega)))
        clear hqe heg hb7 hb7' F HBf
        rename Hid (Below N w w7) => HBf
        cases Q
        case false =>
         have HRes : Hid (R = false) := HR2.out.symm
         refine' tQ 6 ⟨some 68, .load 32 (.tmp 7), 32, "rings.go:265", #[⟨5, .guard⟩], some (5, true)⟩ rfl (by kernel_rfl) (Or.inr ⟨by rfl, rfl⟩) _
         try simp only [Act.put,nA,nB,nC]
         refine' tQ 7 ⟨some 69, .call ⟨.builtin .len, #[.tmp 68], #[32]⟩, 3, "rings.go:265", #[⟨6, .data⟩, ⟨5, .guard⟩], some (5, true)⟩ rfl (by kernel_rfl) (Or.inr ⟨by rfl, rfl⟩) _
         try simp only [Act.put,nA,nB,nC]
         refine' tQ 8 ⟨some 70, .binOp .eql 3 (.tmp 69) (.const (.int .i64 0)) 3, 4, "rings.go:265", #[⟨7, .data⟩, ⟨5, .guard⟩], some (5, true)⟩ rfl (by kernel_rfl) (Or.inr ⟨by rfl, rfl⟩) _
         try simp only [Act.put,nA,nB,nC]
         refine' tQ 9 ⟨some 71, .pick (.tmp 67) (.tmp 70) (.const (.bool false)), 4, "rings.go:265", #[⟨5, .data⟩, ⟨8, .data⟩], none⟩ rfl (by kernel_rfl) (Or.inl ⟨by rfl, _⟩) _; rotate_left; · (intro s h; (try dsimp only at h); go_simp; try with_reducible rfl)
         try simp only [Act.put,nA,nB,nC]
         refine' tQ 10 ⟨some 8, .assign (.tmp 71), 4, "rings.go:265", #[⟨9, .data⟩, ⟨5, .chain⟩, ⟨0, .phase⟩, ⟨1, .phase⟩, ⟨2, .phase⟩, ⟨3, .phase⟩, ⟨4, .phase⟩, ⟨5, .phase⟩, ⟨6, .phase⟩, ⟨7, .phase⟩, ⟨8, .phase⟩, ⟨9, .phase⟩], none⟩ rfl (by kernel_rfl) (Or.inl ⟨by rfl, _⟩) _; rotate_left; · (intro s h; (try dsimp only at h); go_simp; try with_reducible rfl)
         try simp only [Act.put,nA,nB,nC]
         refine wpAnyH_done (by kernel_rfl) ?_ _
         clear F7 HSub HSub2 ct cw hHeld
         go_wp2_with fail
         go_ret
         exact ⟨by rw [HRes.out]; rfl, HBf.out⟩
        case true =>
         have HRes : Hid (R = t.isEmpty) := HR2.out.symm
         refine' tQ 6 ⟨some 68, .load 32 (.tmp 7), 32, "rings.go:265", #[⟨5, .guard⟩], some (5, true)⟩ rfl (by kernel_rfl) (Or.inl ⟨by rfl, _⟩) _; rotate_left; · (intro s h; (try dsimp only at h); go_simp; try with_reducible rfl)
         try simp only [Act.put,nA,nB,nC]
         refine' tQ 7 ⟨some 69, .call ⟨.builtin .len, #[.tmp 68], #[32]⟩, 3, "rings.go:265", #[⟨6, .data⟩, ⟨5, .guard⟩], some (5, true)⟩ rfl (by kernel_rfl) (Or.inl ⟨by rfl, _⟩) _; rotate_left; · (intro s h; (try dsimp only at h); go_simp; try with_reducible rfl)
         try simp only [Act.put,nA,nB,nC]
         refine' tQ 8 ⟨some 70, .binOp .eql 3 (.tmp 69) (.const (.int .i64 0)) 3, 4, "rings.go:265", #[⟨7, .data⟩, ⟨5, .guard⟩], some (5, true)⟩ rfl (by kernel_rfl) (Or.inl ⟨by rfl, _⟩) _; rotate_left; · (intro s h; (try dsimp only at h); go_simp; try with_reducible rfl)
         try simp only [Act.put,nA,nB,nC]
         refine' tQ 9 ⟨some 71, .pick (.tmp 67) (.tmp 70) (.const (.bool false)), 4, "rings.go:265", #[⟨5, .data⟩, ⟨8, .data⟩], none⟩ rfl (by kernel_rfl) (Or.inl ⟨by rfl, _⟩) _; rotate_left; · (intro s h; (try dsimp only at h); go_simp; try with_reducible rfl)
         try simp only [Act.put,nA,nB,nC]
         refine' tQ 10 ⟨some 8, .assign (.tmp 71), 4, "rings.go:265", #[⟨9, .data⟩, ⟨5, .chain⟩, ⟨0, .phase⟩, ⟨1, .phase⟩, ⟨2, .phase⟩, ⟨3, .phase⟩, ⟨4, .phase⟩, ⟨5, .phase⟩, ⟨6, .phase⟩, ⟨7, .phase⟩, ⟨8, .phase⟩, ⟨9, .phase⟩], none⟩ rfl (by kernel_rfl) (Or.inl ⟨by rfl, _⟩) _; rotate_left; · (intro s h; (try dsimp only at h); go_simp; try with_reducible rfl)
         try simp only [Act.put,nA,nB,nC]
         refine wpAnyH_done (by kernel_rfl) ?_ _
         clear F7 HSub HSub2 ct cw hHeld
         go_wp2_with fail
         go_ret
         exact ⟨by rw [HRes.out]; cases t <;> rfl, HBf.out⟩
       case neg =>
        rw [if_neg hs0] at HR2
        have q3 : ((s : Int) == 0) = false := by simp; omega
        have q4 : (s == 0) = false := by simp; omega
        have hmf : ∀ (fn : Fn) (first cap : Array Value) (w : World), (Instr.makeFunc fn first cap).run Try.prog w = .ok (.func fn first cap) w := fun _ _ _ _ => rfl
        obtain ⟨⟨X, Y, t2, ok2⟩, htw⟩ : ∃ r, twoP m od s s2 t true true = r := ⟨_, rfl⟩
        have htl := twoP_len m od hod.out s2 s t true true (by omega) hss hr.out.1
        rw [htw] at htl HR2
        dsimp only at HR2
        have HX : Hid (List.length X = 32) := htl.1
        have HY : Hid (List.length Y = 32) := htl.2.1
        have HTw := Lib.hid htw
        clear htl htw
        go_upto_region 7 with fail
        clear q1 q2 q3 q4 cs cs2
        obtain ⟨x, hx⟩ : ∃ x, w6.heap.size = x := ⟨_, rfl⟩
        have hxN : N + 5 ≤ x := by omega
        refine wp_region_list ?_
        refine wpList_allocB rfl 4 rfl x hx _ zero_bool ?_
        intro w7 e7 b7 z7
        try simp only [Act.put,nA,nB,nC]
        have c7 := heap_one e7
        have f7 := heap_free e7 0
        (refine wpList_plain rfl (fun K hK => ?_)); go_simp; refine hK _ _ ?_; clear hK K; try simp only [Act.put,nA,nB,nC]
        clear c7 f7
        go_upto_region 8 with fail
        obtain ⟨w8, hw8⟩ : ∃ W, w7.setCell ⟨x, 0, none⟩ (.bool true) = W := ⟨_, rfl⟩
        have G0 : Hid (w8.heap[x]? = some (.cells #[.bool true] 4 (0, 0))) := by rw [← hw8]; exact heap_put e7 _
        have b8 : Below x w7 w8 := by rw [← hw8]; exact (Below.refl x w7).setCell (p := ⟨x, 0, none⟩) (Nat.le_refl _) _
        have z8 : w8.heap.size = x + 1 := by rw [← hw8]; simpa using z7
        rw [hw8]
        have b68 : Below x w6 w8 := b7.trans b8
        have F8 := Lib.hid (F.out.low b68 (by omega))
        have B8 := Lib.hid (HBf.out.trans (b68.mono (by omega)))
        clear e7 b7 z7 b8 b68 hw8 F
        refine wp_region_list ?_
        refine wpList_allocB rfl 91 rfl (x + 1) z8 _ zero_fE ?_
        intro w9 e9 b9 z9
        try simp only [Act.put,nA,nB,nC]
        have c9 := heap_one e9
        have f9 := heap_free e9 0
        go_upto_region 10 with fail
        obtain ⟨wa, hwa⟩ : ∃ W, w9.setCell ⟨x + 1, 0, none⟩ (upE N x) = W := ⟨_, rfl⟩
        have hwa' := hwa
        unfold upE at hwa'
        have ea : wa.heap[x + 1]? = some (.cells #[upE N x] 91 (0, 0)) := by rw [← hwa]; exact heap_put e9 _
        have ba : Below (x + 1) w9 wa := by rw [← hwa]; exact (Below.refl (x + 1) w9).setCell (p := ⟨x + 1, 0, none⟩) (Nat.le_refl _) _
        have za : wa.heap.size = x + 2 := by rw [← hwa]; simpa using z9
        rw [hwa']
        have b8a : Below (x + 1) w8 wa := b9.trans ba
        have Fa := Lib.hid (F8.out.low b8a (by omega))
        have Ba := Lib.hid (B8.out.trans (b8a.mono (by omega)))
        have T : Hid (EB wa N N x s od m (.slice ad t.length cap) t true) := ⟨Fa.out.bw, Fa.out.bo, Fa.out.bt, heap_below G0.out b8a (by omega), ea, hr.out.low Ba.out (by rw [HN.out]; exact Nat.le_refl _), Nat.le_refl _, by omega⟩
        clear e9 b9 z9 c9 f9 ea ba b8a hwa hwa' F8 B8 G0
        have tw := twoC_any N N x s od m hod hm s2 s true _ t true wa T.out (by omega) hss hsm
        rw [HTw.out] at tw
        have TW := Lib.hid tw
        clear tw
        have cu := T.out.cu
        unfold upE at cu
        have cs := Fa.out.cs
        have cs2 := Fa.out.cs2
        have hws : IntKind.i64.wrap (s : Int) = (s : Int) := IntWalk.i64_in _ (by omega)
        have hws2 : IntKind.i64.wrap (s2 : Int) = (s2 : Int) := IntWalk.i64_in _ (by omega)
        refine wp_region_list ?_
        iterate 7
         (refine wpList_plain rfl (fun K hK => ?_)); go_simp; refine hK _ _ ?_; clear hK K; try simp only [Act.put,nA,nB,nC]
        refine wpList_plain rfl (fun K hK => ?_)
        go_simp
        refine TW.out.mono ?_; rintro e wb ⟨rfl, tv2, T2, M2⟩; dsimp only at T2 ⊢
        refine hK _ _ ?_
        clear hK K
        try simp only [Act.put,nA,nB,nC]
        have Nb := M2.heap Fa.out.bn (by omega)
        have Bb : Below N w wb := Ba.out.trans (M2.below (n := N) (fun k hk e => by omega) (by omega))
        have zb := M2.size
        rw [za] at zb
        have Tb := Lib.hid T2
        have HNb := Lib.hid Nb
        have HBb := Lib.hid Bb
        clear T2 M2 Nb Bb T TW Fa Ba cu cs cs2 hws hws2
        obtain ⟨y, hy⟩ : ∃ y, wb.heap.size = y := ⟨_, rfl⟩
        rw [hy] at zb
        iterate 3
         (refine wpList_plain rfl (fun K hK => ?_)); go_simp; refine hK _ _ ?_; clear hK K; try simp only [Act.put,nA,nB,nC]
        refine wpList_allocD rfl rfl y hy ?_
        intro v3 e3 b3 z3
        try simp only [Act.put,nA,nB,nC]
        refine wpList_allocD rfl rfl (y + 1) z3 ?_
        intro v4 e4 b4 z4
        try simp only [Act.put,nA,nB,nC]
        refine wpList_storeD rfl _ _ rfl y rfl zeros32 X rfl HX.out rfl (heap_below e3 b4 (by omega)) ?_
        intro v5 e5 b5 k5 z5
        try simp only [Act.put,nA,nB,nC]
        refine wpList_storeD rfl _ _ rfl (y + 1) rfl zeros32 Y rfl HY.out rfl (k5.heap e4 (by omega)) ?_
        intro v6 e6 b6 k6 z6
        try simp only [Act.put,nA,nB,nC]
        have b26 : Below y wb v6 := ((b3.trans (b4.mono (by omega))).trans b5).trans (b6.mono (by omega))
        have GX := Lib.hid (k6.heap e5 (by omega))
        have GY := Lib.hid e6
        have T6 := Lib.hid (Tb.out.below (by rw [hy]; exact b26))
        have N6 := Lib.hid (heap_below HNb.out b26 (by omega))
        have HBf6 := Lib.hid (HBb.out.trans (b26.mono (by omega)))
        clear e3 b3 e4 b4 z4 e5 b5 k5 z5 e6 b6 k6 z6 b26 Tb HNb HBb z3 HBf
        rename Hid (Below N w v6) => HBf
        obtain ⟨ad2, cap2, rfl, _⟩ : ∃ ad c, tv2 = .slice ad t2.length c ∧ True := by
         obtain ⟨_, ad, c, e, _⟩ := T6.out.row
         exact ⟨ad, c, e, trivial⟩
        have ck := heap_one T6.out.bk
        have ct := heap_one T6.out.bt
        have t6o := Lib.hid T6.out.bo
        obtain ⟨Q1, hQ1⟩ : ∃ q, (X == od) = q := ⟨_, rfl⟩
        have h1e := eqD X od HX.out hod.out
        rw [hQ1] at h1e HR2
        clear hQ1
        obtain ⟨Q2, hQ2⟩ : ∃ q, (Y == nd) = q := ⟨_, rfl⟩
        have h2e := eqD Y nd HY.out hnd.out
        rw [hQ2] at h2e HR2
        clear hQ2
        go_upto_region 11 with fail
        refine wp_region_list ?_
        iterate 2
         (refine wpList_plain rfl (fun K hK => ?_)); go_simp; refine hK _ _ ?_; clear hK K; try simp only [Act.put,nA,nB,nC]
        cases ok2
        case false =>
         have HRes : Hid (R = false) := HR2.out.symm
         iterate 3
          refine wpList_step (fun K hK => ?_)
          rw [if_neg (Bool.eq_false_iff.1 (by rfl))]
          refine hK _ _ ?_
          clear hK K
          try simp only [Act.put,nA,nB,nC]
         iterate 2
          (refine wpList_plain rfl (fun K hK => ?_)); go_simp; refine hK _ _ ?_; clear hK K; try simp only [Act.put,nA,nB,nC]
         iterate 4
          refine wpList_step (fun K hK => ?_)
          rw [if_neg (Bool.eq_false_iff.1 (by rfl))]
          refine hK _ _ ?_
          clear hK K
          try simp only [Act.put,nA,nB,nC]
         iterate 2
          (refine wpList_plain rfl (fun K hK => ?_)); go_simp; refine hK _ _ ?_; clear hK K; try simp only [Act.put,nA,nB,nC]
         iterate 4
          refine wpList_step (fun K hK => ?_)
          rw [if_neg (Bool.eq_false_iff.1 (by rfl))]
          refine hK _ _ ?_
          clear hK K
          try simp only [Act.put,nA,nB,nC]
         iterate 2
          (refine wpList_plain rfl (fun K hK => ?_)); go_simp; refine hK _ _ ?_; clear hK K; try simp only [Act.put,nA,nB,nC]
         clear GX GY T6 N6 t6o HSub HSub2 ck ct h1e h2e
         go_wp2_with fail
         go_ret
         exact ⟨by rw [HRes.out]; rfl, HBf.out⟩
        case true =>
         iterate 3
          refine wpList_step (fun K hK => ?_)
          rw [if_pos (by rfl)]
          go_simp
          refine hK _ _ ?_
          clear hK K
          try simp only [Act.put,nA,nB,nC]
         cases t2
         case cons a b =>
          have HRes : Hid (R = false) := HR2.out.symm
          have lz : ((List.length (a :: b) : Int) == 0) = false := by simp; omega
          iterate 2
           (refine wpList_plain rfl (fun K hK => ?_)); go_simp; refine hK _ _ ?_; clear hK K; try simp only [Act.put,nA,nB,nC]
          iterate 4
           refine wpList_step (fun K hK => ?_)
           rw [if_neg (Bool.eq_false_iff.1 (by rfl))]
           refine hK _ _ ?_
           clear hK K
           try simp only [Act.put,nA,nB,nC]
          iterate 2
           (refine wpList_plain rfl (fun K hK => ?_)); go_simp; refine hK _ _ ?_; clear hK K; try simp only [Act.put,nA,nB,nC]
          iterate 4
           refine wpList_step (fun K hK => ?_)
           rw [if_neg (Bool.eq_false_iff.1 (by rfl))]
           refine hK _ _ ?_
           clear hK K
           try simp only [Act.put,nA,nB,nC]
          iterate 2
           (refine wpList_plain rfl (fun K hK => ?_)); go_simp; refine hK _ _ ?_; clear hK K; try simp only [Act.put,nA,nB,nC]
          clear GX GY T6 N6 t6o HSub HSub2 ck ct h1e h2e
          go_wp2_with fail
          go_ret
          exact ⟨by rw [HRes.out]; rfl, HBf.out⟩
         case nil =>
          iterate 2
           (refine wpList_plain rfl (fun K hK => ?_)); go_simp; refine hK _ _ ?_; clear hK K; try simp only [Act.put,nA,nB,nC]
          set_option maxRecDepth 20000 in
          refine wpList_loadDg rfl _ rfl y rfl X HX.out GX.out ?_
          try simp only [Act.put,nA,nB,nC]
          refine wpList_step (fun K hK => ?_)
          rw [if_pos (by rfl)]
          go_simp
          refine hK _ _ ?_
          clear hK K
          try simp only [Act.put,nA,nB,nC]
          set_option maxRecDepth 20000 in
          refine wpList_loadAtG rfl _ rfl (N + 1) 1 rfl od hod.out _ _ t6o.out HSub.out ?_
          try simp only [Act.put,nA,nB,nC]
          refine wpList_step (fun K hK => ?_)
          rw [if_pos (by rfl)]
          go_simp
          refine hK _ _ ?_
          clear hK K
          try simp only [Act.put,nA,nB,nC]
          iterate 2
           (refine wpList_plain rfl (fun K hK => ?_)); go_simp; refine hK _ _ ?_; clear hK K; try simp only [Act.put,nA,nB,nC]
          cases Q1
          case false =>
           have HRes : Hid (R = false) := HR2.out.symm
           iterate 4
            refine wpList_step (fun K hK => ?_)
            rw [if_neg (Bool.eq_false_iff.1 (by rfl))]
            refine hK _ _ ?_
            clear hK K
            try simp only [Act.put,nA,nB,nC]
           iterate 2
            (refine wpList_plain rfl (fun K hK => ?_)); go_simp; refine hK _ _ ?_; clear hK K; try simp only [Act.put,nA,nB,nC]
           clear GX GY T6 N6 t6o HSub HSub2 ck ct h1e h2e
           go_wp2_with fail
           go_ret
           exact ⟨by rw [HRes.out]; rfl, HBf.out⟩
          case true =>
           have HRes : Hid (R = Q2) := HR2.out.symm
           set_option maxRecDepth 20000 in
           refine wpList_loadDg rfl _ rfl (y + 1) rfl Y HY.out GY.out ?_
           try simp only [Act.put,nA,nB,nC]
           refine wpList_step (fun K hK => ?_)
           rw [if_pos (by rfl)]
           go_simp
           refine hK _ _ ?_
           clear hK K
           try simp only [Act.put,nA,nB,nC]
           set_option maxRecDepth 20000 in
           refine wpList_loadAtG rfl _ rfl (N + 2) 1 rfl nd hnd.out _ _ N6.out HSub2.out ?_
           try simp only [Act.put,nA,nB,nC]
           refine wpList_step (fun K hK => ?_)
           rw [if_pos (by rfl)]
           go_simp
           refine hK _ _ ?_
           clear hK K
           try simp only [Act.put,nA,nB,nC]
           iterate 2
            (refine wpList_plain rfl (fun K hK => ?_)); go_simp; refine hK _ _ ?_; clear hK K; try simp only [Act.put,nA,nB,nC]
           clear GX GY T6 N6 t6o HSub HSub2 ck ct h1e h2e
           go_wp2_with fail
           go_ret
           exact ⟨by rw [HRes.out]; rfl, HBf.out⟩
end Go.Proofs.Ytihbhpggpnmifaa
