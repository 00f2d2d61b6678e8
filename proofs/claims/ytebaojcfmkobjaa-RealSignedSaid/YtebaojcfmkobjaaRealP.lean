/-
  Plain facts of RealSigned: what a message that is put needs to be real.
-/
import Derived.Test.YtebaojcfmkobjaaRealGp
set_option linter.unusedVariables false
set_option linter.unusedSimpArgs false
namespace Go.Proofs.Ytebaojcfmkobjaa
open Go.RowKit

def digM (x : MsD) : Int := if x.k = 6 then x.c.d else x.d
def setD (x : MsD) (d : Int) : MsD := if x.k = 6 then { x with c := { x.c with d := d } } else { x with d := d }
def anoB : List UInt8 := [97, 110, 111, 116, 104, 101, 114, 32, 111, 110, 101]
theorem setD_6 {x : MsD} (h : x.k = 6) (d : Int) : setD x d = { x with c := { x.c with d := d } } := if_pos h
theorem setD_n {x : MsD} (h : x.k ≠ 6) (d : Int) : setD x d = { x with d := d } := if_neg h
theorem only_d {x : MsD} (h : onlyM x = x) (hk : x.k = 1 ∨ x.k = 3 ∨ x.k = 4) (d : Int) : onlyM { x with d := d } = { x with d := d } := by
  obtain ⟨_, _, _, _, e5, e6, e7, e8⟩ := MsD.eq_iff.1 h
  have hd : hasD x.k = true := by unfold hasD; rw [decide_eq_true_eq]; omega
  refine MsD.ext_ rfl rfl rfl ?_ e5 e6 e7 e8
  show (if hasD x.k then d else 0) = d
  rw [hd]; rfl
theorem only_cd {x : MsD} (h : onlyM x = x) (hk : x.k = 6) (d : Int) : onlyM { x with c := { x.c with d := d } } = { x with c := { x.c with d := d } } := by
  obtain ⟨_, _, _, e4, e5, e6, _, e8⟩ := MsD.eq_iff.1 h
  have hc : hasC x.k = true := by unfold hasC; rw [decide_eq_true_eq]; exact hk
  refine MsD.ext_ rfl rfl rfl e4 e5 e6 ?_ e8
  show (if hasC x.k then _ else zC) = _
  rw [hc]; rfl
theorem sorted_head : ∀ (l : List Int) (a : Int), sortedI (a :: l) = true → ∀ y ∈ l, a < y
  | [], a, _, y, hy => by simp at hy
  | b :: r, a, h, y, hy => by
    rw [sortedI, Bool.and_eq_true, decide_eq_true_eq] at h
    rcases List.mem_cons.1 hy with rfl | hy
    · exact h.1
    · exact Int.lt_trans h.1 (sorted_head r b h.2 y hy)
theorem sorted_nodup : ∀ (l : List Int), sortedI l = true → l.Nodup
  | [], _ => List.nodup_nil
  | [a], _ => by simp
  | a :: b :: r, h => by
    have h2 := sorted_head (b :: r) a h
    rw [sortedI, Bool.and_eq_true] at h
    exact List.nodup_cons.2 ⟨fun hm => by have := h2 a hm; omega, sorted_nodup (b :: r) h.2⟩
structure SgF (x y : MsD) (bs : List UInt8) (W : List Int) : Prop where
  L : putLs [] x = [bs]
  d : digM y = 1
  self : setD y 1 = y
  re : ∀ L sg ls d, realB L sg ls (setD y d) = (isB L d bs && W.all fun z => byB sg ls z d)
  may : ∀ d, 1 ≤ d → d ≤ 65536 → mayM 4 (setD y d) = true
  nd : W.Nodup
  ne : 0 < W.length
  rg : ∀ z ∈ W, 1 ≤ z ∧ z ≤ 16
  no : bs ≠ anoB
theorem putM_same (x : MsD) : (putM [] x).k = x.k ∧ (putM [] x).f = x.f ∧ (putM [] x).b = x.b ∧ (putM [] x).h = x.h ∧ (putM [] x).c.h = x.c.h ∧ (putM [] x).c.ss = x.c.ss := by
  unfold putM
  split
  · exact ⟨rfl, rfl, rfl, rfl, rfl, rfl⟩
  · split <;> exact ⟨rfl, rfl, rfl, rfl, rfl, rfl⟩
theorem put_one {x : MsD} {bs : List UInt8} (h : rawM x = some bs) : putLs [] x = [bs] ∧ (x.k = 6 → (putM [] x).c.d = 1) ∧ (x.k ≠ 6 → (putM [] x).d = 1) := by
  refine ⟨?_, fun hk => ?_, fun hk => ?_⟩
  · unfold putLs; rw [h]; simp [addL, fnd]
  · rw [(put_6 h hk).1]; simp [digN, fnd]
  · rw [(put_d h hk).1]; simp [digN, fnd]
theorem sgf_13 {x : MsD} (hk : x.k = 1 ∨ x.k = 3) (hm : mayM 4 (putM [] x) = true) : SgF x (putM [] x) (batchB x.b.a x.b.n x.b.l) [x.b.a] := by
  obtain ⟨p1, p2, p3, p4, p5, p6⟩ := putM_same x
  have hk' : (putM [] x).k = 1 ∨ (putM [] x).k = 3 := by rw [p1]; exact hk
  have hb := may_b hm hk'
  rw [p3] at hb
  have hr : rawM x = some (batchB x.b.a x.b.n x.b.l) := by rw [raw_13 hk, if_pos hb]
  obtain ⟨q1, _, q3⟩ := put_one hr
  have hd := q3 (by omega)
  have h6 : (putM [] x).k ≠ 6 := by omega
  obtain ⟨m1, m2, m3⟩ := mayM_iff.1 hm
  refine ⟨q1, by rw [digM, if_neg h6]; exact hd, ?_, fun L sg ls d => ?_, fun d d1 d2 => ?_, by simp, by simp, fun z hz => ?_, fun e => ?_⟩
  · rw [setD_n h6]; exact MsD.ext_ rfl rfl rfl hd.symm rfl rfl rfl rfl
  · rw [setD_n h6, real_13 (x := { putM [] x with d := d }) hk']
    show (isB L d (batchB (putM [] x).b.a (putM [] x).b.n (putM [] x).b.l) && byB sg ls (putM [] x).b.a d) = _
    rw [p3]; simp
  · rw [setD_n h6]
    refine mayM_iff.2 ⟨m1, ?_, only_d m3 (by omega) d⟩
    have hB : hasB (putM [] x).k = true := by unfold hasB; rw [decide_eq_true_eq]; exact hk'
    unfold okM at m2 ⊢
    rw [hB] at m2
    show (if hasB (putM [] x).k then _ else _) = true
    rw [hB]
    simp only [if_true, Bool.and_eq_true] at m2 ⊢
    exact ⟨digO_iff.2 ⟨d1, d2⟩, m2.2⟩
  · have hz : z = x.b.a := by simpa using hz
    subst hz; exact (mayB_iff.1 hb).1
  · have h1 := parseB_there hb
    rw [e] at h1
    exact absurd h1 (by rw [show parseB anoB = none by decide +kernel]; simp)
theorem sgf_4 {x : MsD} (hk : x.k = 4) (hm : mayM 4 (putM [] x) = true) : SgF x (putM [] x) (headerB x.h) [x.f] := by
  obtain ⟨p1, p2, p3, p4, p5, p6⟩ := putM_same x
  have hk' : (putM [] x).k = 4 := by rw [p1]; exact hk
  have hb := may_h hm hk'
  rw [p4] at hb
  have hr : rawM x = some (headerB x.h) := by rw [raw_4 hk, if_pos hb]
  obtain ⟨q1, _, q3⟩ := put_one hr
  have hd := q3 (by omega)
  have h6 : (putM [] x).k ≠ 6 := by omega
  obtain ⟨m1, m2, m3⟩ := mayM_iff.1 hm
  refine ⟨q1, by rw [digM, if_neg h6]; exact hd, ?_, fun L sg ls d => ?_, fun d d1 d2 => ?_, by simp, by simp, fun z hz => ?_, fun e => ?_⟩
  · rw [setD_n h6]; exact MsD.ext_ rfl rfl rfl hd.symm rfl rfl rfl rfl
  · rw [setD_n h6, real_4 (x := { putM [] x with d := d }) hk']
    show (isB L d (headerB (putM [] x).h) && byB sg ls (putM [] x).f d) = _
    rw [p4, p2]; simp
  · rw [setD_n h6]
    refine mayM_iff.2 ⟨m1, ?_, only_d m3 (by omega) d⟩
    have hB : hasB (putM [] x).k = false := by unfold hasB; rw [decide_eq_false_iff_not]; omega
    have hH : hasH (putM [] x).k = true := by unfold hasH; rw [decide_eq_true_eq]; exact hk'
    unfold okM at m2 ⊢
    rw [hB, hH] at m2
    show (if hasB (putM [] x).k then _ else if hasH (putM [] x).k then _ else _) = true
    rw [hB, hH]
    simp only [Bool.false_eq_true, if_false, if_true, Bool.and_eq_true] at m2 ⊢
    exact ⟨digO_iff.2 ⟨d1, d2⟩, m2.2⟩
  · have hz : z = x.f := by simpa using hz
    subst hz
    have := (pairM_iff.1 m1).2.1
    rw [p2] at this; omega
  · have h1 := parseH_there hb
    rw [e] at h1
    exact absurd h1 (by rw [show parseH anoB = none by decide +kernel]; simp)
theorem sgf_6 {x : MsD} (hk : x.k = 6) (hm : mayM 4 (putM [] x) = true) : SgF x (putM [] x) (headerB x.c.h) x.c.ss := by
  obtain ⟨p1, p2, p3, p4, p5, p6⟩ := putM_same x
  have hk' : (putM [] x).k = 6 := by rw [p1]; exact hk
  obtain ⟨hb, _, _⟩ := may_c hm hk'
  rw [p5] at hb
  have hr : rawM x = some (headerB x.c.h) := by rw [raw_6 hk, if_pos hb]
  obtain ⟨q1, q2, _⟩ := put_one hr
  have hd := q2 hk
  obtain ⟨m1, m2, m3⟩ := mayM_iff.1 hm
  have hB : hasB (putM [] x).k = false := by unfold hasB; rw [decide_eq_false_iff_not]; omega
  have hH : hasH (putM [] x).k = false := by unfold hasH; rw [decide_eq_false_iff_not]; omega
  have hD : hasD (putM [] x).k = false := by unfold hasD; rw [decide_eq_false_iff_not]; omega
  have hC : hasC (putM [] x).k = true := by unfold hasC; rw [decide_eq_true_eq]; exact hk'
  have mc : mayC 4 (putM [] x).c = true := by
    unfold okM at m2
    rw [hB, hH, hD, hC] at m2
    simpa using m2
  obtain ⟨c1, c2, c3, c4⟩ := mayC_iff.1 mc
  rw [p6] at c3 c4
  obtain ⟨r1, r2⟩ := rises_iff.1 c3
  refine ⟨q1, by rw [digM, if_pos hk']; exact hd, ?_, fun L sg ls d => ?_, fun d d1 d2 => ?_, sorted_nodup _ r2, ?_, fun z hz => ?_, fun e => ?_⟩
  · rw [setD_6 hk']
    refine MsD.ext_ rfl rfl rfl rfl rfl rfl ?_ rfl
    show ({ (putM [] x).c with d := 1 } : CtD) = (putM [] x).c
    rw [← hd]
  · rw [setD_6 hk', real_6 (x := { putM [] x with c := { (putM [] x).c with d := d } }) hk']
    show (isB L d (headerB (putM [] x).c.h) && (putM [] x).c.ss.all fun z => byB sg ls z d) = _
    rw [p5, p6]
  · rw [setD_6 hk']
    refine mayM_iff.2 ⟨m1, ?_, only_cd m3 hk' d⟩
    unfold okM
    show (if hasB (putM [] x).k then _ else if hasH (putM [] x).k then _ else if hasD (putM [] x).k then _ else if hasC (putM [] x).k then _ else _) = true
    rw [hB, hH, hD, hC]
    simp only [Bool.false_eq_true, if_false, if_true]
    exact mayC_iff.2 ⟨c1, digO_iff.2 ⟨d1, d2⟩, by show rises 1 4 (putM [] x).c.ss = true; rw [p6]; exact c3, by show qC 4 ≤ ((putM [] x).c.ss.length : Int); rw [p6]; exact c4⟩
  · have : qC 4 = 3 := by decide
    omega
  · have := r1 z hz; omega
  · have h1 := parseH_there hb
    rw [e] at h1
    exact absurd h1 (by rw [show parseH anoB = none by decide +kernel]; simp)
/-- The first k have signed. -/
def sgW (W : List Int) (k : Nat) : Int × Int → Bool := fun q => decide (q.2 = 1 ∧ q.1 ∈ W.take k)
theorem sgW_0 (W : List Int) : sgW W 0 = fun _ => false := by funext q; simp [sgW]
theorem sgW_up {W : List Int} {k : Nat} {z : Int} (h : W[k]? = some z) : sgUp 0 (sgW W k) (z, 1) = sgW W (k + 1) := by
  rw [sgUp_0]
  funext q
  unfold sgAdd sgW
  rw [take_at h, Bool.eq_iff_iff]
  simp only [Bool.or_eq_true, decide_eq_true_eq, List.mem_append, List.mem_singleton, Prod.ext_iff]
  constructor
  · rintro (⟨a, b⟩ | ⟨a, b⟩)
    · exact ⟨b, .inr a⟩
    · exact ⟨a, .inl b⟩
  · rintro ⟨a, b | b⟩
    · exact .inr ⟨a, b⟩
    · exact .inl ⟨b, a⟩
section
variable {x y : MsD} {bs : List UInt8} {W : List Int} {k : Nat}
theorem isB_1 : isB [bs] 1 bs = true := by simp [isB, fnd, fndN]
theorem isB_1' {o : List UInt8} : isB [bs, o] 1 bs = true := by simp [isB, fnd, fndN]
theorem isB_2' {o : List UInt8} : isB [bs, o] 2 bs = false := by simp [isB, fnd, fndN]
theorem SgF.may1 (h : SgF x y bs W) : mayM 4 y = true := by have := h.may 1 (by omega) (by omega); rw [h.self] at this; exact this
theorem SgF.re1 (h : SgF x y bs W) (L : List (List UInt8)) (sg : Int × Int → Bool) (ls : List Int) : realB L sg ls y = (isB L 1 bs && W.all fun z => byB sg ls z 1) := by have := h.re L sg ls 1; rw [h.self] at this; exact this
theorem SgF.chk0 (h : SgF x y bs W) {z : Int} (hz : W[k]? = some z) : chkE [bs] (sgW W k) [] 4 y = 7 := by
  unfold chkE
  rw [h.may1, h.re1, isB_1, if_pos rfl, if_neg]
  simp only [Bool.true_and, Bool.not_eq_true, List.all_eq_false]
  refine ⟨z, mem_of_at hz, ?_⟩
  have : z ∉ W.take k := fun hm => by
    obtain ⟨i, hi⟩ := List.mem_iff_getElem?.1 hm
    rw [List.getElem?_take] at hi
    split at hi
    · rename_i hik
      have := (List.getElem?_inj (lt_of_at hi) h.nd).1 (hi.trans hz.symm)
      omega
    · cases hi
  simp [byB, sgW, this]
theorem SgF.chk1 (h : SgF x y bs W) : chkE [bs] (sgW W k) W 4 y = 0 := by
  unfold chkE
  rw [h.may1, h.re1, isB_1, if_pos rfl, if_pos]
  simp only [Bool.true_and, List.all_eq_true]
  intro z hz
  simp [byB, hz]
theorem SgF.chk2 (h : SgF x y bs W) : chkE [bs] (sgW W k) (W.drop k) 4 y = 0 := by
  unfold chkE
  rw [h.may1, h.re1, isB_1, if_pos rfl, if_pos]
  simp only [Bool.true_and, List.all_eq_true]
  intro z hz
  rw [← List.take_append_drop k W] at hz
  rcases List.mem_append.1 hz with hz | hz
  · simp [byB, sgW, hz]
  · simp [byB, hz]
theorem SgF.chk3 (h : SgF x y bs W) {o : List UInt8} (hk : W.length ≤ k) : chkE [bs, o] (sgW W k) [] 4 y = 0 := by
  unfold chkE
  rw [h.may1, h.re1, isB_1', if_pos rfl, if_pos]
  simp only [Bool.true_and, List.all_eq_true]
  intro z hz
  simp [byB, sgW, List.take_of_length_le hk, hz]
theorem SgF.chk4 (h : SgF x y bs W) {o : List UInt8} {sg : Int × Int → Bool} {ls : List Int} : chkE [bs, o] sg ls 4 (setD y 2) = 7 := by
  unfold chkE
  rw [h.may 2 (by omega) (by omega), h.re, isB_2', if_pos rfl, if_neg (by simp)]
theorem SgF.sgr (h : SgF x y bs W) {z : Int} (hz : W[k]? = some z) : sgR [bs].length z 1 = 0 := by
  have := h.rg z (mem_of_at hz)
  unfold sgR
  rw [if_pos this, if_pos (by simp)]
theorem SgF.dig (h : SgF x y bs W) : digN [bs] anoB = 2 ∧ addL [bs] anoB = [bs, anoB] := by
  have : fnd [bs] anoB = none := by simp [fnd, h.no]
  unfold digN addL
  rw [this]; exact ⟨rfl, rfl⟩
end
end Go.Proofs.Ytebaojcfmkobjaa
