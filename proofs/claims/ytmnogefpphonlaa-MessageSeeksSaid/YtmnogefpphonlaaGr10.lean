/-
  Texts joined: words and contracts that later texts use; lemmas alone, no conditions of a statement.
-/
import Derived.Test.YtmnogefpphonlaaMsgM
import Derived.Deep.DeepCutAuto
import Derived.Test.YtmnogefpphonlaaGr00
set_option linter.unusedVariables false
set_option linter.unusedSimpArgs false
/-
  Contracts: message.only whole, message.head, message.May.
-/
namespace Go.Proofs.Ytmnogefpphonlaa
open Go.RowKit

theorem Sl.ilen_ {w : World} {A : Option Addr} {n : Nat} {l : List Int} (h : Sl w 1 A n (ints l)) : l.length = n := by have := h.1; simp [ints] at this; omega
theorem MsS.only {w : World} {x : MsD} {v : MsV} (h : MsS w x v) : MsS w (onlyM x) (onlyV x.k v) := by
  constructor
  all_goals
    simp only [onlyM, onlyV]
  · split
    · exact h.tx
    · exact Sl.nil_
  · split
    · exact h.hb
    · exact Sl.nil_
  · split
    · exact h.hp
    · exact Sl.nil_
  · split
    · exact h.cb
    · exact Sl.nil_
  · split
    · exact h.cp
    · exact Sl.nil_
  · split
    · exact h.cs
    · exact Sl.nil_
  · split
    · exact h.ds
    · exact Sl.nil_
theorem may_tests {n : Int} {x y : MsD} {v u : MsV} {w : World} (hs : MsS w x v) (hp : pairM n x = true) (hy : onlyM x = y) (hu : onlyV x.k v = u) :
    mayM n x = (okM n x && ((x.d == y.d) && ((x.b.a == y.b.a) && ((x.b.n == y.b.n) && ((v.tx.n == u.tx.n) && (decide (x.h.a = y.h.a ∧ x.h.r = y.h.r ∧ v.hb.n = u.hb.n ∧ v.hp.n = u.hp.n) && (decide (x.c.h.a = y.c.h.a ∧ x.c.h.r = y.c.h.r ∧ v.cb.n = u.cb.n ∧ v.cp.n = u.cp.n) && ((x.c.d == y.c.d) && ((v.cs.n == u.cs.n) && (v.ds.n == u.ds.n)))))))))) := by
  subst hy; subst hu
  have ho := hs.only
  have a1 := hs.tx.txlen; have a2 := hs.hb.ilen_; have a3 := hs.hp.ilen_; have a4 := hs.cb.ilen_; have a5 := hs.cp.ilen_; have a6 := hs.cs.ilen_; have a7 := hs.ds.ilen_
  have b1 := ho.tx.txlen; have b2 := ho.hb.ilen_; have b3 := ho.hp.ilen_; have b4 := ho.cb.ilen_; have b5 := ho.cp.ilen_; have b6 := ho.cs.ilen_; have b7 := ho.ds.ilen_
  rw [Bool.eq_iff_iff, mayM_iff, only_iff]
  rw [← a1, ← a2, ← a3, ← a4, ← a5, ← a6, ← a7, ← b1, ← b2, ← b3, ← b4, ← b5, ← b6, ← b7]
  simp only [hp, true_and, Bool.and_eq_true, beq_iff_eq, decide_eq_true_eq]

theorem message_only (n : Int) (x : MsD) (v : MsV) (w : World) (HS : Hid (MsS w x v)) (HZ : Hid (MsZ x v)) {C : Array Value} (HC : Hid (C = msC x v)) :
    Calls Try.prog 58 #[.agg C, .int .i64 n] w fun e w' => ∃ D, e = .returned (.tuple #[.agg D, .bool (okM n x)]) ∧ Hid (D = msC (onlyM x) (onlyV x.k v)) ∧ Below w.heap.size w w' := by
  obtain ⟨z0, z1, z2, z3, z4, z5, z6, z7⟩ := HZ.out
  have hl := HS.out.ds.ilen_
  obtain ⟨k, f, t, d, ⟨ba, bn, l⟩, ⟨ha, hr, hbs, hps⟩, ⟨⟨ca, cr, cbs, cps⟩, cd, ss⟩, s⟩ := x
  obtain ⟨⟨A1, n1, c1⟩, ⟨A2, n2, c2⟩, ⟨A3, n3, c3⟩, ⟨A4, n4, c4⟩, ⟨A5, n5, c5⟩, ⟨A6, n6, c6⟩, ⟨A7, n7, c7⟩⟩ := v
  simp only at z0 z1 z2 z3 z4 z5 z6 z7 hl
  by_cases g1 : k = 1
  · subst g1
    refine (only_1 n f t d ba bn ha hr ca cr cd l hbs hps cbs cps ss s w HS z0 z1 z2 z3 z4 z5 z6 z7 (r := okM n ⟨1, f, t, d, ⟨ba, bn, l⟩, ⟨ha, hr, hbs, hps⟩, ⟨⟨ca, cr, cbs, cps⟩, cd, ss⟩, s⟩) (by simp [Hid, okM, hasB, hasD, hasH, hasC, hasS]) HC).mono ?_
    rintro e w' ⟨rfl, hb⟩
    exact ⟨_, rfl, by simp [Hid, msC, onlyM, onlyV, hasB, hasD, hasH, hasC, hasS, zB, zH, zC, nilV, SlV.v], hb⟩
  by_cases g2 : k = 2
  · subst g2
    refine (only_2 n f t d ba bn ha hr ca cr cd l hbs hps cbs cps ss s w HS z0 z1 z2 z3 z4 z5 z6 z7 (r := okM n ⟨2, f, t, d, ⟨ba, bn, l⟩, ⟨ha, hr, hbs, hps⟩, ⟨⟨ca, cr, cbs, cps⟩, cd, ss⟩, s⟩) (by simp [Hid, okM, hasB, hasD, hasH, hasC, hasS]) HC).mono ?_
    rintro e w' ⟨rfl, hb⟩
    exact ⟨_, rfl, by simp [Hid, msC, onlyM, onlyV, hasB, hasD, hasH, hasC, hasS, zB, zH, zC, nilV, SlV.v], hb⟩
  by_cases g3 : k = 3
  · subst g3
    refine (only_3 n f t d ba bn ha hr ca cr cd l hbs hps cbs cps ss s w HS z0 z1 z2 z3 z4 z5 z6 z7 (r := okM n ⟨3, f, t, d, ⟨ba, bn, l⟩, ⟨ha, hr, hbs, hps⟩, ⟨⟨ca, cr, cbs, cps⟩, cd, ss⟩, s⟩) (by simp [Hid, okM, hasB, hasD, hasH, hasC, hasS]) HC).mono ?_
    rintro e w' ⟨rfl, hb⟩
    exact ⟨_, rfl, by simp [Hid, msC, onlyM, onlyV, hasB, hasD, hasH, hasC, hasS, zB, zH, zC, nilV, SlV.v], hb⟩
  by_cases g4 : k = 4
  · subst g4
    refine (only_4 n f t d ba bn ha hr ca cr cd l hbs hps cbs cps ss s w HS z0 z1 z2 z3 z4 z5 z6 z7 (r := okM n ⟨4, f, t, d, ⟨ba, bn, l⟩, ⟨ha, hr, hbs, hps⟩, ⟨⟨ca, cr, cbs, cps⟩, cd, ss⟩, s⟩) (by simp [Hid, okM, hasB, hasD, hasH, hasC, hasS, Bool.beq_eq_decide_eq]) HC).mono ?_
    rintro e w' ⟨rfl, hb⟩
    exact ⟨_, rfl, by simp [Hid, msC, onlyM, onlyV, hasB, hasD, hasH, hasC, hasS, zB, zH, zC, nilV, SlV.v], hb⟩
  by_cases g5 : k = 5
  · subst g5
    refine (only_5 n f t d ba bn ha hr ca cr cd l hbs hps cbs cps ss s w HS z0 z1 z2 z3 z4 z5 z6 z7 (r := okM n ⟨5, f, t, d, ⟨ba, bn, l⟩, ⟨ha, hr, hbs, hps⟩, ⟨⟨ca, cr, cbs, cps⟩, cd, ss⟩, s⟩) (by simp [Hid, okM, hasB, hasD, hasH, hasC, hasS]) HC).mono ?_
    rintro e w' ⟨rfl, hb⟩
    exact ⟨_, rfl, by simp [Hid, msC, onlyM, onlyV, hasB, hasD, hasH, hasC, hasS, zB, zH, zC, nilV, SlV.v], hb⟩
  by_cases g6 : k = 6
  · subst g6
    refine (only_6 n f t d ba bn ha hr ca cr cd l hbs hps cbs cps ss s w HS z0 z1 z2 z3 z4 z5 z6 z7 (r := okM n ⟨6, f, t, d, ⟨ba, bn, l⟩, ⟨ha, hr, hbs, hps⟩, ⟨⟨ca, cr, cbs, cps⟩, cd, ss⟩, s⟩) (by simp [Hid, okM, hasB, hasD, hasH, hasC, hasS]) HC).mono ?_
    rintro e w' ⟨rfl, hb⟩
    exact ⟨_, rfl, by simp [Hid, msC, onlyM, onlyV, hasB, hasD, hasH, hasC, hasS, zB, zH, zC, nilV, SlV.v], hb⟩
  by_cases g7 : k = 7
  · subst g7
    refine (only_7 n f t d ba bn ha hr ca cr cd l hbs hps cbs cps ss s w HS z0 z1 z2 z3 z4 z5 z6 z7 (r := okM n ⟨7, f, t, d, ⟨ba, bn, l⟩, ⟨ha, hr, hbs, hps⟩, ⟨⟨ca, cr, cbs, cps⟩, cd, ss⟩, s⟩) (by simp [Hid, okM, hasB, hasD, hasH, hasC, hasS, hl]) HC).mono ?_
    rintro e w' ⟨rfl, hb⟩
    exact ⟨_, rfl, by simp [Hid, msC, onlyM, onlyV, hasB, hasD, hasH, hasC, hasS, zB, zH, zC, nilV, SlV.v], hb⟩
  by_cases g8 : k = 8
  · subst g8
    refine (only_8 n f t d ba bn ha hr ca cr cd l hbs hps cbs cps ss s w HS z0 z1 z2 z3 z4 z5 z6 z7 (r := okM n ⟨8, f, t, d, ⟨ba, bn, l⟩, ⟨ha, hr, hbs, hps⟩, ⟨⟨ca, cr, cbs, cps⟩, cd, ss⟩, s⟩) (by simp [Hid, okM, hasB, hasD, hasH, hasC, hasS, hl]) HC).mono ?_
    rintro e w' ⟨rfl, hb⟩
    exact ⟨_, rfl, by simp [Hid, msC, onlyM, onlyV, hasB, hasD, hasH, hasC, hasS, zB, zH, zC, nilV, SlV.v], hb⟩
  refine (only_x n k f t d ba bn ha hr ca cr cd l hbs hps cbs cps ss s w HS z0 z1 z2 z3 z4 z5 z6 z7 (r := okM n ⟨k, f, t, d, ⟨ba, bn, l⟩, ⟨ha, hr, hbs, hps⟩, ⟨⟨ca, cr, cbs, cps⟩, cd, ss⟩, s⟩) ?_ g1 g2 g3 g4 g5 g6 g7 g8 HC).mono ?_
  · have h5 : ¬ (1 ≤ k ∧ k ≤ 5) := by omega
    simp [Hid, okM, hasB, hasD, hasH, hasC, hasS, g1, g3, g4, g6, g7, g8, h5]
  · have h5 : ¬ (1 ≤ k ∧ k ≤ 5) := by omega
    rintro e w' ⟨rfl, hb⟩
    exact ⟨_, rfl, by simp [Hid, msC, onlyM, onlyV, hasB, hasD, hasH, hasC, hasS, g1, g3, g4, g6, g7, g8, h5, zB, zH, zC, nilV, SlV.v], hb⟩
set_option maxRecDepth 100000 in
set_option maxHeartbeats 2000000 in
theorem message_head {A1 A2 B1 B2 : Option Addr} {n1 c1 n2 c2 m1 d1 m2 d2 : Nat} (a r b q : Int) (w : World) :
    Calls Try.prog 59 #[.agg #[.int .i64 a, .int .i64 r, .slice A1 n1 c1, .slice A2 n2 c2], .agg #[.int .i64 b, .int .i64 q, .slice B1 m1 d1, .slice B2 m2 d2]] w
      fun e w' => e = .returned (.bool (decide (a = b ∧ r = q ∧ n1 = m1 ∧ n2 = m2))) ∧ Below w.heap.size w w' := by
  have hb : Below w.heap.size w ((w.alloc (.cells #[.int .i64 a, .int .i64 r, .slice A1 n1 c1, .slice A2 n2 c2] 28)).alloc (.cells #[.int .i64 b, .int .i64 q, .slice B1 m1 d1, .slice B2 m2 d2] 28)) := (below_alloc' w _).alloc (by simp) _
  have HB := hide hb
  clear hb
  by_cases h1 : a = b
  case neg =>
    have hd1 : (a == b) = false := by simpa using h1
    have HN : Hid (¬ (a = b ∧ r = q ∧ n1 = m1 ∧ n2 = m2)) := fun h => h1 h.1
    clear h1
    go_enter Try.func59, Try.ntmps59
    go_wp2_with fail
    go_ret
    exact ⟨ret_bool (by first | exact (decide_eq_false HN.out).symm | simp [HN.out]), HB.out⟩
  by_cases h2 : r = q
  case neg =>
    have hd1 : (a == b) = true := by simpa using h1
    have hd2 : (r == q) = false := by simpa using h2
    have HN : Hid (¬ (a = b ∧ r = q ∧ n1 = m1 ∧ n2 = m2)) := fun h => h2 h.2.1
    clear h1 h2
    go_enter Try.func59, Try.ntmps59
    go_wp2_with fail
    go_ret
    exact ⟨ret_bool (by first | exact (decide_eq_false HN.out).symm | simp [HN.out]), HB.out⟩
  subst h1
  subst h2
  by_cases h3 : n1 = m1
  case neg =>
    have hd3 : ((n1 : Int) == (m1 : Int)) = false := by simp; omega
    have hd3' : (n1 == m1) = false := by simpa using h3
    have HM : Hid (n1 ≠ m1) := h3
    clear h3
    go_enter Try.func59, Try.ntmps59
    go_wp2_with fail
    go_ret
    exact ⟨ret_bool (by have := HM.out; simp; omega), HB.out⟩
  subst h3
  go_enter Try.func59, Try.ntmps59
  go_wp2_with fail
  go_ret
  refine ⟨ret_bool ?_, HB.out⟩
  rw [Bool.eq_iff_iff]
  simp
  try omega
end Go.Proofs.Ytmnogefpphonlaa
/-
  A region walked over a frame that is known by facts alone: 'Frm a n M': n slots, of which those that M names hold what M says. A region may be cut into segments. Over any program.
-/
namespace Go.Proofs.Ytmnogefpphonlaa
open Go.RowKit

/-- The first entry of a slot. -/
def lk : List (Nat × Value) → Nat → Option Value
  | [], _ => none
  | (k, v) :: r, t => bif Nat.beq k t then some v else lk r t
theorem lk_mem {M : List (Nat × Value)} {t : Nat} {v : Value} (h : lk M t = some v) : (t, v) ∈ M := by
  induction M with
  | nil => cases h
  | cons p r ih =>
    obtain ⟨k, u⟩ := p
    unfold lk at h
    cases hk : Nat.beq k t with
    | true =>
      rw [hk] at h
      have : k = t := Nat.eq_of_beq_eq_true hk
      subst this
      simp at h
      subst h
      simp
    | false => rw [hk] at h; exact List.mem_cons_of_mem _ (ih h)

def Frm (a : Act) (n : Nat) (M : List (Nat × Value)) : Prop := a.tmps.size = n ∧ a.defers = [] ∧ ∀ t v, lk M t = some v → a.tmps[t]? = some v

section
variable {P : Program} {a : Act} {n : Nat} {M M' : List (Nat × Value)} {ops : Array Oper}
theorem Frm.start {cs : Array Value} (hn : cs.size = n) (h : ∀ p ∈ M, cs[p.1]? = some p.2) : Frm ⟨cs, []⟩ n M := ⟨hn, rfl, fun _ _ hl => h _ (lk_mem hl)⟩
theorem Frm.weak (h : Frm a n M) (hs : ∀ p ∈ M', lk M p.1 = some p.2) : Frm a n M' := ⟨h.1, h.2.1, fun t v hl => h.2.2 t v (hs _ (lk_mem hl))⟩
theorem Frm.at_ (h : Frm a n M) {t : Nat} {v : Value} (hl : lk M t = some v) : a.tmps[t]? = some v := h.2.2 t v hl
theorem Frm.ev (h : Frm a n M) {t : Nat} {v : Value} (hl : lk M t = some v) : a.eval (.tmp t) = v := by
  have := h.at_ hl
  simp [Act.eval, Array.getD_eq_getD_getElem?, this]
theorem Frm.put (h : Frm a n M) {d : Nat} (hd : d < n) (v : Value) : Frm (a.put (some d) v) n ((d, v) :: M) := by
  refine ⟨by simp [Act.put, h.1], h.2.1, fun t u hl => ?_⟩
  unfold lk at hl
  show (a.tmps.setIfInBounds d v)[t]? = some u
  rw [Array.getElem?_setIfInBounds]
  cases hk : Nat.beq d t with
  | true =>
    rw [hk] at hl
    have : d = t := Nat.eq_of_beq_eq_true hk
    subst this
    simp at hl
    subst hl
    rw [if_pos rfl, h.1, if_pos hd]
  | false =>
    rw [hk] at hl
    have : d ≠ t := fun e => by subst e; simp at hk
    rw [if_neg this]
    exact h.2.2 t u hl
theorem Frm.yield (h : Frm a n M) {j d : Nat} {b : Bool} (hj : (ops[j]?).bind (·.dst) = some d) (hl : lk M d = some (.bool b)) : yielded ops a.tmps j = some b := by
  unfold yielded
  rw [hj]
  simp [h.at_ hl]
end

/-- A segment of a region, K behind it. -/
def wpSeg (P : Program) (ops : Array Oper) (Q : Exit → Act → World → Prop) (K : Act → World → Prop) : List Oper → Act → World → Prop
  | [], a, w => K a w
  | o :: rest, a, w =>
    if Region.wanted o (yielded ops a.tmps) then o.wp P a w (wpSeg P ops Q K rest) Q ∨ (o.asks P a w ∧ LetsOut Q) else wpSeg P ops Q K rest (a.put o.dst undef) w

section
variable {P : Program} {ops : Array Oper} {Q : Exit → Act → World → Prop} {K : Act → World → Prop} {a : Act} {w w' : World} {rest : List Oper} {o : Oper} {n : Nat} {M : List (Nat × Value)}
theorem wpSeg_eq (l1 l2 : List Oper) : wpList P ops Q (l1 ++ l2) = wpSeg P ops Q (wpList P ops Q l2) l1 := by
  induction l1 with
  | nil => rfl
  | cons o l ih =>
    funext a w
    simp only [List.cons_append, wpList, wpSeg, ih]
/-- A region's first k operations, walked with what is behind them unseen. -/
theorem seg_cut (k : Nat) {l : List Oper} (S : Act → World → Prop)
    (h1 : ∀ K : Act → World → Prop, (∀ a' w', S a' w' → K a' w') → wpSeg P ops Q K (l.take k) a w) (h2 : ∀ a' w', S a' w' → wpList P ops Q (l.drop k) a' w') : wpList P ops Q l a w := by
  have e : l = l.take k ++ l.drop k := (List.take_append_drop k l).symm
  rw [e, wpSeg_eq]
  exact h1 _ h2
theorem seg_nil (h : K a w) : wpSeg P ops Q K [] a w := h
theorem seg_val {d : Nat} {v : Value} (hM : Frm a n M) (hd : o.dst = some d) (hn : d < n) (hg : o.guard = none) (hr : (execOp a.eval o).run P w = .ok (.value v) w')
    (h : ∀ a', Frm a' n ((d, v) :: M) → wpSeg P ops Q K rest a' w') : wpSeg P ops Q K (o :: rest) a w := by
  unfold wpSeg
  rw [if_pos (by simp [Region.wanted, hg])]
  refine .inl ?_
  unfold Oper.wp
  rw [hr, Oper.upon_value, hd]
  exact h _ (hM.put hn v)
theorem seg_valg {d j dj : Nat} {b : Bool} {v : Value} (hM : Frm a n M) (hd : o.dst = some d) (hn : d < n) (hg : o.guard = some (j, b)) (hj : (ops[j]?).bind (·.dst) = some dj) (hl : lk M dj = some (.bool b)) (hr : (execOp a.eval o).run P w = .ok (.value v) w')
    (h : ∀ a', Frm a' n ((d, v) :: M) → wpSeg P ops Q K rest a' w') : wpSeg P ops Q K (o :: rest) a w := by
  unfold wpSeg
  rw [if_pos (by simp [Region.wanted, hg, hM.yield hj hl])]
  refine .inl ?_
  unfold Oper.wp
  rw [hr, Oper.upon_value, hd]
  exact h _ (hM.put hn v)
theorem seg_same {d j dj : Nat} {b : Bool} {v : Value} (hM : Frm a n M) (hd : o.dst = some d) (hn : d < n) (hg : o.guard = some (j, b)) (hj : (ops[j]?).bind (·.dst) = some dj) (hl : lk M dj = some (.bool b)) (hr : (execOp a.eval o).run P w = .ok (.value v) w)
    (h : ∀ a', Frm a' n ((d, v) :: M) → wpSeg P ops Q K rest a' w) : wpSeg P ops Q K (o :: rest) a w := seg_valg hM hd hn hg hj hl hr h
theorem seg_skip {d j dj : Nat} {b c : Bool} (hM : Frm a n M) (hd : o.dst = some d) (hn : d < n) (hg : o.guard = some (j, b)) (hj : (ops[j]?).bind (·.dst) = some dj) (hl : lk M dj = some (.bool c)) (hc : c = !b)
    (h : ∀ a', Frm a' n ((d, undef) :: M) → wpSeg P ops Q K rest a' w) : wpSeg P ops Q K (o :: rest) a w := by
  unfold wpSeg
  rw [if_neg (by subst hc; simp [Region.wanted, hg, hM.yield hj hl])]
  rw [hd]
  exact h _ (hM.put hn undef)
theorem seg_callg {d j dj : Nat} {b : Bool} {f : FuncId} {args : Array Value} {v : Value} {R : World → Prop} (hM : Frm a n M) (hd : o.dst = some d) (hn : d < n) (hg : o.guard = some (j, b)) (hj : (ops[j]?).bind (·.dst) = some dj) (hl : lk M dj = some (.bool b))
    (hr : (execOp a.eval o).run P w = .ok (.enter f args) w) (hc : Calls P f args w fun e w' => e = .returned v ∧ R w')
    (h : ∀ a' w', Frm a' n ((d, v) :: M) → R w' → wpSeg P ops Q K rest a' w') : wpSeg P ops Q K (o :: rest) a w := by
  unfold wpSeg
  rw [if_pos (by simp [Region.wanted, hg, hM.yield hj hl])]
  refine .inl ?_
  unfold Oper.wp
  rw [hr, Oper.upon_enter]
  refine hc.mono ?_
  rintro e w' ⟨rfl, hR⟩
  simp only [hd]
  exact h _ _ (hM.put hn v) hR
theorem frame_off {l : List Oper} (n : Nat) (M : List (Nat × Value)) (h0 : Frm a n M) (h : ∀ a, Frm a n M → wpList P ops Q l a w) : wpList P ops Q l a w := h a h0
theorem seg_move {d s : Nat} {v : Value} (hM : Frm a n M) (hd : o.dst = some d) (hn : d < n) (hg : o.guard = none) (ho : o.op = .move (.tmp s) ∨ o.op = .assign (.tmp s)) (hs : lk M s = some v)
    (h : ∀ a', Frm a' n ((d, v) :: M) → wpSeg P ops Q K rest a' w) : wpSeg P ops Q K (o :: rest) a w :=
  seg_val hM hd hn hg (by rcases ho with ho | ho <;> simp [execOp, ho, hM.ev hs]) h
theorem seg_pick {d s1 s2 : Nat} {c : Bool} {v y : Value} (hM : Frm a n M) (hd : o.dst = some d) (hn : d < n) (hg : o.guard = none) (ho : o.op = .pick (.tmp s1) (.tmp s2) (.const y)) (hs : lk M s1 = some (.bool c)) (hs2 : lk M s2 = some v)
    (h : ∀ a', Frm a' n ((d, if c then v else y) :: M) → wpSeg P ops Q K rest a' w) : wpSeg P ops Q K (o :: rest) a w :=
  seg_val hM hd hn hg (by
    have e : a.eval (.const y) = y := rfl
    cases c <;> simp [execOp, ho, hM.ev hs, hM.ev hs2, e, asBool]) h
theorem seg_cut2 {o1 o2 : Oper} (S : Act → World → Prop)
    (h1 : ∀ K : Act → World → Prop, (∀ a' w', S a' w' → K a' w') → wpSeg P ops Q K [o1, o2] a w) (h2 : ∀ a' w', S a' w' → wpList P ops Q rest a' w') : wpList P ops Q (o1 :: o2 :: rest) a w := seg_cut 2 S h1 h2
theorem seg_cut3 {o1 o2 o3 : Oper} (S : Act → World → Prop)
    (h1 : ∀ K : Act → World → Prop, (∀ a' w', S a' w' → K a' w') → wpSeg P ops Q K [o1, o2, o3] a w) (h2 : ∀ a' w', S a' w' → wpList P ops Q rest a' w') : wpList P ops Q (o1 :: o2 :: o3 :: rest) a w := seg_cut 3 S h1 h2
theorem seg_cut4 {o1 o2 o3 o4 : Oper} (S : Act → World → Prop)
    (h1 : ∀ K : Act → World → Prop, (∀ a' w', S a' w' → K a' w') → wpSeg P ops Q K [o1, o2, o3, o4] a w) (h2 : ∀ a' w', S a' w' → wpList P ops Q rest a' w') : wpList P ops Q (o1 :: o2 :: o3 :: o4 :: rest) a w := seg_cut 4 S h1 h2
theorem seg_cut5 {o1 o2 o3 o4 o5 : Oper} (S : Act → World → Prop)
    (h1 : ∀ K : Act → World → Prop, (∀ a' w', S a' w' → K a' w') → wpSeg P ops Q K [o1, o2, o3, o4, o5] a w) (h2 : ∀ a' w', S a' w' → wpList P ops Q rest a' w') : wpList P ops Q (o1 :: o2 :: o3 :: o4 :: o5 :: rest) a w := seg_cut 5 S h1 h2
theorem seg_cut6 {o1 o2 o3 o4 o5 o6 : Oper} (S : Act → World → Prop)
    (h1 : ∀ K : Act → World → Prop, (∀ a' w', S a' w' → K a' w') → wpSeg P ops Q K [o1, o2, o3, o4, o5, o6] a w) (h2 : ∀ a' w', S a' w' → wpList P ops Q rest a' w') : wpList P ops Q (o1 :: o2 :: o3 :: o4 :: o5 :: o6 :: rest) a w := seg_cut 6 S h1 h2
theorem seg_cut7 {o1 o2 o3 o4 o5 o6 o7 : Oper} (S : Act → World → Prop)
    (h1 : ∀ K : Act → World → Prop, (∀ a' w', S a' w' → K a' w') → wpSeg P ops Q K [o1, o2, o3, o4, o5, o6, o7] a w) (h2 : ∀ a' w', S a' w' → wpList P ops Q rest a' w') : wpList P ops Q (o1 :: o2 :: o3 :: o4 :: o5 :: o6 :: o7 :: rest) a w := seg_cut 7 S h1 h2
theorem seg_cut8 {o1 o2 o3 o4 o5 o6 o7 o8 : Oper} (S : Act → World → Prop)
    (h1 : ∀ K : Act → World → Prop, (∀ a' w', S a' w' → K a' w') → wpSeg P ops Q K [o1, o2, o3, o4, o5, o6, o7, o8] a w) (h2 : ∀ a' w', S a' w' → wpList P ops Q rest a' w') : wpList P ops Q (o1 :: o2 :: o3 :: o4 :: o5 :: o6 :: o7 :: o8 :: rest) a w := seg_cut 8 S h1 h2
theorem seg_cut9 {o1 o2 o3 o4 o5 o6 o7 o8 o9 : Oper} (S : Act → World → Prop)
    (h1 : ∀ K : Act → World → Prop, (∀ a' w', S a' w' → K a' w') → wpSeg P ops Q K [o1, o2, o3, o4, o5, o6, o7, o8, o9] a w) (h2 : ∀ a' w', S a' w' → wpList P ops Q rest a' w') : wpList P ops Q (o1 :: o2 :: o3 :: o4 :: o5 :: o6 :: o7 :: o8 :: o9 :: rest) a w := seg_cut 9 S h1 h2
theorem seg_cut10 {o1 o2 o3 o4 o5 o6 o7 o8 o9 o10 : Oper} (S : Act → World → Prop)
    (h1 : ∀ K : Act → World → Prop, (∀ a' w', S a' w' → K a' w') → wpSeg P ops Q K [o1, o2, o3, o4, o5, o6, o7, o8, o9, o10] a w) (h2 : ∀ a' w', S a' w' → wpList P ops Q rest a' w') : wpList P ops Q (o1 :: o2 :: o3 :: o4 :: o5 :: o6 :: o7 :: o8 :: o9 :: o10 :: rest) a w := seg_cut 10 S h1 h2
theorem seg_cut11 {o1 o2 o3 o4 o5 o6 o7 o8 o9 o10 o11 : Oper} (S : Act → World → Prop)
    (h1 : ∀ K : Act → World → Prop, (∀ a' w', S a' w' → K a' w') → wpSeg P ops Q K [o1, o2, o3, o4, o5, o6, o7, o8, o9, o10, o11] a w) (h2 : ∀ a' w', S a' w' → wpList P ops Q rest a' w') : wpList P ops Q (o1 :: o2 :: o3 :: o4 :: o5 :: o6 :: o7 :: o8 :: o9 :: o10 :: o11 :: rest) a w := seg_cut 11 S h1 h2
theorem seg_cut12 {o1 o2 o3 o4 o5 o6 o7 o8 o9 o10 o11 o12 : Oper} (S : Act → World → Prop)
    (h1 : ∀ K : Act → World → Prop, (∀ a' w', S a' w' → K a' w') → wpSeg P ops Q K [o1, o2, o3, o4, o5, o6, o7, o8, o9, o10, o11, o12] a w) (h2 : ∀ a' w', S a' w' → wpList P ops Q rest a' w') : wpList P ops Q (o1 :: o2 :: o3 :: o4 :: o5 :: o6 :: o7 :: o8 :: o9 :: o10 :: o11 :: o12 :: rest) a w := seg_cut 12 S h1 h2
theorem seg_cut13 {o1 o2 o3 o4 o5 o6 o7 o8 o9 o10 o11 o12 o13 : Oper} (S : Act → World → Prop)
    (h1 : ∀ K : Act → World → Prop, (∀ a' w', S a' w' → K a' w') → wpSeg P ops Q K [o1, o2, o3, o4, o5, o6, o7, o8, o9, o10, o11, o12, o13] a w) (h2 : ∀ a' w', S a' w' → wpList P ops Q rest a' w') : wpList P ops Q (o1 :: o2 :: o3 :: o4 :: o5 :: o6 :: o7 :: o8 :: o9 :: o10 :: o11 :: o12 :: o13 :: rest) a w := seg_cut 13 S h1 h2
end
end Go.Proofs.Ytmnogefpphonlaa
