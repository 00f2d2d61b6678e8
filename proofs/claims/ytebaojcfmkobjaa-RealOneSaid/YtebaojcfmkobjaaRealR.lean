/-
  Plain facts of RealOne: two sets of signers meet in one that does not lie.
-/
import Derived.Test.YtebaojcfmkobjaaRealGp
import Derived.Lib.SlBytesConst
set_option linter.unusedVariables false
set_option linter.unusedSimpArgs false
namespace Go.Proofs.Ytebaojcfmkobjaa
open Go.RowKit

def hdX : HdD := ⟨1, 1, [], []⟩
def hdY : HdD := ⟨1, 1, [1], []⟩
theorem hdX_form : formH 16 hdX = true := by decide
theorem hdY_form : formH 16 hdY = true := by decide
theorem hd_ne : headerB hdX ≠ headerB hdY := fun e => by
  have h1 := parseH_there hdX_form
  have h2 := parseH_there hdY_form
  rw [e] at h1
  rw [h1] at h2
  injection h2 with h2
  have : hdX.bs = hdY.bs := by rw [h2]
  simp [hdX, hdY] at this
def hdL : List (List UInt8) := [headerB hdX, headerB hdY]
theorem dig_x : digN [] (headerB hdX) = 1 ∧ addL [] (headerB hdX) = [headerB hdX] := by unfold digN addL; simp [fnd]
theorem dig_y : digN [headerB hdX] (headerB hdY) = 2 ∧ addL [headerB hdX] (headerB hdY) = hdL := by
  have : fnd [headerB hdX] (headerB hdY) = none := by simp [fnd, hd_ne]
  unfold digN addL
  rw [this]; exact ⟨rfl, rfl⟩
/-- Who signed which. -/
def sgA (σ : Nat → Int) : Int × Int → Bool := fun q => decide (q.2 ≠ 0 ∧ (1 ≤ q.1 ∧ q.1 ≤ 4) ∧ q.2 = σ q.1.toNat)
def upA (σ : Nat → Int) (i : Nat) (d : Int) : Nat → Int := fun j => if j = i then d else σ j
def zA : Nat → Int := fun _ => 0
theorem sgA_z : (fun _ => false) = sgA zA := by
  funext q
  unfold sgA zA
  rw [eq_comm, decide_eq_false_iff_not]
  rintro ⟨h1, _, h2⟩
  exact h1 h2
theorem sgA_up {σ : Nat → Int} {i : Nat} {d : Int} (hi : 1 ≤ i ∧ i ≤ 4) (hd : d ≠ 0) (hs : σ i = 0 ∨ σ i = d) : sgUp 0 (sgA σ) ((i : Int), d) = sgA (upA σ i d) := by
  rw [sgUp_0]
  funext ⟨a, b⟩
  unfold sgAdd sgA upA
  rw [Bool.eq_iff_iff]
  simp only [Bool.or_eq_true, decide_eq_true_eq, Prod.mk.injEq]
  constructor
  · rintro (⟨rfl, rfl⟩ | ⟨h1, h2, h3⟩)
    · exact ⟨hd, by omega, by rw [if_pos (by omega)]⟩
    · refine ⟨h1, h2, ?_⟩
      split
      · rename_i he
        rw [he] at h3
        omega
      · exact h3
  · rintro ⟨h1, h2, h3⟩
    split at h3
    · exact .inl ⟨by omega, h3⟩
    · exact .inr ⟨h1, h2, h3⟩
def arrS (σ : Nat → Int) : Array Value := #[.int .i64 (σ 0), .int .i64 (σ 1), .int .i64 (σ 2), .int .i64 (σ 3), .int .i64 (σ 4)]
theorem arrS_at {σ : Nat → Int} {i : Nat} (h : i < 5) : (arrS σ)[i]? = some (.int .i64 (σ i)) := by
  match i, h with
  | 0, _ => rfl
  | 1, _ => rfl
  | 2, _ => rfl
  | 3, _ => rfl
  | 4, _ => rfl
theorem arrS_set {σ : Nat → Int} {i : Nat} {d : Int} (h : i < 5) : (arrS σ).setIfInBounds i (.int .i64 d) = arrS (upA σ i d) := by
  match i, h with
  | 0, _ => rfl
  | 1, _ => rfl
  | 2, _ => rfl
  | 3, _ => rfl
  | 4, _ => rfl
/-- A certificate of one of the two. -/
def cmM (h : HdD) (d : Int) (S : List Int) : MsD := ⟨6, 2, 3, 0, zB, zH, ⟨h, d, S⟩, []⟩
def cmV (b c : SlV) : MsV := ⟨⟨none, 0, 0⟩, ⟨none, 0, 0⟩, ⟨none, 0, 0⟩, b, ⟨none, 0, 0⟩, c, ⟨none, 0, 0⟩⟩
def crtC (A : Value) (d : Int) (S : Value) : Array Value := #[.int .i64 1, .int .i64 1, A, .slice none 0 0, .int .i64 d, S]
theorem crt_set {A : Value} {d : Int} {S V : Value} : (crtC A d S).setIfInBounds 5 V = crtC A d V := rfl
def OkS (σ : Nat → Int) (liar d : Int) : Prop := ∃ S : List Int, sortedI S = true ∧ (∀ z ∈ S, 1 ≤ z ∧ z ≤ 4) ∧ 3 ≤ S.length ∧ ∀ z ∈ S, σ z.toNat = d ∨ z = liar
theorem ok_of {σ : Nat → Int} {liar d : Int} {h : HdD} {S : List Int} (hc : chkE hdL (sgA σ) [liar] 4 (cmM h d S) = 0) : OkS σ liar d := by
  unfold chkE at hc
  split at hc
  · rename_i hm
    split at hc
    · rename_i hr
      have m2 := (mayM_iff.1 hm).2.1
      have mc : mayC 4 ⟨h, d, S⟩ = true := by
        unfold okM hasB hasH hasD hasC cmM at m2
        simpa using m2
      obtain ⟨_, _, c3, c4⟩ := mayC_iff.1 mc
      obtain ⟨r1, r2⟩ := rises_iff.1 c3
      rw [real_6 (x := cmM h d S) rfl] at hr
      unfold certB at hr
      rw [Bool.and_eq_true, List.all_eq_true] at hr
      have q : qC 4 = 3 := by decide
      refine ⟨S, r2, r1, by show 3 ≤ S.length; have c5 : qC 4 ≤ (S.length : Int) := c4; omega, fun z hz => ?_⟩
      have hb : byB (sgA σ) [liar] z d = true := hr.2 z hz
      unfold byB sgA at hb
      rw [Bool.or_eq_true, decide_eq_true_eq, decide_eq_true_eq] at hb
      rcases hb with hb | hb
      · exact .inl hb.2.2.symm
      · exact .inr (by simpa using hb)
    · cases hc
  · cases hc
theorem sorted_head1 {a b c : Int} {r : List Int} (h : sortedI (a :: b :: c :: r) = true) : a < b ∧ b < c := by
  rw [sortedI, sortedI] at h
  simp only [Bool.and_eq_true, decide_eq_true_eq] at h
  exact ⟨h.1, h.2.1⟩
theorem three {S : List Int} (h1 : sortedI S = true) (h2 : ∀ z ∈ S, 1 ≤ z ∧ z ≤ 4) (h3 : 3 ≤ S.length) : ∃ a b c, a ∈ S ∧ b ∈ S ∧ c ∈ S ∧ 1 ≤ a ∧ a < b ∧ b < c ∧ c ≤ 4 := by
  match S, h3 with
  | a :: b :: c :: r, _ =>
    have ha := sorted_head1 h1
    refine ⟨a, b, c, by simp, by simp, by simp, (h2 a (by simp)).1, ?_, ?_, (h2 c (by simp)).2⟩
    · exact ha.1
    · exact ha.2
theorem not_both {σ : Nat → Int} {liar : Int} (h1 : OkS σ liar 1) (h2 : OkS σ liar 2) : False := by
  obtain ⟨S, s1, s2, s3, s4⟩ := h1
  obtain ⟨T, t1, t2, t3, t4⟩ := h2
  obtain ⟨a, b, c, ha, hb, hc, l1, l2, l3, l4⟩ := three s1 s2 s3
  obtain ⟨a', b', c', ha', hb', hc', k1, k2, k3, k4⟩ := three t1 t2 t3
  have e1 := s4 a ha; have e2 := s4 b hb; have e3 := s4 c hc
  have f1 := t4 a' ha'; have f2 := t4 b' hb'; have f3 := t4 c' hc'
  obtain ⟨rfl, rfl, rfl⟩ | ⟨rfl, rfl, rfl⟩ | ⟨rfl, rfl, rfl⟩ | ⟨rfl, rfl, rfl⟩ : (a = 1 ∧ b = 2 ∧ c = 3) ∨ (a = 1 ∧ b = 2 ∧ c = 4) ∨ (a = 1 ∧ b = 3 ∧ c = 4) ∨ (a = 2 ∧ b = 3 ∧ c = 4) := by omega
  all_goals
    obtain ⟨rfl, rfl, rfl⟩ | ⟨rfl, rfl, rfl⟩ | ⟨rfl, rfl, rfl⟩ | ⟨rfl, rfl, rfl⟩ : (a' = 1 ∧ b' = 2 ∧ c' = 3) ∨ (a' = 1 ∧ b' = 2 ∧ c' = 4) ∨ (a' = 1 ∧ b' = 3 ∧ c' = 4) ∨ (a' = 2 ∧ b' = 3 ∧ c' = 4) := by omega
    all_goals
      simp only [show Int.toNat 1 = 1 from rfl, show Int.toNat 2 = 2 from rfl, show Int.toNat 3 = 3 from rfl, show Int.toNat 4 = 4 from rfl] at e1 e2 e3 f1 f2 f3
      omega
def NI (σ : Nat → Int) (liar : Int) (n : Nat) : Prop := n = 0 ∨ (n = 1 ∧ OkS σ liar 1) ∨ (n = 2 ∧ OkS σ liar 2) ∨ (n = 3 ∧ OkS σ liar 1 ∧ OkS σ liar 2)
theorem NI.lt {σ : Nat → Int} {liar : Int} {n : Nat} (h : NI σ liar n) : n < 3 := by
  rcases h with h | ⟨h, _⟩ | ⟨h, _⟩ | ⟨_, h1, h2⟩
  · omega
  · omega
  · omega
  · exact (not_both h1 h2).elim
section
variable {P : Program} {a : Act} {n : Nat} {M : List (Nat × Value)} {o : Oper} {w : World}
theorem ex_quo {ty : TypeId} (p : Int) : ∃ r, Hid (∀ w, (binOp .quo ty (.int .i64 p) (.int .i64 7)).run P w = .ok (.int .i64 r) w) := ⟨IntKind.i64.wrap (Int.tdiv p 7), fun w => by simp [go_sem]⟩
theorem ex_and {ty : TypeId} (p q : Int) : ∃ r, Hid (∀ w, (binOp .and ty (.int .i64 p) (.int .i64 q)).run P w = .ok (.int .i64 r) w) := ⟨_, fun w => by simp [go_sem]; rfl⟩
theorem ex_shr {ty : TypeId} (p : Int) (q : Nat) (hq : q < 64) : ∃ r, Hid (∀ w, (binOp .shr ty (.int .i64 p) (.int .i64 (q : Int))).run P w = .ok (.int .i64 r) w) := by
  refine ⟨p / 2 ^ ((q : Int).toNat), fun w => ?_⟩
  rw [binOp_shr, shift_shr .i64 .i64 p (q : Int) (by omega) (by show (q : Int) ≤ 64; omega)]
  rfl
theorem ev_idxa {t e : TypeId} {x i : Operand} {g k L : Nat} (ho : o.op = .indexAddr t x i) (hx : opv M x = some (.pointer (some ⟨g, 0, none⟩))) (hi : opv M i = some (.int .i64 (k : Int)))
    (hr : ∀ w, (Instr.indexAt t (.pointer (some ⟨g, 0, none⟩)) (.int .i64 (k : Int))).run P w = .ok (.pointer (some ⟨g, k, none⟩)) w) : Ev P M o w (.pointer (some ⟨g, k, none⟩)) := fun a n hM => by
  simp [execOp, ho, hM.evo hx, hM.evo hi, hr]
end
theorem idx_arr {g k : Nat} (h : k < 5) (w : World) : (Instr.indexAt 62 (.pointer (some ⟨g, 0, none⟩)) (.int .i64 (k : Int))).run Try.prog w = .ok (.pointer (some ⟨g, k, none⟩)) w := by
  have h1 : (k : Int) < 5 := by omega
  match k, h with
  | 0, _ => simp [go_sem]
  | 1, _ => simp [go_sem]
  | 2, _ => simp [go_sem]
  | 3, _ => simp [go_sem]
  | 4, _ => simp [go_sem]
theorem alloc_arr (w : World) : (Instr.alloc 62 true (.tuple #[])).run Try.prog w = .ok (.pointer (some ⟨w.heap.size, 0, none⟩)) (w.alloc (.cells (arrS zA) 62)) := by
  simp [go_sem, arrS, zA]
theorem alloc_hdr (w : World) : (Instr.alloc 38 true (.tuple #[])).run Try.prog w = .ok (.pointer (some ⟨w.heap.size, 0, none⟩)) (w.alloc (.cells #[.int .i64 0, .int .i64 0, .slice none 0 0, .slice none 0 0] 38)) := by
  simp [go_sem]
theorem alloc_crt (w : World) : (Instr.alloc 40 true (.tuple #[])).run Try.prog w = .ok (.pointer (some ⟨w.heap.size, 0, none⟩)) (w.alloc (.cells #[.int .i64 0, .int .i64 0, .slice none 0 0, .slice none 0 0, .int .i64 0, .slice none 0 0] 40)) := by
  simp [go_sem]
end Go.Proofs.Ytebaojcfmkobjaa
