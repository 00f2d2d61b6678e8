/-
  More words for walks over frames known by facts: slices and records built of any operands, constant bytes. Over any program.
-/
import Derived.Test.YtebaojcfmkobjaaGr22
import Derived.Lib.SlBytesConst
set_option linter.unusedVariables false
set_option linter.unusedSimpArgs false
namespace Go.Proofs.Ytebaojcfmkobjaa
open Go.RowKit

def bsv (M : List (Nat × Value)) : List (Nat × Operand) → Option (List (Nat × Value))
  | [] => some []
  | p :: r => match opv M p.2, bsv M r with
    | some v, some vs => some ((p.1, v) :: vs)
    | _, _ => none
section
variable {P : Program} {a : Act} {n : Nat} {M : List (Nat × Value)} {ops : Array Oper} {o : Oper} {w w' : World} {v : Value} {Q : Exit → Act → World → Prop} {K : Act → World → Prop} {rest : List Oper}
theorem Frm.bsv (hM : Frm a n M) : ∀ {xs : List (Nat × Operand)} {vs : List (Nat × Value)}, bsv M xs = some vs → xs.map (fun p => (p.1, a.eval p.2)) = vs
  | [], vs, hl => by simpa [Proofs.Ytebaojcfmkobjaa.bsv] using hl
  | p :: r, vs, hl => by
    unfold Proofs.Ytebaojcfmkobjaa.bsv at hl
    split at hl
    · rename_i v us h1 h2
      injection hl with hl
      subst hl
      simp [hM.evo h1, Frm.bsv hM h2]
    · cases hl
theorem ev_bsg {t e : TypeId} {k : Nat} {xs : List (Nat × Operand)} {vs : List (Nat × Value)} {C : Array Value} (hM : Frm a n M) (ho : o.op = .buildSlice t k xs.toArray) (hx : bsv M xs = some vs) (hr : ∀ w, (Instr.buildSlice t k vs.toArray).run P w = .ok (.slice (some ⟨w.heap.size, 0, none⟩) k k) (w.alloc (.cells C e))) :
    (execOp a.eval o).run P w = .ok (.value ((fun g => Value.slice (some ⟨g, 0, none⟩) k k) w.heap.size)) (w.alloc (.cells C e)) := by
  have e2 : xs.toArray.map (fun (i, x) => (i, a.eval x)) = vs.toArray := by rw [← hM.bsv hx]; simp
  simp only [execOp, ho, e2]
  simp [Sem.run_bind, hr]
theorem ev_buildg {t : TypeId} {xs : List (Nat × Operand)} {vs : List (Nat × Value)} (ho : o.op = .build t xs.toArray) (hx : bsv M xs = some vs) (hr : ∀ w, (Instr.build t vs.toArray).run P w = .ok v w) : Ev P M o w v := fun a n hM => by
  have e2 : xs.toArray.map (fun (i, x) => (i, a.eval x)) = vs.toArray := by rw [← hM.bsv hx]; simp
  simp only [execOp, ho, e2]
  simp [Sem.run_bind, hr]
theorem Sl.marked (w : World) (t : TypeId) (C : Array Value) (fr : Nat × Nat) : Sl (w.alloc (.cells C t fr)) 1 (some ⟨w.heap.size, 0, none⟩) C.size C.toList := by
  refine ⟨by simp, fun _ => ⟨w.heap.size, 0, rfl, by simp, fun j v hv => ?_⟩⟩
  have h := heap_alloc_new w (.cells C t fr)
  rw [Nat.zero_add]
  refine (cell_of_row _ w.heap.size j _ _ _ h).trans ?_
  simpa using hv
/-- Constant bytes: a row and its mark. -/
theorem s_cbytes {o2 : Oper} {d1 d2 k : Nat} {t e : TypeId} {xs : List (Nat × Operand)} {vs : List (Nat × Value)} {C : Array Value} (hM : Frm a n M) (hg1 : o.guard = none) (hd1 : o.dst = some d1) (hn1 : Nat.blt d1 n = true) (ho : o.op = .buildSlice t k xs.toArray) (hx : bsv M xs = some vs)
    (hr : ∀ w, (Instr.buildSlice t k vs.toArray).run P w = .ok (.slice (some ⟨w.heap.size, 0, none⟩) k k) (w.alloc (.cells C e))) (hg2 : o2.guard = none) (hd2 : o2.dst = some d2) (hn2 : Nat.blt d2 n = true) (ho2 : o2.op = .convert t t (.tmp d1)) (ht : P.underlying t = some (.slice e)) (he : P.underlying e = some (.int .u8)) (hk : C.size = k)
    (h : ∀ g a' w', Frm a' n ((d2, .slice (some ⟨g, 0, none⟩) k k) :: (d1, .slice (some ⟨g, 0, none⟩) k k) :: M) → Sl w' 1 (some ⟨g, 0, none⟩) k C.toList → Below w.heap.size w w' → w.heap.size ≤ g → wpSeg P ops Q K rest a' w') : wpSeg P ops Q K (o :: o2 :: rest) a w := by
  unfold wpSeg
  rw [if_pos (by simp [Region.wanted, hg1])]
  refine .inl ?_
  unfold Oper.wp
  rw [ev_bsg hM ho hx hr, Oper.upon_value, hd1]
  have hM2 := hM.put (Nat.le_of_ble_eq_true hn1) (.slice (some ⟨w.heap.size, 0, none⟩) k k)
  unfold wpSeg
  rw [if_pos (by simp [Region.wanted, hg2])]
  refine .inl ?_
  unfold Oper.wp
  have hr2 : (execOp (a.put (some d1) (.slice (some ⟨w.heap.size, 0, none⟩) k k)).eval o2).run P (w.alloc (.cells C e)) = .ok (.value (.slice (some ⟨w.heap.size, 0, none⟩) k k)) (w.alloc (.cells C e (C.size, C.size + 1))) := by
    simp only [execOp, ho2, hM2.evo (x := .tmp d1) (v := .slice (some ⟨w.heap.size, 0, none⟩) k k) (by simp [opv, lk])]
    simp [Sem.run_bind, Lib.run_convert_bytes_const w t e C k k ht he]
  rw [hr2, Oper.upon_value, hd2]
  have hs := Sl.marked w e C (C.size, C.size + 1)
  rw [hk] at hs ⊢
  exact h _ _ _ (hM2.put (Nat.le_of_ble_eq_true hn2) _) hs (below_alloc_ w _) (Nat.le_refl _)
/-- A block whose ways out come together. -/
def joinQ (J : Act → World → Prop) (Q : Exit → Act → World → Prop) : Exit → Act → World → Prop
  | .normal, a, w => J a w
  | e, a, w => Q e a w
theorem wp_join {c : Code} (J : Act → World → Prop) (h1 : c.wp P (joinQ J Q) a w) (h2 : ∀ a w, J a w → Q .normal a w) : c.wp P Q a w :=
  wp_mono h1 fun e a' w' h => by
    cases e with
    | normal => exact h2 _ _ h
    | _ => exact h
theorem jq_n {J : Act → World → Prop} (h : J a w) : joinQ J Q .normal a w := h
theorem jq_r {J : Act → World → Prop} (h : Q .ret a w) : joinQ J Q .ret a w := h
end
end Go.Proofs.Ytebaojcfmkobjaa
