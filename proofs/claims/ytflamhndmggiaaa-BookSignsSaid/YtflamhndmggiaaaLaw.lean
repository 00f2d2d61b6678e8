
/-
  What every law's last step needs: a law over one argument that is only read, whose call answers true and changes nothing that was there: the rest of the row.
-/
import Derived.Test.YtflamhndmggiaaaRows
import Derived.Test.YtflamhndmggiaaaMem
import Derived.ProofKit
import Derived.WalkKit
import Derived.Below
import Derived.ChangeSame
import Derived.Deep.Slices
import Derived.Deep.Fields
import Derived.OpenShut
namespace Go.Proofs.Ytflamhndmggiaaa
open Go.ChangeShapes Go.WideShapes Go.ChangeAt Go.RowKit Go.Deep

theorem own : ownKnob Try.prog.godebug = none := by kernel_rfl
theorem laidOut : laidOutB Try.prog = true := by kernel_rfl

section
variable {H : Type} {enc : TypeId × Value → H} {P : Program}
/-- The row's last step where only what is new has changed. -/
theorem post_of_below {f : Func} {s : ChangeSpec} {apart fresh handsOn again : Bool} {W W' : World} {args : Array Value} {v : Value} {ds gs : List (DataW H)} {before pa pv : List MemPlace}
    (hW : DataW.Whole enc P f.params.toList s.vars apart W args.toList ds gs before)
    (hres : ∀ (b : Nat) (sp : Nat → Bool) (hd : Bool), DataW.TrodAll enc P W' b sp hd f.resultTypes.toList (v.resultList f.resultTypes.size) (s.fn H (ds ++ gs)).results [])
    (hargs : ∀ sp : Nat → Bool, (∀ p ∈ before, sp p.block = true) → DataW.TrodAll enc P W' 0 sp true f.params.toList args.toList (s.fn H (ds ++ gs)).args pa)
    (hvars : ∀ sp : Nat → Bool, (∀ p ∈ before, sp p.block = true) → DataW.TrodVars enc P W' sp s.vars (s.fn H (ds ++ gs)).vars pv)
    (hps : before = pa ++ pv) (hb : Below W.heap.size W W')
    (hok : ∀ (j : Nat) (t : TypeId) (r : Value), f.resultTypes[j]? = some t → (v.resultList f.resultTypes.size)[j]? = some r → Value.okWide P W' .any 0 t r) :
    s.post enc P f apart fresh handsOn again W args v W' := by
  have hlt : ∀ p ∈ before, p.block < W.heap.size := fun p hp => hW.lt p hp
  have hold : ∀ p ∈ before, (fun b => decide (b < W.heap.size)) p.block = true := fun p hp => by simpa using hlt p hp
  refine ⟨ds, gs, before, [], pa, pv, hW, hres _ _ _, hargs _ hold, hvars _ hold, World.keptBut_mono (fun p hp => ⟨hp, ?_⟩) (hb.frame (· ∈ before)), fun _ => ?_⟩
  · rw [hps, List.mem_append] at hp
    exact Or.inr hp
  · obtain ⟨_, _, _, _, _, hz, hn⟩ := hW
    refine ⟨hok, _, _, ([] ++ pa) ++ pv, ⟨[] ++ pa, pv, trodAll_append (hargs _ (fun _ _ => rfl)) (hres _ _ _), hvars _ (fun _ _ => rfl), rfl, ?_, ?_⟩, ?_⟩
    · intro b off hp
      have hin : MemPlace.cell b off ∈ before := by rw [hps]; simpa using hp
      rw [hb.frozen (hlt _ hin)]
      exact hz b off hin
    · intro ha
      have := hn ha
      rw [hps] at this
      simpa using this
    · intro p hp _
      rw [hps]
      simpa using hp
end

section
variable {H : Type} {enc : TypeId × Value → H} {P : Program} {w : World} {base : Nat} {spare : Nat → Bool} {held : Bool}
/-- A slice of structs of one-cell fields, opened. -/
theorem open_slice_fields {t e : TypeId} {fs : Array Field} {fuel : Nat} {cs : List Value} {x : DataW H × List MemPlace} (ht : P.underlying t = some (.slice e)) (he : P.underlying e = some (.struct fs))
    (hone : oneCellFields P fs = true) (hC : P.cellsOf e = fs.size) (h : DataW.trod enc P w base spare held fuel t cs = some x) :
    (cs = [.slice none 0 0] ∧ x = (.nil, [])) ∨
    ∃ (a : Addr) (len cap m : Nat) (D : Nat → DataW H) (Pl : Nat → List MemPlace), cs = [.slice (some a) len cap] ∧ base ≤ a.block ∧ len ≤ cap ∧ cap ≤ maxLen ∧ m = (if spare a.block then cap else len) ∧
      x = (.slice ((List.range len).map D) ((List.range (m - len)).map fun j => D (len + j)), MemPlace.row a (m * fs.size) ++ (List.range m).flatMap Pl) ∧
      ∀ i, i < m → ∃ (ys : List (DataW H × List MemPlace)) (n : Nat), D i = .agg (ys.map (·.1)) ∧ Pl i = ys.flatMap (·.2) ∧ ys.length = fs.size ∧
        ∀ (j : Nat) (f : Field), fs[j]? = some f → ∃ (v : Value) (y : DataW H × List MemPlace), w.cell? (a.add (i * fs.size + j)) = some v ∧ ys[j]? = some y ∧ DataW.trod enc P w base spare held n f.type [v] = some y := by
  rcases open_slice ht h with h0 | ⟨a, len, cap, m, n, D, Pl, hcs, hb, hl, hm, hmm, hx, hi⟩
  · exact .inl h0
  · refine .inr ⟨a, len, cap, m, D, Pl, hcs, hb, hl, hm, hmm, by rw [hC] at hx; exact hx, fun i him => ?_⟩
    obtain ⟨cs', hc, ht'⟩ := hi i him
    rw [hC] at hc
    obtain ⟨ys, n', hn', hy, hlen, hyl, hf⟩ := DataW.trod_struct he ht'
    obtain ⟨_, hcl, hat⟩ := World.cells?_some hc
    simp only [Prod.mk.injEq] at hy
    refine ⟨ys, n', hy.1, hy.2, hyl, fun j f hj => ?_⟩
    obtain ⟨ho, hk⟩ := hone_of hone j f hj
    have hjl : j < fs.size := (Array.getElem?_eq_some_iff.1 hj).1
    have hcell := hat j hjl
    have hv : cs'[j]? = some (cs'[j]'(by omega)) := List.getElem?_eq_getElem (by omega)
    have h1 := hf j f hj
    rw [ho, hk] at h1
    have hone' : (cs'.drop j).take 1 = [cs'[j]'(by omega)] := by
      rw [List.drop_eq_getElem_cons (by omega)]
      rfl
    rw [hone'] at h1
    have hys : ys[j]? = some (ys[j]'(by omega)) := List.getElem?_eq_getElem (by omega)
    refine ⟨_, _, ?_, hys, h1.trans hys⟩
    rw [← Go.Deep.add_add, hcell, hv]

theorem elem_addr {a : Addr} {b off : Nat} {i j k : Nat} (ha : a = ⟨b, off, none⟩) : a.add (i * k + j) = ⟨b, off + i * k + j, none⟩ := by subst ha; rw [add_lit, Nat.add_assoc]

/-- A list of ints, opened to what the walks ask. -/
theorem open_ints_sl {t e : TypeId} {fuel : Nat} {v : Value} {x : DataW H × List MemPlace} (ht : P.underlying t = some (.slice e)) (he : P.underlying e = some (.int .i64)) (hc : P.cellsOf e = 1)
    (h : DataW.trod enc P w base spare held fuel t [v] = some x) : ∃ A n c xs, v = .slice A n c ∧ Sl w 1 A n (ints xs) ∧ n ≤ 9223372036854775807 ∧ n ≤ c ∧ c ≤ 9223372036854775807 ∧ ∀ z ∈ xs, -9223372036854775808 ≤ z ∧ z ≤ 9223372036854775807 := by
  rcases open_ints ht he hc h with ⟨hcs, _⟩ | ⟨a, len, cap, zs, hcs, _, hl, hm, hz, _, hcell, hwz⟩
  · obtain rfl : v = .slice none 0 0 := by simpa using hcs
    exact ⟨_, _, _, [], rfl, Sl.nil_, by omega, by omega, by omega, by simp⟩
  · obtain rfl : v = .slice (some a) len cap := by simpa using hcs
    have hmax : cap ≤ 9223372036854775807 := by simpa [maxLen] using hm
    have hlz : len ≤ zs.length := by rw [hz]; split <;> omega
    refine ⟨_, _, _, zs.take len, rfl, ⟨by rw [ints_len, List.length_take]; omega, fun hn => ?_⟩, by omega, by omega, by omega, fun z hzm => ?_⟩
    · have h0 := hcell 0 (by omega)
      have hs : a.spot = none := by
        have := spot_of_cell h0
        unfold Addr.add at this
        simpa using this
      have ha := addr_eta hs
      have hb := lt_of_cell h0
      have e0 : (a.add 0) = a := by unfold Addr.add; simp
      rw [e0] at hb
      refine ⟨a.block, a.off, by rw [← ha], hb, fun j u hu => ?_⟩
      have hj : j < len := by
        have := lt_of_at hu
        rw [ints_len, List.length_take] at this
        omega
      have hcj := hcell j (by omega)
      rw [ha, add_lit] at hcj
      rw [hcj]
      simp only [ints, List.getElem?_map, List.getElem?_take, if_pos hj] at hu
      rw [List.getElem?_eq_getElem (by omega : j < zs.length)] at hu
      rw [List.getD_eq_getElem?_getD, List.getElem?_eq_getElem (by omega : j < zs.length)]
      simpa using hu
    · have hw := hwz z (List.mem_of_mem_take hzm)
      simpa [Lit.wf, IntKind.min, IntKind.max, IntKind.signed, IntKind.bits] using hw
theorem trod_int64 {t : TypeId} {fuel : Nat} {v : Value} {x : DataW H × List MemPlace} (ht : P.underlying t = some (.int .i64)) (h : DataW.trod enc P w base spare held fuel t [v] = some x) :
    ∃ z, v = .int .i64 z ∧ -9223372036854775808 ≤ z ∧ z ≤ 9223372036854775807 := by
  obtain ⟨z, hv, _, hw⟩ := DataW.trod_int ht h
  refine ⟨z, by simpa using hv, ?_⟩
  simpa [Lit.wf, IntKind.min, IntKind.max, IntKind.signed, IntKind.bits] using hw
/-- A list of records of one-cell fields, opened to what the walks ask. -/
theorem open_rows {t e : TypeId} {fs : Array Field} {r : Reach} {b0 : Nat} {v : Value} {d : DataW H} {p : List MemPlace} (ht : P.underlying t = some (.slice e)) (he : P.underlying e = some (.struct fs))
    (hone : oneCellFields P fs = true) (hC : P.cellsOf e = fs.size) (hpos : 0 < fs.size) (hv : Value.okWide P w r b0 t v) (h : DataW.Trod enc P w base spare held t v d p) :
    ∃ A n c, v = .slice A n c ∧ n ≤ 9223372036854775807 ∧ n ≤ c ∧ c ≤ 9223372036854775807 ∧ (0 < n → ∃ b off, A = some ⟨b, off, none⟩ ∧ ∀ k, k < n → ∃ (N : Nat), ∀ (j : Nat) (f : Field), fs[j]? = some f →
      ∃ (u : Value) (y : DataW H × List MemPlace), w.cell? ⟨b, off + k * fs.size + j, none⟩ = some u ∧ DataW.trod enc P w base spare held N f.type [u] = some y) := by
  obtain ⟨A0, n0, c0, rfl⟩ := okWide_slice ht hv
  obtain ⟨fuel, hf⟩ := h
  rcases open_slice_fields ht he hone hC hf with ⟨hcs, _⟩ | ⟨a, len, cap, m, D, Pl, hcs, _, hl, hm, hmm, _, hi⟩
  · have hcs' : [Value.slice A0 n0 c0] = [Value.slice none 0 0] := hcs
    injection hcs' with e1 _
    injection e1 with e1 e2 e3
    subst e1; subst e2; subst e3
    exact ⟨_, _, _, rfl, by omega, by omega, by omega, fun h => absurd h (by omega)⟩
  · have hcs' : [Value.slice A0 n0 c0] = [Value.slice (some a) len cap] := hcs
    injection hcs' with e1 _
    injection e1 with e1 e2 e3
    subst e1; subst e2; subst e3
    have hmax : c0 ≤ 9223372036854775807 := by simpa [maxLen] using hm
    have hle : n0 ≤ m := by rw [hmm]; split <;> omega
    refine ⟨_, _, _, rfl, by omega, by omega, by omega, fun hn => ?_⟩
    obtain ⟨ys, N, _, _, _, hf0⟩ := hi 0 (by omega)
    obtain ⟨u0, y0, hc0, _⟩ := hf0 0 (fs[0]'hpos) (by simp [hpos])
    have hs : a.spot = none := by
      have := spot_of_cell hc0
      unfold Addr.add at this
      simpa using this
    have ha := addr_eta hs
    refine ⟨a.block, a.off, by rw [← ha], fun k hk => ?_⟩
    obtain ⟨ys, N, _, _, _, hfk⟩ := hi k (by omega)
    refine ⟨N, fun j f hj => ?_⟩
    obtain ⟨u, y, hcell, _, ht⟩ := hfk j f hj
    rw [elem_addr ha] at hcell
    exact ⟨u, y, hcell, ht⟩
/-- One field of a record, by its number. -/
theorem field_at {fs : Array Field} {xs : List (DataW H × List MemPlace)} {m : Nat} {cs : List Value} (hf : ∀ (i : Nat) (f : Field), fs[i]? = some f → DataW.trod enc P w base spare held m f.type ((cs.drop f.offset).take (P.cellsOf f.type)) = xs[i]?)
    (hl : xs.length = fs.size) (i : Nat) {T off C : Nat} (h : (fs[i]?).map (fun f => (f.type, f.offset)) = some (T, off)) (hC : P.cellsOf T = C) : ∃ y, DataW.trod enc P w base spare held m T ((cs.drop off).take C) = some y := by
  obtain ⟨f, hi, hfo⟩ := Option.map_eq_some_iff.1 h
  simp only [Prod.mk.injEq] at hfo
  obtain ⟨rfl, rfl⟩ := hfo
  have := hf i f hi
  have hlt : i < xs.length := by
    rw [hl]; exact (Array.getElem?_eq_some_iff.1 hi).1
  rw [hC, List.getElem?_eq_getElem hlt] at this
  exact ⟨_, this⟩
theorem array_at {xs : List (DataW H × List MemPlace)} {m n e C : Nat} {cs : List Value} (hf : ∀ (i : Nat), i < n → DataW.trod enc P w base spare held m e ((cs.drop (i * P.cellsOf e)).take (P.cellsOf e)) = xs[i]?)
    (hl : xs.length = n) (i : Nat) (hi : i < n) (hC : P.cellsOf e = C) : ∃ y, DataW.trod enc P w base spare held m e ((cs.drop (i * C)).take C) = some y := by
  have := hf i hi
  rw [hC, List.getElem?_eq_getElem (by omega)] at this
  exact ⟨_, this⟩

/-- A list of elements of whatever type that has cells, opened: each element's cells and their reading. -/
theorem open_elems {t e : TypeId} {r : Reach} {b0 : Nat} {C : Nat} {v : Value} {d : DataW H} {p : List MemPlace} (ht : P.underlying t = some (.slice e)) (hC : P.cellsOf e = C) (hpos : 0 < C)
    (hv : Value.okWide P w r b0 t v) (h : DataW.Trod enc P w base spare held t v d p) :
    ∃ A n c, v = .slice A n c ∧ n ≤ 9223372036854775807 ∧ n ≤ c ∧ c ≤ 9223372036854775807 ∧ (0 < n → ∃ b off, A = some ⟨b, off, none⟩ ∧ b < w.heap.size ∧ ∀ k, k < n → ∃ (N : Nat) (cs : List Value) (y : DataW H × List MemPlace),
      cs.length = C ∧ (∀ j u, cs[j]? = some u → w.cell? ⟨b, off + k * C + j, none⟩ = some u) ∧ DataW.trod enc P w base spare held N e cs = some y) := by
  obtain ⟨A0, n0, c0, rfl⟩ := okWide_slice ht hv
  obtain ⟨fuel, hf⟩ := h
  rcases open_slice ht hf with ⟨hcs, _⟩ | ⟨a, len, cap, m, n, D, Pl, hcs, _, hl, hm, hmm, _, hi⟩
  · have hcs' : [Value.slice A0 n0 c0] = [Value.slice none 0 0] := hcs
    injection hcs' with e1 _
    injection e1 with e1 e2 e3
    subst e1; subst e2; subst e3
    exact ⟨_, _, _, rfl, by omega, by omega, by omega, fun h => absurd h (by omega)⟩
  · have hcs' : [Value.slice A0 n0 c0] = [Value.slice (some a) len cap] := hcs
    injection hcs' with e1 _
    injection e1 with e1 e2 e3
    subst e1; subst e2; subst e3
    have hmax : c0 ≤ 9223372036854775807 := by simpa [maxLen] using hm
    have hle : n0 ≤ m := by rw [hmm]; split <;> omega
    refine ⟨_, _, _, rfl, by omega, by omega, by omega, fun hn => ?_⟩
    rw [hC] at hi
    have hat : ∀ k, k < n0 → ∃ cs', (∀ j, j < C → w.cell? (a.add (k * C + j)) = cs'[j]?) ∧ cs'.length = C ∧ DataW.trod enc P w base spare held n e cs' = some (D k, Pl k) := by
      intro k hk
      obtain ⟨cs', hc, ht'⟩ := hi k (by omega)
      obtain ⟨_, hcl, hat⟩ := World.cells?_some hc
      exact ⟨cs', fun j hj => by rw [← Go.Deep.add_add]; exact hat j hj, hcl, ht'⟩
    obtain ⟨cs0, h0, hl0, _⟩ := hat 0 (by omega)
    have hc0 := h0 0 hpos
    rw [List.getElem?_eq_getElem (by omega)] at hc0
    have hs : a.spot = none := by
      have := spot_of_cell hc0
      unfold Addr.add at this
      simpa using this
    have ha := addr_eta hs
    have hbl := lt_of_cell hc0
    rw [ha, add_lit] at hbl
    refine ⟨a.block, a.off, by rw [← ha], hbl, fun k hk => ?_⟩
    obtain ⟨cs, h1, hl1, ht1⟩ := hat k hk
    refine ⟨n, cs, _, hl1, fun j u hj => ?_, ht1⟩
    have hjl : j < C := by have := lt_of_at hj; omega
    have := h1 j hjl
    rw [elem_addr ha, hj] at this
    exact this
theorem trod_f64 {t : TypeId} {fuel : Nat} {v : Value} {x : DataW H × List MemPlace} (ht : P.underlying t = some (.float .f64)) (h : DataW.trod enc P w base spare held fuel t [v] = some x) : ∃ z, v = .float .f64 z := by
  cases fuel with
  | zero => simp [DataW.trod] at h
  | succ n =>
    unfold DataW.trod at h
    rw [ht] at h
    cases v <;> simp at h
    obtain ⟨⟨rfl, _⟩, _⟩ := h
    exact ⟨_, rfl⟩
end
end Go.Proofs.Ytflamhndmggiaaa
