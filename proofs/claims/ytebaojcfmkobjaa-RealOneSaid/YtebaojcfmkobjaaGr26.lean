/-
  Texts joined: words and contracts that later texts use; lemmas alone, no conditions of a statement.
-/
import Derived.Test.YtebaojcfmkobjaaGr00
import Derived.SizedLaws
import Derived.Test.YtebaojcfmkobjaaGr02
import Derived.Test.YtebaojcfmkobjaaMsgV
import Derived.Test.YtebaojcfmkobjaaGr01
import Derived.Test.YtebaojcfmkobjaaGr17
import Derived.Test.YtebaojcfmkobjaaGr03
set_option linter.unusedVariables false
set_option linter.unusedSimpArgs false
/-
  The argument of a law, opened with the reach of all that is met: whatever string, whatever slice is no larger than R bytes.
-/
namespace Go.Proofs.Ytebaojcfmkobjaa
open Go.ChangeShapes Go.WideShapes Go.ChangeAt Go.RowKit Go.Deep

theorem weightsAll_mem {H : Type} {P : Program} {e : TypeId} : ∀ {l : List (DataW H)} {d : DataW H}, d ∈ l → ∀ n ∈ d.weights P e, n ∈ DataW.weightsAll P e l
  | d' :: r, d, hd, n, hn => by
    simp only [DataW.weightsAll, List.mem_append]
    rcases List.mem_cons.1 hd with rfl | h
    · exact Or.inl hn
    · exact Or.inr (weightsAll_mem h n hn)

section
variable {H : Type} {enc : TypeId × Value → H} {P : Program} {w : World} {base : Nat} {spare : Nat → Bool} {held : Bool} {R : Nat}
/-- A list of elements of C cells each, opened. -/
theorem open_list {t e C fuel : Nat} {v : Value} {x : DataW H × List MemPlace} (ht : P.underlying t = some (.slice e)) (hC : P.cellsOf e = C) (hpos : 0 < C)
    (h : DataW.trod enc P w base spare held fuel t [v] = some x) (hw : ∀ q ∈ x.1.weights P t, q ≤ R) :
    ∃ A n c, v = .slice A n c ∧ n ≤ c ∧ c ≤ 9223372036854775807 ∧ n * P.bytesOf e ≤ R ∧ (0 < n → ∃ b off, A = some ⟨b, off, none⟩ ∧ b < w.heap.size ∧ ∀ k, k < n →
      ∃ (cs : List Value) (N : Nat) (y : DataW H × List MemPlace), cs.length = C ∧ (∀ j, j < C → w.cell? ⟨b, off + k * C + j, none⟩ = cs[j]?) ∧ DataW.trod enc P w base spare held N e cs = some y ∧ ∀ q ∈ y.1.weights P e, q ≤ R) := by
  rcases open_slice ht h with ⟨hcs, _⟩ | ⟨a, len, cap, m, N, D, Pl, hcs, _, hl, hm, hmm, hx, hi⟩
  · obtain rfl : v = .slice none 0 0 := by simpa using hcs
    exact ⟨_, _, _, rfl, by omega, by omega, by omega, fun h => absurd h (by omega)⟩
  · obtain rfl : v = .slice (some a) len cap := by simpa using hcs
    have hmax : cap ≤ 9223372036854775807 := by simpa [maxLen] using hm
    have hle : len ≤ m := by rw [hmm]; split <;> omega
    have hW : (len + (m - len)) * P.bytesOf e ≤ R := by
      apply hw
      rw [hx]
      simp [DataW.weights, ht]
    have hlb : len * P.bytesOf e ≤ R := Nat.le_trans (Nat.mul_le_mul_right _ (by omega)) hW
    refine ⟨_, _, _, rfl, by omega, by omega, hlb, fun hn => ?_⟩
    obtain ⟨cs0, hc0, _⟩ := hi 0 (by omega)
    rw [hC] at hc0
    obtain ⟨_, hcl0, hat0⟩ := World.cells?_some hc0
    have h00 := hat0 0 (by omega)
    rw [List.getElem?_eq_getElem (by omega)] at h00
    have hs : a.spot = none := by
      have := spot_of_cell h00
      unfold Addr.add at this
      simpa using this
    have ha := addr_eta hs
    have hb : a.block < w.heap.size := by
      have := lt_of_cell h00
      unfold Addr.add at this
      simpa using this
    refine ⟨a.block, a.off, by rw [← ha], hb, fun k hk => ?_⟩
    obtain ⟨cs, hc, hk'⟩ := hi k (by omega)
    rw [hC] at hc
    obtain ⟨_, hcl, hat⟩ := World.cells?_some hc
    refine ⟨cs, N, _, hcl, fun j hj => ?_, hk', fun q hq => ?_⟩
    · have := hat j hj
      rw [ha] at this
      simp only [add_lit] at this
      exact this
    · apply hw
      rw [hx]
      simp only [DataW.weights, ht, List.mem_cons, List.mem_append]
      refine Or.inr (Or.inl (weightsAll_mem (d := D k) ?_ q hq))
      exact List.mem_map.mpr ⟨k, List.mem_range.mpr hk, rfl⟩
/-- A record's field, opened. -/
theorem open_field {e N : Nat} {fs : Array Field} {cs : List Value} {y : DataW H × List MemPlace} (he : P.underlying e = some (.struct fs)) (h : DataW.trod enc P w base spare held N e cs = some y) (hw : ∀ q ∈ y.1.weights P e, q ≤ R)
    (i : Nat) {T off C : Nat} (hf : (fs[i]?).map (fun f => (f.type, f.offset)) = some (T, off)) (hC : P.cellsOf T = C) :
    ∃ (M : Nat) (z : DataW H × List MemPlace), DataW.trod enc P w base spare held M T ((cs.drop off).take C) = some z ∧ ∀ q ∈ z.1.weights P T, q ≤ R := by
  obtain ⟨ys, n', _, hy, _, hyl, hff⟩ := DataW.trod_struct he h
  obtain ⟨f, hi, hfo⟩ := Option.map_eq_some_iff.1 hf
  simp only [Prod.mk.injEq] at hfo
  obtain ⟨rfl, rfl⟩ := hfo
  have hlt : i < ys.length := by rw [hyl]; exact (Array.getElem?_eq_some_iff.1 hi).1
  have h1 := hff i f hi
  rw [hC, List.getElem?_eq_getElem hlt] at h1
  refine ⟨_, _, h1, fun q hq => hw q ?_⟩
  rw [hy]
  simp only [DataW.weights, he]
  refine DataW.weights_mem_each (j := i) (t := f.type) (d := ys[i].1) ?_ ?_ q hq
  · rw [List.getElem?_map, Array.getElem?_toList, hi]; rfl
  · rw [List.getElem?_map, List.getElem?_eq_getElem hlt]; rfl
theorem one_cell {cs : List Value} {C j : Nat} (hl : cs.length = C) (hj : j < C) : ∃ u, cs[j]? = some u ∧ (cs.drop j).take 1 = [u] := by
  have hj' : j < cs.length := by omega
  refine ⟨cs[j], List.getElem?_eq_getElem hj', ?_⟩
  rw [List.drop_eq_getElem_cons hj']
  rfl
/-- A list of one-cell elements, each of a kind. -/
theorem open_kind {α : Type} {f : α → Value} {Pp : α → Prop} {t e fuel : Nat} {v : Value} {x : DataW H × List MemPlace} (ht : P.underlying t = some (.slice e)) (hC : P.cellsOf e = 1)
    (hk : ∀ (N : Nat) (u : Value) (y : DataW H × List MemPlace), DataW.trod enc P w base spare held N e [u] = some y → (∀ q ∈ y.1.weights P e, q ≤ R) → ∃ a, u = f a ∧ Pp a)
    (h : DataW.trod enc P w base spare held fuel t [v] = some x) (hw : ∀ q ∈ x.1.weights P t, q ≤ R) :
    ∃ A n c, ∃ xs : List α, v = .slice A n c ∧ Sl w 1 A n (xs.map f) ∧ n ≤ c ∧ c ≤ 9223372036854775807 ∧ n * P.bytesOf e ≤ R ∧ ∀ a ∈ xs, Pp a := by
  obtain ⟨A, n, c, rfl, h1, h2, h3, h4⟩ := open_list ht hC (by omega) h hw
  rcases Nat.eq_zero_or_pos n with rfl | hn
  · exact ⟨A, 0, c, [], rfl, ⟨by simp, fun h => absurd h (by omega)⟩, h1, h2, h3, by simp⟩
  · obtain ⟨b, off, rfl, hb, hc⟩ := h4 hn
    have hall : ∀ k : Fin n, ∃ a, w.cell? ⟨b, off + k.val, none⟩ = some (f a) ∧ Pp a := by
      intro k
      obtain ⟨cs, N, y, hl, hcell, htr, hq⟩ := hc k.val k.isLt
      obtain ⟨u, hu, _⟩ := one_cell hl (show 0 < 1 by omega)
      have : cs = [u] := by
        match cs, hl, hu with
        | [z], _, hu => simpa using hu
      subst this
      obtain ⟨a, rfl, ha⟩ := hk N u y htr hq
      refine ⟨a, ?_, ha⟩
      have := hcell 0 (by omega)
      simpa using this
    let g : Fin n → α := fun k => (hall k).choose
    have hg : ∀ k, w.cell? ⟨b, off + k.val, none⟩ = some (f (g k)) ∧ Pp (g k) := fun k => (hall k).choose_spec
    refine ⟨_, n, c, List.ofFn g, rfl, ⟨by simp, fun _ => ⟨b, off, rfl, hb, fun j u hu => ?_⟩⟩, h1, h2, h3, fun a ha => ?_⟩
    · rw [List.getElem?_map, List.getElem?_ofFn] at hu
      split at hu
      · rename_i hj
        simp only [Option.map_some, Option.some.injEq] at hu
        rw [← hu]
        exact (hg ⟨j, hj⟩).1
      · simp at hu
    · obtain ⟨k, rfl⟩ := List.mem_ofFn.mp ha
      exact (hg k).2
theorem open_ints_w {t e fuel : Nat} {v : Value} {x : DataW H × List MemPlace} (ht : P.underlying t = some (.slice e)) (he : P.underlying e = some (.int .i64)) (hC : P.cellsOf e = 1)
    (h : DataW.trod enc P w base spare held fuel t [v] = some x) (hw : ∀ q ∈ x.1.weights P t, q ≤ R) :
    ∃ A n c xs, v = .slice A n c ∧ Sl w 1 A n (ints xs) ∧ n ≤ c ∧ c ≤ 9223372036854775807 ∧ n * P.bytesOf e ≤ R ∧ ∀ z ∈ xs, -9223372036854775808 ≤ z ∧ z ≤ 9223372036854775807 := by
  refine open_kind (f := Value.int .i64) (Pp := fun z : Int => -9223372036854775808 ≤ z ∧ z ≤ 9223372036854775807) ht hC ?_ h hw
  intro N u y htr hq
  obtain ⟨z, hz, _, hwf⟩ := DataW.trod_int he htr
  refine ⟨z, by simpa using hz, ?_⟩
  simpa [Lit.wf, IntKind.min, IntKind.max, IntKind.signed, IntKind.bits] using hwf
end
end Go.Proofs.Ytebaojcfmkobjaa
/-
  A list of transactions of the argument, opened.
-/
namespace Go.Proofs.Ytebaojcfmkobjaa
open Go.ChangeShapes Go.WideShapes Go.ChangeAt Go.RowKit Go.Deep
theorem txsC_get : ∀ (l : List TxD) (j : Nat) (u : Value), (txsC l)[j]? = some u → ∃ t, l[j / 4]? = some t ∧ (txC t)[j % 4]? = some u
  | [], j, u, h => by simp [txsC] at h
  | t :: l, j, u, h => by
    rw [txsC, List.flatMap_cons] at h
    rcases Nat.lt_or_ge j 4 with hj | hj
    · rw [List.getElem?_append_left (by simpa [txC] using hj)] at h
      refine ⟨t, ?_, ?_⟩
      · rw [Nat.div_eq_of_lt hj]; rfl
      · rw [Nat.mod_eq_of_lt hj]; exact h
    · rw [List.getElem?_append_right (by simpa [txC] using hj)] at h
      obtain ⟨t', h1, h2⟩ := txsC_get l (j - 4) u (by simpa [txC, txsC] using h)
      refine ⟨t', ?_, ?_⟩
      · rw [show j / 4 = (j - 4) / 4 + 1 by omega]; exact h1
      · rw [show j % 4 = (j - 4) % 4 by omega]; exact h2
section
variable {H : Type} {enc : TypeId × Value → H} {w : World} {base : Nat} {spare : Nat → Bool} {held : Bool} {R : Nat}
set_option maxRecDepth 100000 in
theorem open_txs_w {fuel : Nat} {v : Value} {x : DataW H × List MemPlace} (h : DataW.trod enc Try.prog w base spare held fuel 34 [v] = some x) (hw : ∀ q ∈ x.1.weights Try.prog 34, q ≤ R) :
    ∃ A n c l, v = .slice A n c ∧ Sl w 4 A n (txsC l) ∧ n ≤ c ∧ c ≤ 9223372036854775807 ∧ n * 48 ≤ R ∧ (∀ t ∈ l, t.k.size ≤ R ∧ t.v.size ≤ R) := by
  obtain ⟨A, n, c, rfl, h1, h2, h3, h4⟩ := open_list (C := 4) Try.underlying34 (by kernel_rfl) (by omega) h hw
  rw [show Try.prog.bytesOf 101 = 48 by kernel_rfl] at h3
  rcases Nat.eq_zero_or_pos n with rfl | hn
  · exact ⟨A, 0, c, [], rfl, ⟨rfl, fun h => absurd h (by omega)⟩, h1, h2, h3, by simp⟩
  · obtain ⟨b, off, rfl, hb, hc⟩ := h4 hn
    have hall : ∀ k : Fin n, ∃ t : TxD, (∀ j u, (txC t)[j]? = some u → w.cell? ⟨b, off + k.val * 4 + j, none⟩ = some u) ∧ t.k.size ≤ R ∧ t.v.size ≤ R := by
      intro k
      obtain ⟨cs, N, y, hl, hcell, htr, hq⟩ := hc k.val k.isLt
      obtain ⟨u0, hu0, e0⟩ := one_cell hl (show 0 < 4 by omega)
      obtain ⟨u1, hu1, e1⟩ := one_cell hl (show 1 < 4 by omega)
      obtain ⟨u2, hu2, e2⟩ := one_cell hl (show 2 < 4 by omega)
      obtain ⟨u3, hu3, e3⟩ := one_cell hl (show 3 < 4 by omega)
      obtain ⟨_, y0, t0, _⟩ := open_field (C := 1) (T := 3) (off := 0) Try.underlying101 htr hq 0 rfl (by kernel_rfl)
      obtain ⟨_, y1, t1, _⟩ := open_field (C := 1) (T := 3) (off := 1) Try.underlying101 htr hq 1 rfl (by kernel_rfl)
      obtain ⟨_, y2, t2, w2⟩ := open_field (C := 1) (T := 9) (off := 2) Try.underlying101 htr hq 2 rfl (by kernel_rfl)
      obtain ⟨_, y3, t3, w3⟩ := open_field (C := 1) (T := 9) (off := 3) Try.underlying101 htr hq 3 rfl (by kernel_rfl)
      rw [e0] at t0
      rw [e1] at t1
      rw [e2] at t2
      rw [e3] at t3
      obtain ⟨z0, rfl, _⟩ := trod_int64 Try.underlying3 t0
      obtain ⟨z1, rfl, _⟩ := trod_int64 Try.underlying3 t1
      obtain ⟨s2, hs2, rfl, _⟩ := DataW.trod_string Try.underlying9 t2
      obtain ⟨s3, hs3, rfl, _⟩ := DataW.trod_string Try.underlying9 t3
      have q2 := w2 s2.data.toList.length (by simp [DataW.weights])
      have q3 := w3 s3.data.toList.length (by simp [DataW.weights])
      rw [Array.length_toList] at q2 q3
      obtain rfl : u2 = .string s2 := by simpa using hs2
      obtain rfl : u3 = .string s3 := by simpa using hs3
      refine ⟨⟨z0, z1, s2, s3⟩, fun j u hu => ?_, q2, q3⟩
      match j, hu with
      | 0, hu => simp [txC] at hu; subst hu; exact (hcell 0 (by omega)).trans hu0
      | 1, hu => simp [txC] at hu; subst hu; exact (hcell 1 (by omega)).trans hu1
      | 2, hu => simp [txC] at hu; subst hu; exact (hcell 2 (by omega)).trans hu2
      | 3, hu => simp [txC] at hu; subst hu; exact (hcell 3 (by omega)).trans hu3
      | j + 4, hu => simp [txC] at hu
    let g : Fin n → TxD := fun k => (hall k).choose
    have hg : ∀ k, (∀ j u, (txC (g k))[j]? = some u → w.cell? ⟨b, off + k.val * 4 + j, none⟩ = some u) ∧ (g k).k.size ≤ R ∧ (g k).v.size ≤ R := fun k => (hall k).choose_spec
    refine ⟨_, n, c, List.ofFn g, rfl, ⟨by rw [txsC_len, List.length_ofFn], fun _ => ⟨b, off, rfl, hb, fun j u hu => ?_⟩⟩, h1, h2, h3, fun a ha => ?_⟩
    · obtain ⟨t, ht, hu⟩ := txsC_get _ j u hu
      rw [List.getElem?_ofFn] at ht
      split at ht
      · rename_i hj
        simp only [Option.some.injEq] at ht
        subst ht
        have := (hg ⟨j / 4, hj⟩).1 (j % 4) u hu
        rw [show off + (j / 4) * 4 + j % 4 = off + j by omega] at this
        exact this
      · simp at ht
    · obtain ⟨k, rfl⟩ := List.mem_ofFn.mp ha
      exact (hg k).2
end
end Go.Proofs.Ytebaojcfmkobjaa
/-
  A header, a certificate of the argument, opened.
-/
namespace Go.Proofs.Ytebaojcfmkobjaa
open Go.ChangeShapes Go.WideShapes Go.ChangeAt Go.RowKit Go.Deep
theorem sub_cell' {cs : List Value} {o C j : Nat} {u : Value} (hj : j < C) (h : ((cs.drop o).take C)[j]? = some u) : cs[o + j]? = some u := by
  rw [List.getElem?_take, if_pos hj, List.getElem?_drop] at h; exact h
section
variable {H : Type} {enc : TypeId × Value → H} {w : World} {base : Nat} {spare : Nat → Bool} {held : Bool} {R : Nat}
theorem open_ints8_w {fuel : Nat} {v : Value} {x : DataW H × List MemPlace} (h : DataW.trod enc Try.prog w base spare held fuel 22 [v] = some x) (hw : ∀ q ∈ x.1.weights Try.prog 22, q ≤ R) :
    ∃ A n c xs, v = .slice A n c ∧ Sl w 1 A n (ints xs) ∧ n * 8 ≤ R ∧ n ≤ c ∧ c ≤ 9223372036854775807 := by
  obtain ⟨A, n, c, xs, h1, h2, h3, h4, h5, _⟩ := open_ints_w Try.underlying22 Try.underlying3 (by kernel_rfl) h hw
  rw [show Try.prog.bytesOf 3 = 8 by kernel_rfl] at h5
  exact ⟨A, n, c, xs, h1, h2, h5, h3, h4⟩
set_option maxRecDepth 100000 in
theorem open_hdr_w {N : Nat} {cs : List Value} {y : DataW H × List MemPlace} (hl : cs.length = 4) (h : DataW.trod enc Try.prog w base spare held N 38 cs = some y) (hw : ∀ q ∈ y.1.weights Try.prog 38, q ≤ R) :
    ∃ a r A1 n1 c1 bs A2 n2 c2 ps, cs[0]? = some (.int .i64 a) ∧ cs[1]? = some (.int .i64 r) ∧ cs[2]? = some (.slice A1 n1 c1) ∧ cs[3]? = some (.slice A2 n2 c2) ∧ (Sl w 1 A1 n1 (ints bs) ∧ n1 * 8 ≤ R) ∧ (Sl w 1 A2 n2 (ints ps) ∧ n2 * 8 ≤ R) := by
  obtain ⟨u0, hu0, e0⟩ := one_cell hl (show 0 < 4 by omega)
  obtain ⟨u1, hu1, e1⟩ := one_cell hl (show 1 < 4 by omega)
  obtain ⟨u2, hu2, e2⟩ := one_cell hl (show 2 < 4 by omega)
  obtain ⟨u3, hu3, e3⟩ := one_cell hl (show 3 < 4 by omega)
  obtain ⟨_, y0, t0, _⟩ := open_field (C := 1) (T := 3) (off := 0) Try.underlying38 h hw 0 rfl (by kernel_rfl)
  obtain ⟨_, y1, t1, _⟩ := open_field (C := 1) (T := 3) (off := 1) Try.underlying38 h hw 1 rfl (by kernel_rfl)
  obtain ⟨_, y2, t2, w2⟩ := open_field (C := 1) (T := 22) (off := 2) Try.underlying38 h hw 2 rfl (by kernel_rfl)
  obtain ⟨_, y3, t3, w3⟩ := open_field (C := 1) (T := 22) (off := 3) Try.underlying38 h hw 3 rfl (by kernel_rfl)
  rw [e0] at t0
  rw [e1] at t1
  rw [e2] at t2
  rw [e3] at t3
  obtain ⟨z0, rfl, _⟩ := trod_int64 Try.underlying3 t0
  obtain ⟨z1, rfl, _⟩ := trod_int64 Try.underlying3 t1
  obtain ⟨A1, n1, c1, xs, rfl, s1, m1, _, _⟩ := open_ints8_w t2 w2
  obtain ⟨A2, n2, c2, ys, rfl, s2, m2, _, _⟩ := open_ints8_w t3 w3
  exact ⟨z0, z1, A1, n1, c1, xs, A2, n2, c2, ys, hu0, hu1, hu2, hu3, ⟨s1, m1⟩, s2, m2⟩
set_option maxRecDepth 100000 in
theorem open_cert_w {N : Nat} {cs : List Value} {y : DataW H × List MemPlace} (hl : cs.length = 6) (h : DataW.trod enc Try.prog w base spare held N 40 cs = some y) (hw : ∀ q ∈ y.1.weights Try.prog 40, q ≤ R) :
    ∃ a r A1 n1 c1 bs A2 n2 c2 ps d A3 n3 c3 ss, cs[0]? = some (.int .i64 a) ∧ cs[1]? = some (.int .i64 r) ∧ cs[2]? = some (.slice A1 n1 c1) ∧ cs[3]? = some (.slice A2 n2 c2) ∧ cs[4]? = some (.int .i64 d) ∧ cs[5]? = some (.slice A3 n3 c3) ∧
      (Sl w 1 A1 n1 (ints bs) ∧ n1 * 8 ≤ R) ∧ (Sl w 1 A2 n2 (ints ps) ∧ n2 * 8 ≤ R) ∧ (Sl w 1 A3 n3 (ints ss) ∧ n3 * 8 ≤ R) := by
  obtain ⟨_, y0, t0, w0⟩ := open_field (C := 4) (T := 38) (off := 0) Try.underlying40 h hw 0 rfl (by kernel_rfl)
  obtain ⟨u4, hu4, e4⟩ := one_cell hl (show 4 < 6 by omega)
  obtain ⟨u5, hu5, e5⟩ := one_cell hl (show 5 < 6 by omega)
  obtain ⟨_, y1, t1, _⟩ := open_field (C := 1) (T := 3) (off := 4) Try.underlying40 h hw 1 rfl (by kernel_rfl)
  obtain ⟨_, y2, t2, w2⟩ := open_field (C := 1) (T := 22) (off := 5) Try.underlying40 h hw 2 rfl (by kernel_rfl)
  obtain ⟨a, r, A1, n1, c1, bs, A2, n2, c2, ps, k0, k1, k2, k3, s1, s2⟩ := open_hdr_w (by simp [hl]) t0 w0
  rw [e4] at t1
  rw [e5] at t2
  obtain ⟨z1, rfl, _⟩ := trod_int64 Try.underlying3 t1
  obtain ⟨A3, n3, c3, xs, rfl, s3, m3, _, _⟩ := open_ints8_w t2 w2
  exact ⟨a, r, A1, n1, c1, bs, A2, n2, c2, ps, z1, A3, n3, c3, xs, sub_cell' (o := 0) (by omega) k0, sub_cell' (o := 0) (by omega) k1, sub_cell' (o := 0) (by omega) k2, sub_cell' (o := 0) (by omega) k3, hu4, hu5, s1, s2, s3, m3⟩
end
end Go.Proofs.Ytebaojcfmkobjaa
/-
  Contracts of the law's helpers of layer 7: that it wakes.
-/
namespace Go.Proofs.Ytebaojcfmkobjaa
open Go.RowKit

theorem zV_s (w : World) (x : MsD) (h : x.b = zB ∧ x.h = zH ∧ x.c = zC ∧ x.s = []) : MsS w x zV := by
  obtain ⟨h1, h2, h3, h4⟩ := h
  refine ⟨?_, ?_, ?_, ?_, ?_, ?_, ?_⟩ <;> simp only [h1, h2, h3, h4] <;> exact Sl.nil_
theorem zV_z (x : MsD) (h : x.b = zB ∧ x.h = zH ∧ x.c = zC ∧ x.s = []) : MsZ x zV := by
  obtain ⟨h1, h2, h3, h4⟩ := h
  exact ⟨(by intro t ht; simp [h1, zB] at ht), by simp [zV, nilV], by simp [zV, nilV], by simp [zV, nilV], by simp [zV, nilV], by simp [zV, nilV], by simp [zV, nilV], by simp [zV, nilV]⟩
end Go.Proofs.Ytebaojcfmkobjaa
/-
  The argument of the laws of layer 7, opened: a list of records of a message, a number, bytes.
-/
namespace Go.Proofs.Ytebaojcfmkobjaa
open Go.ChangeShapes Go.WideShapes Go.ChangeAt Go.RowKit Go.Deep
theorem sub_at {cs : List Value} {o C j : Nat} {u : Value} (hj : j < C) (h : ((cs.drop o).take C)[j]? = some u) : cs[o + j]? = some u := by
  rw [List.getElem?_take, if_pos hj, List.getElem?_drop] at h; exact h
set_option maxRecDepth 100000 in
theorem open_batch_w {R : Nat} {H : Type} {enc : TypeId × Value → H} {w : World} {base : Nat} {spare : Nat → Bool} {held : Bool} {N : Nat} {cs : List Value} {y : DataW H × List MemPlace} (hl : cs.length = 3) (h : DataW.trod enc Try.prog w base spare held N 36 cs = some y) (hw : ∀ q ∈ y.1.weights Try.prog 36, q ≤ R) (hR : R ≤ 150000000000001) :
    ∃ a n A1 n1 c1 l, cs[0]? = some (.int .i64 a) ∧ cs[1]? = some (.int .i64 n) ∧ cs[2]? = some (.slice A1 n1 c1) ∧ Sl w 4 A1 n1 (txsC l) ∧ n1 ≤ 20000000000000 ∧ ∀ t ∈ l, t.k.size ≤ 150000000000001 ∧ t.v.size ≤ 150000000000001 := by
  obtain ⟨u0, hu0, e0⟩ := one_cell hl (show 0 < 3 by omega)
  obtain ⟨u1, hu1, e1⟩ := one_cell hl (show 1 < 3 by omega)
  obtain ⟨u2, hu2, e2⟩ := one_cell hl (show 2 < 3 by omega)
  obtain ⟨_, y0, t0, _⟩ := open_field (C := 1) (T := 3) (off := 0) Try.underlying36 h hw 0 rfl (by kernel_rfl)
  obtain ⟨_, y1, t1, _⟩ := open_field (C := 1) (T := 3) (off := 1) Try.underlying36 h hw 1 rfl (by kernel_rfl)
  obtain ⟨_, y2, t2, w2⟩ := open_field (C := 1) (T := 34) (off := 2) Try.underlying36 h hw 2 rfl (by kernel_rfl)
  rw [e0] at t0
  rw [e1] at t1
  rw [e2] at t2
  obtain ⟨z0, rfl, _⟩ := trod_int64 Try.underlying3 t0
  obtain ⟨z1, rfl, _⟩ := trod_int64 Try.underlying3 t1
  obtain ⟨A1, n1, c1, l, rfl, s1, _, _, m1, b1⟩ := open_txs_w t2 w2
  exact ⟨z0, z1, A1, n1, c1, l, hu0, hu1, hu2, s1, by omega, fun t ht => by have := b1 t ht; omega⟩
set_option maxRecDepth 100000 in
set_option maxHeartbeats 1000000 in
theorem open_msg_w {R : Nat} {H : Type} {enc : TypeId × Value → H} {w : World} {base : Nat} {spare : Nat → Bool} {held : Bool} {N : Nat} {cs : List Value} {y : DataW H × List MemPlace} (hl : cs.length = 18) (h : DataW.trod enc Try.prog w base spare held N 42 cs = some y) (hw : ∀ q ∈ y.1.weights Try.prog 42, q ≤ R) (hR : R ≤ 150000000000001) :
    ∃ (x : MsD) (v : MsV), cs = (msC x v).toList ∧ MsS w x v ∧ MsL x v := by
  obtain ⟨_, y0, t0, _⟩ := open_field (C := 1) (T := 3) (off := 0) Try.underlying42 h hw 0 rfl (by kernel_rfl)
  obtain ⟨_, y1, t1, _⟩ := open_field (C := 1) (T := 3) (off := 1) Try.underlying42 h hw 1 rfl (by kernel_rfl)
  obtain ⟨_, y2, t2, _⟩ := open_field (C := 1) (T := 3) (off := 2) Try.underlying42 h hw 2 rfl (by kernel_rfl)
  obtain ⟨_, y3, t3, _⟩ := open_field (C := 1) (T := 3) (off := 3) Try.underlying42 h hw 3 rfl (by kernel_rfl)
  obtain ⟨_, yb, tb, wb⟩ := open_field (C := 3) (T := 36) (off := 4) Try.underlying42 h hw 4 rfl (by kernel_rfl)
  obtain ⟨_, yh, th, wh⟩ := open_field (C := 4) (T := 38) (off := 7) Try.underlying42 h hw 5 rfl (by kernel_rfl)
  obtain ⟨_, yc, tc, wc⟩ := open_field (C := 6) (T := 40) (off := 11) Try.underlying42 h hw 6 rfl (by kernel_rfl)
  obtain ⟨_, yd, td, wd⟩ := open_field (C := 1) (T := 22) (off := 17) Try.underlying42 h hw 7 rfl (by kernel_rfl)
  obtain ⟨u0, hu0, e0⟩ := one_cell hl (show 0 < 18 by omega)
  obtain ⟨u1, hu1, e1⟩ := one_cell hl (show 1 < 18 by omega)
  obtain ⟨u2, hu2, e2⟩ := one_cell hl (show 2 < 18 by omega)
  obtain ⟨u3, hu3, e3⟩ := one_cell hl (show 3 < 18 by omega)
  obtain ⟨u17, hu17, e17⟩ := one_cell hl (show 17 < 18 by omega)
  rw [e0] at t0
  obtain ⟨z0, rfl, _⟩ := trod_int64 Try.underlying3 t0
  rw [e1] at t1
  obtain ⟨z1, rfl, _⟩ := trod_int64 Try.underlying3 t1
  rw [e2] at t2
  obtain ⟨z2, rfl, _⟩ := trod_int64 Try.underlying3 t2
  rw [e3] at t3
  obtain ⟨z3, rfl, _⟩ := trod_int64 Try.underlying3 t3
  rw [e17] at td
  obtain ⟨A7, n7, c7, ds, rfl, s7, m7, _, _⟩ := open_ints8_w td wd
  obtain ⟨ba, bn, A1, n1, c1, l, b0, b1, b2, s1, m1, mz⟩ := open_batch_w (by simp [hl]) tb wb hR
  obtain ⟨ha, hr, A2, n2, c2, xs, A3, n3, c3, ps, h0, h1, h2, h3, ⟨s2, m2⟩, ⟨s3, m3⟩⟩ := open_hdr_w (by simp [hl]) th wh
  obtain ⟨ca, cr, A4, n4, c4, xs2, A5, n5, c5, ps2, cd, A6, n6, c6, ss, k0, k1, k2, k3, k4, k5, ⟨s4, m4⟩, ⟨s5, m5⟩, ⟨s6, m6⟩⟩ := open_cert_w (by simp [hl]) tc wc
  refine ⟨⟨z0, z1, z2, z3, ⟨ba, bn, l⟩, ⟨ha, hr, xs, ps⟩, ⟨⟨ca, cr, xs2, ps2⟩, cd, ss⟩, ds⟩, ⟨⟨A1, n1, c1⟩, ⟨A2, n2, c2⟩, ⟨A3, n3, c3⟩, ⟨A4, n4, c4⟩, ⟨A5, n5, c5⟩, ⟨A6, n6, c6⟩, ⟨A7, n7, c7⟩⟩, ?_, ⟨s1, s2, s3, s4, s5, s6, s7⟩, ⟨mz, m1, by show n2 ≤ _; omega, by show n3 ≤ _; omega, by show n4 ≤ _; omega, by show n5 ≤ _; omega, by show n6 ≤ _; omega, by show n7 ≤ _; omega⟩⟩
  refine List.ext_getElem? fun j => ?_
  by_cases hj : j < 18
  · match j, hj with
    | 0, _ => exact hu0
    | 1, _ => exact hu1
    | 2, _ => exact hu2
    | 3, _ => exact hu3
    | 4, _ => exact sub_at (o := 4) (by omega) b0
    | 5, _ => exact sub_at (o := 4) (by omega) b1
    | 6, _ => exact sub_at (o := 4) (by omega) b2
    | 7, _ => exact sub_at (o := 7) (by omega) h0
    | 8, _ => exact sub_at (o := 7) (by omega) h1
    | 9, _ => exact sub_at (o := 7) (by omega) h2
    | 10, _ => exact sub_at (o := 7) (by omega) h3
    | 11, _ => exact sub_at (o := 11) (by omega) k0
    | 12, _ => exact sub_at (o := 11) (by omega) k1
    | 13, _ => exact sub_at (o := 11) (by omega) k2
    | 14, _ => exact sub_at (o := 11) (by omega) k3
    | 15, _ => exact sub_at (o := 11) (by omega) k4
    | 16, _ => exact sub_at (o := 11) (by omega) k5
    | 17, _ => exact hu17
    | j + 18, hj => exact absurd hj (by omega)
  · rw [List.getElem?_eq_none (by omega), List.getElem?_eq_none (by show 18 ≤ j; omega)]
end Go.Proofs.Ytebaojcfmkobjaa
/-
  Words for the walks of layer 7's laws: the record of an ask, bounds, what a copy is.
-/
namespace Go.Proofs.Ytebaojcfmkobjaa
open Go.RowKit

theorem twT_ge : ∀ (ls : List TxD) (n : Nat), n ≤ twT ls n
  | [], n => by simp [twT]
  | t :: r, n => by
    rw [twT]
    split
    · exact Nat.le_trans (by omega) (twT_ge r _)
    · exact Nat.le_refl _
theorem MsL.z {x : MsD} {v : MsV} (h : MsL x v) : MsZ x v :=
  ⟨fun t ht => by have := h.txz t ht; omega, by have := h.tx; omega, by have := h.hb; omega, by have := h.hp; omega, by have := h.cb; omega, by have := h.cp; omega, by have := h.cs; omega, by have := h.ds; omega⟩
theorem MsL.light {x : MsD} {v : MsV} (h : decide (2000 < msW x v) = false) : MsK x v := by
  have h1 : msW x v ≤ 2000 := by simpa using h
  unfold msW at h1
  have := twT_ge x.b.l v.tx.n
  exact ⟨by omega, by omega, by omega, by omega, by omega, by omega, by omega⟩
theorem MsE.z {x : MsD} {u v : MsV} (h : MsE u v) (hz : MsZ x v) : MsZ x u :=
  ⟨hz.txz, by rw [h.tx]; exact hz.tx, by rw [h.hb]; exact hz.hb, by rw [h.hp]; exact hz.hp, by rw [h.cb]; exact hz.cb, by rw [h.cp]; exact hz.cp, by rw [h.cs]; exact hz.cs, by rw [h.ds]; exact hz.ds⟩
theorem MsE.k {x : MsD} {u v : MsV} (h : MsE u v) (hz : MsK x v) : MsK x u :=
  ⟨by rw [h.tx]; exact hz.tx, by rw [h.hb]; exact hz.hb, by rw [h.hp]; exact hz.hp, by rw [h.cb]; exact hz.cb, by rw [h.cp]; exact hz.cp, by rw [h.cs]; exact hz.cs, by rw [h.ds]; exact hz.ds⟩
theorem MsO.s {B : Nat} {w : World} {x : MsD} {u : MsV} (h : MsO B w x u) : MsS w x u :=
  ⟨Sl.of_own h.tx, Sl.of_own h.hb, Sl.of_own h.hp, Sl.of_own h.cb, Sl.of_own h.cp, Sl.of_own h.cs, Sl.of_own h.ds⟩
theorem alloc_msg (w : World) : (Instr.alloc 42 true (.tuple #[])).run Try.prog w = .ok (.pointer (some ⟨w.heap.size, 0, none⟩)) (w.alloc (.cells (msC zM zV) 42)) := by
  simp [go_sem, msC, zM, zV, nilV, SlV.v, zB, zH, zC]
theorem one_msg {x : MsD} {v : MsV} {C : Array Value} (h : C = msC x v) : ∀ z ∈ C.toList, z.oneCell' = true := by
  subst h; simp [msC, SlV.v, Value.oneCell']
theorem MsS.to {w : World} {x : MsD} {u : MsV} (h : MsS w x u) (k t : Int) : MsS w { x with k := k, t := t } u := ⟨h.tx, h.hb, h.hp, h.cb, h.cp, h.cs, h.ds⟩
theorem MsZ.to {x : MsD} {u : MsV} (h : MsZ x u) (k t : Int) : MsZ { x with k := k, t := t } u := ⟨h.txz, h.tx, h.hb, h.hp, h.cb, h.cp, h.cs, h.ds⟩
theorem zM_s (w : World) : MsS w zM zV := zV_s w zM ⟨rfl, rfl, rfl, rfl⟩
theorem zM_z : MsZ zM zV := zV_z zM ⟨rfl, rfl, rfl, rfl⟩
end Go.Proofs.Ytebaojcfmkobjaa
/-
  The argument of the laws of layer 8, opened: a script of numbers, liars, messages, whether they are put ahead, who signs what.
-/
namespace Go.Proofs.Ytebaojcfmkobjaa
open Go.ChangeShapes Go.WideShapes Go.ChangeAt Go.RowKit Go.Deep

structure ScV where
  li : SlV
  l : SlV
  pu : SlV
  wo : SlV
  wi : SlV
def scC (N : Int) (s : ScV) : Array Value := #[.int .i64 N, .slice s.li.A s.li.n s.li.c, .slice s.l.A s.l.n s.l.c, .slice s.pu.A s.pu.n s.pu.c, .slice s.wo.A s.wo.n s.wo.c, .slice s.wi.A s.wi.n s.wi.c]
/-- A list of messages: the k-th one's cells, its slices. -/
structure MsgAt (w : World) (A : Option Addr) (k : Nat) (p : MsD × MsV) : Prop where
  at_ : ∃ b off, A = some ⟨b, off, none⟩ ∧ b < w.heap.size ∧ ∀ j z, (msC p.1 p.2)[j]? = some z → w.cell? ⟨b, off + k * 18 + j, none⟩ = some z
  s : MsS w p.1 p.2
  l : MsL p.1 p.2
  d : p.2.ds.n * 8 ≤ 140737488355328
def Msgs (w : World) (A : Option Addr) (n : Nat) (xs : List (MsD × MsV)) : Prop := xs.length = n ∧ ∀ k p, xs[k]? = some p → MsgAt w A k p
theorem MsgAt.below {w w' : World} {A : Option Addr} {k : Nat} {p : MsD × MsV} (h : MsgAt w A k p) (hb : Below w.heap.size w w') : MsgAt w' A k p := by
  obtain ⟨⟨b, off, e, hlt, hc⟩, h1, h2, h3⟩ := h
  exact ⟨⟨b, off, e, Nat.lt_of_lt_of_le hlt hb.size, fun j z hz => (hb.cell hlt).trans (hc j z hz)⟩, h1.below hb, h2, h3⟩
theorem Msgs.below {w w' : World} {A : Option Addr} {n : Nat} {xs : List (MsD × MsV)} (h : Msgs w A n xs) (hb : Below w.heap.size w w') : Msgs w' A n xs := ⟨h.1, fun k p hp => (h.2 k p hp).below hb⟩
def bools (l : List Bool) : List Value := l.map Value.bool
structure Scr (w : World) (s : ScV) (ls : List Int) (xs : List (MsD × MsV)) (pb : List Bool) (who wch : List Int) : Prop where
  li : Sl w 1 s.li.A s.li.n (ints ls)
  l : Msgs w s.l.A s.l.n xs
  pu : Sl w 1 s.pu.A s.pu.n (bools pb)
  wo : Sl w 1 s.wo.A s.wo.n (ints who)
  wi : Sl w 1 s.wi.A s.wi.n (ints wch)
structure ScZ (s : ScV) (who wch : List Int) : Prop where
  li : s.li.n ≤ 9223372036854775807
  l : s.l.n ≤ 9223372036854775807
  pu : s.pu.n ≤ 9223372036854775807
  wo : s.wo.n ≤ 9223372036854775807
  wi : s.wi.n ≤ 9223372036854775807
  zo : ∀ z ∈ who, -9223372036854775808 ≤ z ∧ z ≤ 9223372036854775807
  zi : ∀ z ∈ wch, -9223372036854775808 ≤ z ∧ z ≤ 9223372036854775807
theorem Scr.below {w w' : World} {s : ScV} {ls : List Int} {xs : List (MsD × MsV)} {pb : List Bool} {who wch : List Int} (h : Scr w s ls xs pb who wch) (hb : Below w.heap.size w w') : Scr w' s ls xs pb who wch :=
  ⟨h.li.below hb, h.l.below hb, h.pu.below hb, h.wo.below hb, h.wi.below hb⟩
section
variable {H : Type} {enc : TypeId × Value → H} {w : World} {base : Nat} {spare : Nat → Bool} {held : Bool} {R : Nat}
theorem open_bools_w {t e fuel : Nat} {P : Program} {v : Value} {x : DataW H × List MemPlace} (ht : P.underlying t = some (.slice e)) (he : P.underlying e = some .bool) (hC : P.cellsOf e = 1)
    (h : DataW.trod enc P w base spare held fuel t [v] = some x) (hw : ∀ q ∈ x.1.weights P t, q ≤ R) :
    ∃ A n c xs, v = .slice A n c ∧ Sl w 1 A n (bools xs) ∧ n ≤ c ∧ c ≤ 9223372036854775807 := by
  obtain ⟨A, n, c, xs, h1, h2, h3, h4, _, _⟩ := open_kind (f := Value.bool) (Pp := fun _ => True) ht hC (by
    intro N u y htr hq
    obtain ⟨z, hz, _⟩ := DataW.trod_bool he htr
    exact ⟨z, by simpa using hz, trivial⟩) h hw
  exact ⟨A, n, c, xs, h1, h2, h3, h4⟩
set_option maxRecDepth 100000 in
theorem open_msgs_w {fuel : Nat} {v : Value} {x : DataW H × List MemPlace} (h : DataW.trod enc Try.prog w base spare held fuel 23 [v] = some x) (hw : ∀ q ∈ x.1.weights Try.prog 23, q ≤ R) (hR : R ≤ 140737488351232) :
    ∃ A n c xs, v = .slice A n c ∧ Msgs w A n xs ∧ n ≤ 9223372036854775807 ∧ ∀ p ∈ xs, p.2.ds.n * 8 ≤ 140737488351232 := by
  obtain ⟨A, n, c, rfl, h1, h2, _, h4⟩ := open_list (C := 18) Try.underlying23 (by kernel_rfl) (by omega) h hw
  rcases Nat.eq_zero_or_pos n with rfl | hn
  · exact ⟨A, 0, c, [], rfl, ⟨rfl, fun k p hp => by simp at hp⟩, by omega, fun p hp => by simp at hp⟩
  · obtain ⟨b, off, rfl, hb, hc⟩ := h4 hn
    have hall : ∀ k : Fin n, ∃ p : MsD × MsV, MsgAt w (some ⟨b, off, none⟩) k.val p ∧ p.2.ds.n * 8 ≤ 140737488351232 := by
      intro k
      obtain ⟨cs, N, y, hl, hcell, htr, hq⟩ := hc k.val k.isLt
      obtain ⟨x, u, he, hs, hL⟩ := open_msg_w (by simp [hl]) htr hq (by omega)
      obtain ⟨_, yd, td, wd⟩ := open_field (C := 1) (T := 22) (off := 17) Try.underlying42 htr hq 7 rfl (by kernel_rfl)
      obtain ⟨u17, hu17, e17⟩ := one_cell hl (show 17 < 18 by omega)
      rw [e17] at td
      obtain ⟨A7, n7, c7, ds, rfl, _, m7, _, _⟩ := open_ints8_w td wd
      have hd : u.ds.v = .slice A7 n7 c7 := by
        rw [he] at hu17
        have : (msC x u).toList[17]? = some u.ds.v := rfl
        rw [this] at hu17
        injection hu17
      have hd8 : u.ds.n * 8 ≤ 140737488351232 := by
        unfold SlV.v at hd
        injection hd with _ e2 _
        rw [e2]; omega
      refine ⟨(x, u), ⟨⟨b, off, rfl, hb, fun j z hz => ?_⟩, hs, hL, Nat.le_trans hd8 (by omega)⟩, hd8⟩
      · have hj : j < 18 := by
          have hz2 : j < (msC x u).size := by
            rcases Nat.lt_or_ge j (msC x u).size with h | h
            · exact h
            · rw [Array.getElem?_eq_none h] at hz; cases hz
          exact hz2
        refine (hcell j hj).trans ?_
        rw [he]; simpa using hz
    let g : Fin n → MsD × MsV := fun k => (hall k).choose
    have hg : ∀ k, MsgAt w (some ⟨b, off, none⟩) k.val (g k) ∧ (g k).2.ds.n * 8 ≤ 140737488351232 := fun k => (hall k).choose_spec
    refine ⟨_, n, c, List.ofFn g, rfl, ⟨by simp, fun k p hp => ?_⟩, by omega, fun p hp => by
      obtain ⟨k, rfl⟩ := List.mem_ofFn.mp hp
      exact (hg k).2⟩
    rw [List.getElem?_ofFn] at hp
    split at hp
    · rename_i hj
      injection hp with hp
      rw [← hp]
      exact (hg ⟨k, hj⟩).1
    · cases hp
set_option maxRecDepth 100000 in
theorem open_scr8 {b0 : Nat} {v : Value} {d : DataW H} {p : List MemPlace} (hv : Value.okWide Try.prog w .any b0 26 v) (h : DataW.Trod enc Try.prog w 0 (fun _ => true) true 26 v d p)
    (hw : ∀ q ∈ d.weights Try.prog 26, q ≤ R) (hR : R ≤ 140737488351232) :
    ∃ N s ls xs pb who wch, v = .agg (scC N s) ∧ Scr w s ls xs pb who wch ∧ ScZ s who wch ∧ ∀ p ∈ xs, p.2.ds.n * 8 ≤ 140737488351232 := by
  obtain ⟨cs, rfl, hsz⟩ := okWide_struct Try.underlying26 hv
  rw [show Try.prog.cellsOf 26 = 6 by kernel_rfl] at hsz
  obtain ⟨fuel, hf⟩ := h
  have hf : DataW.trod enc Try.prog w 0 (fun _ => true) true fuel 26 cs.toList = some (d, p) := hf
  have hl : cs.toList.length = 6 := by simpa using hsz
  obtain ⟨_, y0, t0, _⟩ := open_field (C := 1) (T := 3) (off := 0) Try.underlying26 hf hw 0 rfl (by kernel_rfl)
  obtain ⟨_, y1, t1, w1⟩ := open_field (C := 1) (T := 22) (off := 1) Try.underlying26 hf hw 1 rfl (by kernel_rfl)
  obtain ⟨_, y2, t2, w2⟩ := open_field (C := 1) (T := 23) (off := 2) Try.underlying26 hf hw 2 rfl (by kernel_rfl)
  obtain ⟨_, y3, t3, w3⟩ := open_field (C := 1) (T := 24) (off := 3) Try.underlying26 hf hw 3 rfl (by kernel_rfl)
  obtain ⟨_, y4, t4, w4⟩ := open_field (C := 1) (T := 22) (off := 4) Try.underlying26 hf hw 4 rfl (by kernel_rfl)
  obtain ⟨_, y5, t5, w5⟩ := open_field (C := 1) (T := 22) (off := 5) Try.underlying26 hf hw 5 rfl (by kernel_rfl)
  obtain ⟨u0, hu0, e0⟩ := one_cell hl (show 0 < 6 by omega)
  obtain ⟨u1, hu1, e1⟩ := one_cell hl (show 1 < 6 by omega)
  obtain ⟨u2, hu2, e2⟩ := one_cell hl (show 2 < 6 by omega)
  obtain ⟨u3, hu3, e3⟩ := one_cell hl (show 3 < 6 by omega)
  obtain ⟨u4, hu4, e4⟩ := one_cell hl (show 4 < 6 by omega)
  obtain ⟨u5, hu5, e5⟩ := one_cell hl (show 5 < 6 by omega)
  rw [e0] at t0
  rw [e1] at t1
  rw [e2] at t2
  rw [e3] at t3
  rw [e4] at t4
  rw [e5] at t5
  obtain ⟨N, rfl, _⟩ := trod_int64 Try.underlying3 t0
  obtain ⟨A1, n1, c1, ls, rfl, s1, p1, q1, _, _⟩ := open_ints_w Try.underlying22 Try.underlying3 (by kernel_rfl) t1 w1
  obtain ⟨A2, n2, c2, xs, rfl, s2, m2, d2⟩ := open_msgs_w t2 w2 hR
  obtain ⟨A3, n3, c3, pb, rfl, s3, p3, q3⟩ := open_bools_w Try.underlying24 Try.underlying4 (by kernel_rfl) t3 w3
  obtain ⟨A4, n4, c4, who, rfl, s4, p4, q4, _, z4⟩ := open_ints_w Try.underlying22 Try.underlying3 (by kernel_rfl) t4 w4
  obtain ⟨A5, n5, c5, wch, rfl, s5, p5, q5, _, z5⟩ := open_ints_w Try.underlying22 Try.underlying3 (by kernel_rfl) t5 w5
  refine ⟨N, ⟨⟨A1, n1, c1⟩, ⟨A2, n2, c2⟩, ⟨A3, n3, c3⟩, ⟨A4, n4, c4⟩, ⟨A5, n5, c5⟩⟩, ls, xs, pb, who, wch, ?_, ⟨s1, s2, s3, s4, s5⟩, ⟨by show n1 ≤ _; omega, m2, by show n3 ≤ _; omega, by show n4 ≤ _; omega, by show n5 ≤ _; omega, z4, z5⟩, d2⟩
  congr 1
  apply Array.toList_inj.1
  refine List.ext_getElem? fun j => ?_
  by_cases hj : j < 6
  · match j, hj with
    | 0, _ => exact hu0
    | 1, _ => exact hu1
    | 2, _ => exact hu2
    | 3, _ => exact hu3
    | 4, _ => exact hu4
    | 5, _ => exact hu5
    | j + 6, hj => exact absurd hj (by omega)
  · rw [List.getElem?_eq_none (by omega), List.getElem?_eq_none (by show 6 ≤ j; omega)]
theorem reach8 : reachBytes ≤ 140737488351232 := by unfold reachBytes; omega
end
end Go.Proofs.Ytebaojcfmkobjaa
