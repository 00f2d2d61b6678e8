
/-
  The argument of a law, opened with the reach of all that is met: whatever string, whatever slice is no larger than R bytes.
-/
import Derived.Test.YtflamhndmggiaaaLaw
import Derived.SizedLaws
namespace Go.Proofs.Ytflamhndmggiaaa
open Go.ChangeShapes Go.WideShapes Go.ChangeAt Go.RowKit Go.Deep

theorem reach_ok : reachBytes ≤ 150000000000001 := by unfold reachBytes; omega
theorem weightsAll_mem {H : Type} {P : Program} {e : TypeId} : ∀ {l : List (DataW H)} {d : DataW H}, d ∈ l → ∀ n ∈ d.weights P e, n ∈ DataW.weightsAll P e l
  | d' :: r, d, hd, n, hn => by
    simp only [DataW.weightsAll, List.mem_append]
    rcases List.mem_cons.1 hd with rfl | h
    · exact Or.inl hn
    · exact Or.inr (weightsAll_mem h n hn)

section
variable {H : Type} {enc : TypeId × Value → H} {P : Program} {w : World} {base : Nat} {spare : Nat → Bool} {held : Bool} {R : Nat}
/-- A list of elements of C cells each, opened. -/
theorem open_list {t e C fuel : Nat} {v : Value} {x : DataW H × List MemPlace} (ht : P.underlying t = some (.slice e)) (hC : P.cellsOf e = C) (hpos : 0 < C)
    (h : DataW.trod enc P w base spare held fuel t [v] = some x) (hw : ∀ q ∈ x.1.weights P t, q ≤ R) :
    ∃ A n c, v = .slice A n c ∧ n ≤ c ∧ c ≤ 9223372036854775807 ∧ n * P.bytesOf e ≤ R ∧ (0 < n → ∃ b off, A = some ⟨b, off, none⟩ ∧ b < w.heap.size ∧ ∀ k, k < n →
      ∃ (cs : List Value) (N : Nat) (y : DataW H × List MemPlace), cs.length = C ∧ (∀ j, j < C → w.cell? ⟨b, off + k * C + j, none⟩ = cs[j]?) ∧ DataW.trod enc P w base spare held N e cs = some y ∧ ∀ q ∈ y.1.weights P e, q ≤ R) := by
  rcases open_slice ht h with ⟨hcs, _⟩ | ⟨a, len, cap, m, N, D, Pl, hcs, _, hl, hm, hmm, hx, hi⟩
  · obtain rfl : v = .slice none 0 0 := by simpa using hcs
    exact ⟨_, _, _, rfl, by omega, by omega, by omega, fun h => absurd h (by omega)⟩
  · obtain rfl : v = .slice (some a) len cap := by simpa using hcs
    have hmax : cap ≤ 9223372036854775807 := by simpa [maxLen] using hm
    have hle : len ≤ m := by rw [hmm]; split <;> omega
    have hW : (len + (m - len)) * P.bytesOf e ≤ R := by
      apply hw
      rw [hx]
      simp [DataW.weights, ht]
    have hlb : len * P.bytesOf e ≤ R := Nat.le_trans (Nat.mul_le_mul_right _ (by omega)) hW
    refine ⟨_, _, _, rfl, by omega, by omega, hlb, fun hn => ?_⟩
    obtain ⟨cs0, hc0, _⟩ := hi 0 (by omega)
    rw [hC] at hc0
    obtain ⟨_, hcl0, hat0⟩ := World.cells?_some hc0
    have h00 := hat0 0 (by omega)
    rw [List.getElem?_eq_getElem (by omega)] at h00
    have hs : a.spot = none := by
      have := spot_of_cell h00
      unfold Addr.add at this
      simpa using this
    have ha := addr_eta hs
    have hb : a.block < w.heap.size := by
      have := lt_of_cell h00
      unfold Addr.add at this
      simpa using this
    refine ⟨a.block, a.off, by rw [← ha], hb, fun k hk => ?_⟩
    obtain ⟨cs, hc, hk'⟩ := hi k (by omega)
    rw [hC] at hc
    obtain ⟨_, hcl, hat⟩ := World.cells?_some hc
    refine ⟨cs, N, _, hcl, fun j hj => ?_, hk', fun q hq => ?_⟩
    · have := hat j hj
      rw [ha] at this
      simp only [add_lit] at this
      exact this
    · apply hw
      rw [hx]
      simp only [DataW.weights, ht, List.mem_cons, List.mem_append]
      refine Or.inr (Or.inl (weightsAll_mem (d := D k) ?_ q hq))
      exact List.mem_map.mpr ⟨k, List.mem_range.mpr hk, rfl⟩
/-- .. of a law's argument. -/
theorem open_top {t e C b0 : Nat} {r : Reach} {v : Value} {d : DataW H} {p : List MemPlace} (ht : P.underlying t = some (.slice e)) (hC : P.cellsOf e = C) (hpos : 0 < C) (hv : Value.okWide P w r b0 t v)
    (h : DataW.Trod enc P w base spare held t v d p) (hw : ∀ q ∈ d.weights P t, q ≤ R) :
    ∃ A n c, v = .slice A n c ∧ n ≤ c ∧ c ≤ 9223372036854775807 ∧ n * P.bytesOf e ≤ R ∧ (0 < n → ∃ b off, A = some ⟨b, off, none⟩ ∧ b < w.heap.size ∧ ∀ k, k < n →
      ∃ (cs : List Value) (N : Nat) (y : DataW H × List MemPlace), cs.length = C ∧ (∀ j, j < C → w.cell? ⟨b, off + k * C + j, none⟩ = cs[j]?) ∧ DataW.trod enc P w base spare held N e cs = some y ∧ ∀ q ∈ y.1.weights P e, q ≤ R) := by
  obtain ⟨A0, n0, c0, rfl⟩ := okWide_slice ht hv
  obtain ⟨fuel, hf⟩ := h
  exact open_list ht hC hpos hf hw
/-- A record's field, opened. -/
theorem open_field {e N : Nat} {fs : Array Field} {cs : List Value} {y : DataW H × List MemPlace} (he : P.underlying e = some (.struct fs)) (h : DataW.trod enc P w base spare held N e cs = some y) (hw : ∀ q ∈ y.1.weights P e, q ≤ R)
    (i : Nat) {T off C : Nat} (hf : (fs[i]?).map (fun f => (f.type, f.offset)) = some (T, off)) (hC : P.cellsOf T = C) :
    ∃ (M : Nat) (z : DataW H × List MemPlace), DataW.trod enc P w base spare held M T ((cs.drop off).take C) = some z ∧ ∀ q ∈ z.1.weights P T, q ≤ R := by
  obtain ⟨ys, n', _, hy, _, hyl, hff⟩ := DataW.trod_struct he h
  obtain ⟨f, hi, hfo⟩ := Option.map_eq_some_iff.1 hf
  simp only [Prod.mk.injEq] at hfo
  obtain ⟨rfl, rfl⟩ := hfo
  have hlt : i < ys.length := by rw [hyl]; exact (Array.getElem?_eq_some_iff.1 hi).1
  have h1 := hff i f hi
  rw [hC, List.getElem?_eq_getElem hlt] at h1
  refine ⟨_, _, h1, fun q hq => hw q ?_⟩
  rw [hy]
  simp only [DataW.weights, he]
  refine DataW.weights_mem_each (j := i) (t := f.type) (d := ys[i].1) ?_ ?_ q hq
  · rw [List.getElem?_map, Array.getElem?_toList, hi]; rfl
  · rw [List.getElem?_map, List.getElem?_eq_getElem hlt]; rfl
theorem one_cell {cs : List Value} {C j : Nat} (hl : cs.length = C) (hj : j < C) : ∃ u, cs[j]? = some u ∧ (cs.drop j).take 1 = [u] := by
  have hj' : j < cs.length := by omega
  refine ⟨cs[j], List.getElem?_eq_getElem hj', ?_⟩
  rw [List.drop_eq_getElem_cons hj']
  rfl
/-- A list of one-cell elements, each of a kind. -/
theorem open_kind {α : Type} {f : α → Value} {Pp : α → Prop} {t e fuel : Nat} {v : Value} {x : DataW H × List MemPlace} (ht : P.underlying t = some (.slice e)) (hC : P.cellsOf e = 1)
    (hk : ∀ (N : Nat) (u : Value) (y : DataW H × List MemPlace), DataW.trod enc P w base spare held N e [u] = some y → (∀ q ∈ y.1.weights P e, q ≤ R) → ∃ a, u = f a ∧ Pp a)
    (h : DataW.trod enc P w base spare held fuel t [v] = some x) (hw : ∀ q ∈ x.1.weights P t, q ≤ R) :
    ∃ A n c, ∃ xs : List α, v = .slice A n c ∧ Sl w 1 A n (xs.map f) ∧ n ≤ c ∧ c ≤ 9223372036854775807 ∧ n * P.bytesOf e ≤ R ∧ ∀ a ∈ xs, Pp a := by
  obtain ⟨A, n, c, rfl, h1, h2, h3, h4⟩ := open_list ht hC (by omega) h hw
  rcases Nat.eq_zero_or_pos n with rfl | hn
  · exact ⟨A, 0, c, [], rfl, ⟨by simp, fun h => absurd h (by omega)⟩, h1, h2, h3, by simp⟩
  · obtain ⟨b, off, rfl, hb, hc⟩ := h4 hn
    have hall : ∀ k : Fin n, ∃ a, w.cell? ⟨b, off + k.val, none⟩ = some (f a) ∧ Pp a := by
      intro k
      obtain ⟨cs, N, y, hl, hcell, htr, hq⟩ := hc k.val k.isLt
      obtain ⟨u, hu, _⟩ := one_cell hl (show 0 < 1 by omega)
      have : cs = [u] := by
        match cs, hl, hu with
        | [z], _, hu => simpa using hu
      subst this
      obtain ⟨a, rfl, ha⟩ := hk N u y htr hq
      refine ⟨a, ?_, ha⟩
      have := hcell 0 (by omega)
      simpa using this
    let g : Fin n → α := fun k => (hall k).choose
    have hg : ∀ k, w.cell? ⟨b, off + k.val, none⟩ = some (f (g k)) ∧ Pp (g k) := fun k => (hall k).choose_spec
    refine ⟨_, n, c, List.ofFn g, rfl, ⟨by simp, fun _ => ⟨b, off, rfl, hb, fun j u hu => ?_⟩⟩, h1, h2, h3, fun a ha => ?_⟩
    · rw [List.getElem?_map, List.getElem?_ofFn] at hu
      split at hu
      · rename_i hj
        simp only [Option.map_some, Option.some.injEq] at hu
        rw [← hu]
        exact (hg ⟨j, hj⟩).1
      · simp at hu
    · obtain ⟨k, rfl⟩ := List.mem_ofFn.mp ha
      exact (hg k).2
theorem open_strs_w {t e fuel : Nat} {v : Value} {x : DataW H × List MemPlace} (ht : P.underlying t = some (.slice e)) (he : P.underlying e = some .string) (hC : P.cellsOf e = 1)
    (h : DataW.trod enc P w base spare held fuel t [v] = some x) (hw : ∀ q ∈ x.1.weights P t, q ≤ R) :
    ∃ A n c ls, v = .slice A n c ∧ Sl w 1 A n (strs ls) ∧ n ≤ c ∧ c ≤ 9223372036854775807 ∧ n * P.bytesOf e ≤ R ∧ ∀ s ∈ ls, s.size ≤ R := by
  refine open_kind (f := Value.string) (Pp := fun s : ByteArray => s.size ≤ R) ht hC ?_ h hw
  intro N u y htr hq
  obtain ⟨s, hs, rfl, _⟩ := DataW.trod_string he htr
  refine ⟨s, by simpa using hs, ?_⟩
  have := hq s.data.toList.length (by simp [DataW.weights])
  rw [Array.length_toList] at this
  exact this
theorem open_bytes_w {t e fuel : Nat} {v : Value} {x : DataW H × List MemPlace} (ht : P.underlying t = some (.slice e)) (he : P.underlying e = some (.int .u8)) (hC : P.cellsOf e = 1)
    (h : DataW.trod enc P w base spare held fuel t [v] = some x) (hw : ∀ q ∈ x.1.weights P t, q ≤ R) :
    ∃ A n c bs, v = .slice A n c ∧ Sl w 1 A n (bytes8 bs) ∧ n ≤ c ∧ c ≤ 9223372036854775807 ∧ n * P.bytesOf e ≤ R := by
  obtain ⟨A, n, c, bs, h1, h2, h3, h4, h5, _⟩ := open_kind (f := fun b : UInt8 => Value.int .u8 b.toNat) (Pp := fun _ : UInt8 => True) ht hC (by
    intro N u y htr hq
    obtain ⟨z, hz, _, hwf⟩ := DataW.trod_int he htr
    have hz' : 0 ≤ z ∧ z ≤ 255 := by simpa [Lit.wf, IntKind.min, IntKind.max, IntKind.signed, IntKind.bits] using hwf
    refine ⟨UInt8.ofNat z.toNat, ?_, trivial⟩
    have : (UInt8.ofNat z.toNat).toNat = z.toNat := by rw [UInt8.toNat_ofNat']; omega
    rw [this]
    simp only [List.cons.injEq, and_true] at hz
    rw [hz]
    congr 1
    omega) h hw
  exact ⟨A, n, c, bs, h1, h2, h3, h4, h5⟩
theorem open_ints_w {t e fuel : Nat} {v : Value} {x : DataW H × List MemPlace} (ht : P.underlying t = some (.slice e)) (he : P.underlying e = some (.int .i64)) (hC : P.cellsOf e = 1)
    (h : DataW.trod enc P w base spare held fuel t [v] = some x) (hw : ∀ q ∈ x.1.weights P t, q ≤ R) :
    ∃ A n c xs, v = .slice A n c ∧ Sl w 1 A n (ints xs) ∧ n ≤ c ∧ c ≤ 9223372036854775807 ∧ n * P.bytesOf e ≤ R ∧ ∀ z ∈ xs, -9223372036854775808 ≤ z ∧ z ≤ 9223372036854775807 := by
  refine open_kind (f := Value.int .i64) (Pp := fun z : Int => -9223372036854775808 ≤ z ∧ z ≤ 9223372036854775807) ht hC ?_ h hw
  intro N u y htr hq
  obtain ⟨z, hz, _, hwf⟩ := DataW.trod_int he htr
  refine ⟨z, by simpa using hz, ?_⟩
  simpa [Lit.wf, IntKind.min, IntKind.max, IntKind.signed, IntKind.bits] using hwf
end
end Go.Proofs.Ytflamhndmggiaaa
