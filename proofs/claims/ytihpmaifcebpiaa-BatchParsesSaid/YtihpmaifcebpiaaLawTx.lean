/-
  A list of transactions of the argument, opened.
-/
import Derived.Test.YtihpmaifcebpiaaLawSz
import Derived.Test.YtihpmaifcebpiaaBat
namespace Go.Proofs.Ytihpmaifcebpiaa
open Go.ChangeShapes Go.WideShapes Go.ChangeAt Go.RowKit Go.Deep
theorem txsC_get : ∀ (l : List TxD) (j : Nat) (u : Value), (txsC l)[j]? = some u → ∃ t, l[j / 4]? = some t ∧ (txC t)[j % 4]? = some u
  | [], j, u, h => by simp [txsC] at h
  | t :: l, j, u, h => by
    rw [txsC, List.flatMap_cons] at h
    rcases Nat.lt_or_ge j 4 with hj | hj
    · rw [List.getElem?_append_left (by simpa [txC] using hj)] at h
      refine ⟨t, ?_, ?_⟩
      · rw [Nat.div_eq_of_lt hj]; rfl
      · rw [Nat.mod_eq_of_lt hj]; exact h
    · rw [List.getElem?_append_right (by simpa [txC] using hj)] at h
      obtain ⟨t', h1, h2⟩ := txsC_get l (j - 4) u (by simpa [txC, txsC] using h)
      refine ⟨t', ?_, ?_⟩
      · rw [show j / 4 = (j - 4) / 4 + 1 by omega]; exact h1
      · rw [show j % 4 = (j - 4) % 4 by omega]; exact h2
section
variable {H : Type} {enc : TypeId × Value → H} {w : World} {base : Nat} {spare : Nat → Bool} {held : Bool} {R : Nat}
set_option maxRecDepth 100000 in
theorem open_txs_w {fuel : Nat} {v : Value} {x : DataW H × List MemPlace} (h : DataW.trod enc Try.prog w base spare held fuel 24 [v] = some x) (hw : ∀ q ∈ x.1.weights Try.prog 24, q ≤ R) :
    ∃ A n c l, v = .slice A n c ∧ Sl w 4 A n (txsC l) ∧ n ≤ c ∧ c ≤ 9223372036854775807 ∧ n * 48 ≤ R ∧ (∀ t ∈ l, t.k.size ≤ R ∧ t.v.size ≤ R) := by
  obtain ⟨A, n, c, rfl, h1, h2, h3, h4⟩ := open_list (C := 4) Try.underlying24 (by kernel_rfl) (by omega) h hw
  rw [show Try.prog.bytesOf 67 = 48 by kernel_rfl] at h3
  rcases Nat.eq_zero_or_pos n with rfl | hn
  · exact ⟨A, 0, c, [], rfl, ⟨rfl, fun h => absurd h (by omega)⟩, h1, h2, h3, by simp⟩
  · obtain ⟨b, off, rfl, hb, hc⟩ := h4 hn
    have hall : ∀ k : Fin n, ∃ t : TxD, (∀ j u, (txC t)[j]? = some u → w.cell? ⟨b, off + k.val * 4 + j, none⟩ = some u) ∧ t.k.size ≤ R ∧ t.v.size ≤ R := by
      intro k
      obtain ⟨cs, N, y, hl, hcell, htr, hq⟩ := hc k.val k.isLt
      obtain ⟨u0, hu0, e0⟩ := one_cell hl (show 0 < 4 by omega)
      obtain ⟨u1, hu1, e1⟩ := one_cell hl (show 1 < 4 by omega)
      obtain ⟨u2, hu2, e2⟩ := one_cell hl (show 2 < 4 by omega)
      obtain ⟨u3, hu3, e3⟩ := one_cell hl (show 3 < 4 by omega)
      obtain ⟨_, y0, t0, _⟩ := open_field (C := 1) (T := 3) (off := 0) Try.underlying67 htr hq 0 rfl (by kernel_rfl)
      obtain ⟨_, y1, t1, _⟩ := open_field (C := 1) (T := 3) (off := 1) Try.underlying67 htr hq 1 rfl (by kernel_rfl)
      obtain ⟨_, y2, t2, w2⟩ := open_field (C := 1) (T := 9) (off := 2) Try.underlying67 htr hq 2 rfl (by kernel_rfl)
      obtain ⟨_, y3, t3, w3⟩ := open_field (C := 1) (T := 9) (off := 3) Try.underlying67 htr hq 3 rfl (by kernel_rfl)
      rw [e0] at t0
      rw [e1] at t1
      rw [e2] at t2
      rw [e3] at t3
      obtain ⟨z0, rfl, _⟩ := trod_int64 Try.underlying3 t0
      obtain ⟨z1, rfl, _⟩ := trod_int64 Try.underlying3 t1
      obtain ⟨s2, hs2, rfl, _⟩ := DataW.trod_string Try.underlying9 t2
      obtain ⟨s3, hs3, rfl, _⟩ := DataW.trod_string Try.underlying9 t3
      have q2 := w2 s2.data.toList.length (by simp [DataW.weights])
      have q3 := w3 s3.data.toList.length (by simp [DataW.weights])
      rw [Array.length_toList] at q2 q3
      obtain rfl : u2 = .string s2 := by simpa using hs2
      obtain rfl : u3 = .string s3 := by simpa using hs3
      refine ⟨⟨z0, z1, s2, s3⟩, fun j u hu => ?_, q2, q3⟩
      match j, hu with
      | 0, hu => simp [txC] at hu; subst hu; exact (hcell 0 (by omega)).trans hu0
      | 1, hu => simp [txC] at hu; subst hu; exact (hcell 1 (by omega)).trans hu1
      | 2, hu => simp [txC] at hu; subst hu; exact (hcell 2 (by omega)).trans hu2
      | 3, hu => simp [txC] at hu; subst hu; exact (hcell 3 (by omega)).trans hu3
      | j + 4, hu => simp [txC] at hu
    let g : Fin n → TxD := fun k => (hall k).choose
    have hg : ∀ k, (∀ j u, (txC (g k))[j]? = some u → w.cell? ⟨b, off + k.val * 4 + j, none⟩ = some u) ∧ (g k).k.size ≤ R ∧ (g k).v.size ≤ R := fun k => (hall k).choose_spec
    refine ⟨_, n, c, List.ofFn g, rfl, ⟨by rw [txsC_len, List.length_ofFn], fun _ => ⟨b, off, rfl, hb, fun j u hu => ?_⟩⟩, h1, h2, h3, fun a ha => ?_⟩
    · obtain ⟨t, ht, hu⟩ := txsC_get _ j u hu
      rw [List.getElem?_ofFn] at ht
      split at ht
      · rename_i hj
        simp only [Option.some.injEq] at ht
        subst ht
        have := (hg ⟨j / 4, hj⟩).1 (j % 4) u hu
        rw [show off + (j / 4) * 4 + j % 4 = off + j by omega] at this
        exact this
      · simp at ht
    · obtain ⟨k, rfl⟩ := List.mem_ofFn.mp ha
      exact (hg k).2
end
end Go.Proofs.Ytihpmaifcebpiaa
