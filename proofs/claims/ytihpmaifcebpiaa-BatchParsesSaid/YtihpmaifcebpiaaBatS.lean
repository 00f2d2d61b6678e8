/-
  Plain facts on reading a batch out of texts, as the reference reads it.
-/
import Derived.Test.YtihpmaifcebpiaaBatR
namespace Go.Proofs.Ytihpmaifcebpiaa
open Go.RowKit

theorem rdB_need {ls : List ByteArray} {a n : Int} {l : List TxD} (h : rdB ls = some (a, n, l)) : 7 ≤ ls.length ∧ ls.length % 4 = 3 ∧ ls[0]? = some batchW := by
  obtain ⟨h1, h2⟩ := rdB_back h
  obtain ⟨_, _, h3, _⟩ := mayB_iff.1 h2
  subst h1
  rw [batchT_len]
  exact ⟨by omega, by omega, rfl⟩
theorem rdB_short {ls : List ByteArray} (h : ls.length < 7 ∨ ls.length % 4 ≠ 3 ∨ ls[0]? ≠ some batchW) : rdB ls = none := by
  cases hr : rdB ls with
  | none => rfl
  | some p =>
    obtain ⟨a, n, l⟩ := p
    obtain ⟨h1, h2, h3⟩ := rdB_need hr
    rcases h with h | h | h
    · omega
    · exact absurd h2 h
    · exact absurd h3 h
theorem rdTxs_num : ∀ (r : List ByteArray) (l : List TxD), rdTxs r = some l → ∀ k s, (r[4 * k]? = some s ∨ r[4 * k + 1]? = some s) → wholeN s ≠ none
  | [], _, _, k, s, hs => by simp at hs
  | [_], _, h, _, _, _ => by simp [rdTxs] at h
  | [_, _], _, h, _, _, _ => by simp [rdTxs] at h
  | [_, _, _], _, h, _, _, _ => by simp [rdTxs] at h
  | a :: b :: c :: d :: r, l, h, k, s, hs => by
    rw [rdTxs] at h
    cases ha : wholeN a with
    | none => rw [ha] at h; simp at h
    | some x =>
      cases hb : wholeN b with
      | none => rw [ha, hb] at h; simp at h
      | some y =>
        cases hr : rdTxs r with
        | none => rw [ha, hb, hr] at h; simp at h
        | some l' =>
          cases k with
          | zero =>
            simp at hs
            rcases hs with rfl | rfl
            · rw [ha]; simp
            · rw [hb]; simp
          | succ k =>
            refine rdTxs_num r l' hr k s ?_
            have e1 : 4 * (k + 1) = 4 * k + 1 + 1 + 1 + 1 := by omega
            have e2 : 4 * (k + 1) + 1 = 4 * k + 1 + 1 + 1 + 1 + 1 := by omega
            rw [e1] at hs
            simpa using hs
theorem rdTxs_snoc : ∀ (p : List ByteArray) (ys : List TxD) (a b c d : ByteArray) (x y : Int), rdTxs p = some ys → wholeN a = some x → wholeN b = some y → rdTxs (p ++ [a, b, c, d]) = some (ys ++ [⟨x, y, c, d⟩])
  | [], ys, a, b, c, d, x, y, h, ha, hb => by
    rw [rdTxs] at h; injection h with h; subst h
    rw [List.nil_append, rdTxs, ha, hb, rdTxs]; rfl
  | [_], _, _, _, _, _, _, _, h, _, _ => by simp [rdTxs] at h
  | [_, _], _, _, _, _, _, _, _, h, _, _ => by simp [rdTxs] at h
  | [_, _, _], _, _, _, _, _, _, _, h, _, _ => by simp [rdTxs] at h
  | a' :: b' :: c' :: d' :: r, ys, a, b, c, d, x, y, h, ha, hb => by
    rw [rdTxs] at h
    cases ha' : wholeN a' with
    | none => rw [ha'] at h; simp at h
    | some x' =>
      cases hb' : wholeN b' with
      | none => rw [ha', hb'] at h; simp at h
      | some y' =>
        cases hr : rdTxs r with
        | none => rw [ha', hb', hr] at h; simp at h
        | some l' =>
          rw [ha', hb', hr] at h
          simp only [Option.some.injEq] at h
          subst h
          have ih := rdTxs_snoc r l' a b c d x y hr ha hb
          show rdTxs (a' :: b' :: c' :: d' :: (r ++ [a, b, c, d])) = _
          rw [rdTxs, ha', hb', ih]; rfl
theorem rdB_bad1 {w a n : ByteArray} {r : List ByteArray} (h : wholeN a = none ∨ wholeN n = none ∨ rdTxs r = none) : rdB (w :: a :: n :: r) = none := by
  unfold rdB
  dsimp only
  by_cases hw : w = batchW
  · rw [if_pos hw]
    rcases h with h | h | h
    · rw [h]
    · rw [h]; cases wholeN a <;> rfl
    · rw [h]; cases wholeN a <;> cases wholeN n <;> rfl
  · rw [if_neg hw]
theorem rdB_good {a n : ByteArray} {r : List ByteArray} {x y : Int} {l : List TxD} (h1 : wholeN a = some x) (h2 : wholeN n = some y) (h3 : rdTxs r = some l) : rdB (batchW :: a :: n :: r) = if mayB x y l = true then some (x, y, l) else none := by
  unfold rdB
  simp only [if_true]
  rw [h1, h2, h3]
/-- What a reader of batches answers, told by what the bytes are. -/
def EndB (t : TypeId) (r : Option (Int × Int × List TxD)) (w : World) (e : Ending) (w' : World) : Prop :=
  match r with
  | some p => ∃ v, e = .returned (.tuple #[.agg #[.int .i64 p.1, .int .i64 p.2.1, v], .bool true]) ∧ w'.ownsRow w.heap.size t 4 v p.2.2.length (txsC p.2.2) ∧ Below w.heap.size w w'
  | none => e = .returned (.tuple #[.agg #[.int .i64 0, .int .i64 0, .slice none 0 0], .bool false]) ∧ Below w.heap.size w w'
theorem EndB.no {t : TypeId} {r : Option (Int × Int × List TxD)} {w w' : World} (ho : r = none) (hb : Below w.heap.size w w') : EndB t r w (.returned (.tuple #[.agg #[.int .i64 0, .int .i64 0, .slice none 0 0], .bool false])) w' := by
  subst ho; exact ⟨rfl, hb⟩
theorem EndB.yes {t : TypeId} {r : Option (Int × Int × List TxD)} {a b : Int} {l : List TxD} {n : Nat} {w w' : World} {v : Value} (ho : r = some (a, b, l)) (hn : l.length = n) (hw : w'.ownsRow w.heap.size t 4 v n (txsC l)) (hb : Below w.heap.size w w') : EndB t r w (.returned (.tuple #[.agg #[.int .i64 a, .int .i64 b, v], .bool true])) w' := by
  subst ho; subst hn; exact ⟨v, rfl, hw, hb⟩
end Go.Proofs.Ytihpmaifcebpiaa
