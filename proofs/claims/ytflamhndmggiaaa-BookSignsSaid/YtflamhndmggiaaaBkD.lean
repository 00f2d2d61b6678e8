
/-
  Contracts of package book: Digest, whatever the bytes; small words.
-/
import Derived.Test.YtflamhndmggiaaaBkC
namespace Go.Proofs.Ytflamhndmggiaaa
open Go.RowKit

theorem BkI.next {G : Nat → Prop} {w w' : World} {g : Nat} {L L' : List (List UInt8)} {sg sg' : Int × Int → Bool} (h : BkN G g L' sg' w w') : ∃ G', BkI G' w' g L' sg' ∧ (∀ b, G' b → G b ∨ w.heap.size ≤ b) ∧ Chg G w w' := h
theorem book_Digest {G : Nat → Prop} {g : Nat} {L : List (List UInt8)} {sg : Int × Int → Bool} {A : Option Addr} {n c : Nat} {x : List UInt8} (w : World) (h : BkI G w g L sg) (hs : Sl w 1 A n (bytes8 x)) (hn : Hid (n ≤ 1048576)) (hL : Hid (L.length ≤ 65535)) (hA : Hid (0 < n → ∀ b off, A = some ⟨b, off, none⟩ → ¬ G b))
    {d : Int} (hd : Hid (digN L x = d)) {L' : List (List UInt8)} (hl : Hid (addL L x = L')) :
    Calls Try.prog 16 #[.pointer (some ⟨g, 0, none⟩), .slice A n c] w fun e w' => e = .returned (.tuple #[.int .i64 d, .int .i64 0]) ∧ BkN G g L' sg w w' := by
  obtain rfl := hd.out
  obtain rfl := hl.out
  unfold digN addL
  cases hf : fnd L x with
  | some i =>
    refine (book_Digest_old w h hs (by have := hn.out; omega) hf).mono ?_
    rintro e w' ⟨rfl, q, rfl⟩
    exact ⟨rfl, G, h.drewN q, fun b hb => .inl hb, (Chg.refl G w).drewN q⟩
  | none =>
    refine (book_Digest_new w h hs hn hf hL hA).mono ?_
    rintro e w' ⟨rfl, hb⟩
    exact ⟨rfl, hb⟩
theorem addL_len (L : List (List UInt8)) (x : List UInt8) : (addL L x).length ≤ L.length + 1 := by
  unfold addL
  split <;> simp
theorem fnd_addL (L : List (List UInt8)) (x y : List UInt8) : fnd (addL L x) y = match fnd L y with | some i => some i | none => if y = x then (if (fnd L x).isSome then fnd L x else some L.length) else none := by
  unfold addL
  cases hf : fnd L x with
  | some i =>
    simp only [Option.isSome_some, if_true]
    cases hy : fnd L y with
    | some j => rfl
    | none =>
      by_cases e : y = x
      · subst e; rw [hf] at hy; cases hy
      · simp [e]
  | none =>
    simp only [Option.isSome_none, Bool.false_eq_true, if_false]
    rw [fnd_snoc hf]
    by_cases e : y = x
    · subst e; simp [hf]
    · simp only [e, if_false]
      cases fnd L y <;> rfl
theorem fnd_add_self (L : List (List UInt8)) (x : List UInt8) : fndN (fnd (addL L x) x) = digN L x ∧ (fnd (addL L x) x).isSome = true := by
  rw [fnd_addL]
  unfold digN
  cases hf : fnd L x <;> simp [fndN]
end Go.Proofs.Ytflamhndmggiaaa
