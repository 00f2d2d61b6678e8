
/-
  Small words for the walks of the laws.
-/
import Derived.Test.YtflamhndmggiaaaRefN
import Derived.Test.YtflamhndmggiaaaRefG
import Derived.Test.YtflamhndmggiaaaNum
import Derived.Test.YtflamhndmggiaaaByt
import Derived.Test.YtflamhndmggiaaaSpo
import Derived.Test.YtflamhndmggiaaaStr
namespace Go.Proofs.Ytflamhndmggiaaa
open Go.RowKit

theorem below_then {w w1 w2 : World} (h : Below w.heap.size w w1) (h' : Below w1.heap.size w1 w2) : Below w.heap.size w w2 := h.trans (h'.mono h.size)
theorem own_drewN {w : World} {base size n : Nat} {e : TypeId} {v : Value} {xs : List Value} (h : w.ownsRow base e size v n xs) (q : Nat) : (w.drewN q).ownsRow base e size v n xs := h
theorem quiet_below {P : Program} {f : FuncId} {args : Array Value} {w : World} {v : Value} (h : Calls P f args w fun e w' => e = .returned v ∧ ∃ q, w' = w.drewN q) :
    Calls P f args w fun e w' => e = .returned v ∧ Below w.heap.size w w' := by
  refine h.mono ?_
  rintro e w' ⟨he, q, rfl⟩
  exact ⟨he, below_drewN (Below.refl _ _) q⟩
theorem same_below {P : Program} {f : FuncId} {args : Array Value} {w : World} {v : Value} (h : Calls P f args w fun e w' => e = .returned v ∧ w = w') :
    Calls P f args w fun e w' => e = .returned v ∧ Below w.heap.size w w' := by
  refine h.mono ?_
  rintro e w' ⟨he, rfl⟩
  exact ⟨he, Below.refl _ _⟩
theorem eqBytes_b {A B : Option Addr} {n c m d : Nat} {xs ys : List UInt8} (w : World) (hs : Sl w 1 A n (bytes8 xs)) (hn : n ≤ 9223372036854775807) (ht : Sl w 1 B m (bytes8 ys)) (hm : m ≤ 9223372036854775807) {r : Bool} (hr : Hid ((xs == ys) = r)) :
    Calls Try.prog 26 #[.slice A n c, .slice B m d] w fun e w' => e = .returned (.bool r) ∧ Below w.heap.size w w' := by
  rw [← hr.out]; exact quiet_below (ref0_EqBytes A B n c m d xs ys w hs hn ht hm)
theorem eqStrings_b {A B : Option Addr} {n c m d : Nat} {xs ys : List ByteArray} (w : World) (hs : Sl w 1 A n (strs xs)) (hn : n ≤ 9223372036854775807) (ht : Sl w 1 B m (strs ys)) (hm : m ≤ 9223372036854775807) {r : Bool} (hr : Hid (decide (xs = ys) = r)) :
    Calls Try.prog 59 #[.slice A n c, .slice B m d] w fun e w' => e = .returned (.bool r) ∧ Below w.heap.size w w' := by
  rw [← hr.out]; exact quiet_below (ref0_EqStrings A B n c m d xs ys w hs hn ht hm)
theorem eqNumbers_b {A B : Option Addr} {n c m d : Nat} {xs ys : List Int} (w : World) (hs : Sl w 1 A n (ints xs)) (hn : n ≤ 9223372036854775807) (ht : Sl w 1 B m (ints ys)) (hm : m ≤ 9223372036854775807) {r : Bool} (hr : Hid (decide (xs = ys) = r)) :
    Calls Try.prog 65 #[.slice A n c, .slice B m d] w fun e w' => e = .returned (.bool r) ∧ Below w.heap.size w w' := by
  rw [← hr.out]; exact quiet_below (ref0_EqNumbers A B n c m d xs ys w hs hn ht hm)
theorem eq_self {α : Type} [DecidableEq α] (a : α) : Hid (decide (a = a) = true) := by simp [Hid]
theorem beq_self (a : List UInt8) : Hid ((a == a) = true) := by simp [Hid]
theorem Sl.of_blk {w : World} {g size n : Nat} {t : TypeId} {cs : Array Value} (h : Blk w g t cs) (hs : cs.size = n * size) : Sl w size (some ⟨g, 0, none⟩) n cs.toList := by
  refine ⟨by simpa using hs, fun _ => ⟨g, 0, rfl, h.lt, fun j u hu => ?_⟩⟩
  rw [Nat.zero_add, h.cell]
  simpa using hu
theorem own_of_blk {w : World} {base g size n : Nat} {e : TypeId} {cs : Array Value} (h : Blk w g e cs) (hb : base ≤ g) (hs : cs.size = n * size) (hm : n ≤ 9223372036854775807) : w.ownsRow base e size (.slice (some ⟨g, 0, none⟩) n n) n cs.toList :=
  ⟨by simpa using hs, .inr ⟨g, n, cs, rfl, hb, h, Nat.le_refl _, by unfold maxLen; omega, hs, by rw [← hs, ← Array.length_toList, List.take_length]⟩⟩
theorem own_mono {w : World} {base base' size n : Nat} {e : TypeId} {v : Value} {xs : List Value} (h : w.ownsRow base e size v n xs) (hb : base' ≤ base) : w.ownsRow base' e size v n xs := by
  refine ⟨h.1, ?_⟩
  rcases h.2 with h0 | ⟨g, cap, cur, hv, hbg, hg, hr⟩
  · exact .inl h0
  · exact .inr ⟨g, cap, cur, hv, Nat.le_trans hb hbg, hg, hr⟩
theorem Blk.new2 (w : World) (o : Obj) (t : TypeId) (cs : Array Value) : Blk ((w.alloc o).alloc (.cells cs t)) (w.heap.size + 1) t cs := by
  have h := Blk.new (w.alloc o) t cs
  rwa [show (w.alloc o).heap.size = w.heap.size + 1 by simp] at h
theorem Sl.two {w : World} {g : Nat} {x y : Value} (h0 : w.cell? ⟨g, 0, none⟩ = some x) (h1 : w.cell? ⟨g, 1, none⟩ = some y) : Sl w 1 (some ⟨g, 0, none⟩) 2 [x, y] := by
  refine ⟨rfl, fun _ => ⟨g, 0, rfl, lt_of_cell h0, fun j u hu => ?_⟩⟩
  rw [Nat.zero_add]
  match j, hu with
  | 0, hu => simp at hu; subst hu; exact h0
  | 1, hu => simp at hu; subst hu; exact h1
theorem Sl.two_str {w : World} {g : Nat} {x y : ByteArray} (h0 : w.cell? ⟨g, 0, none⟩ = some (.string x)) (h1 : w.cell? ⟨g, 1, none⟩ = some (.string y)) : Sl w 1 (some ⟨g, 0, none⟩) 2 (strs [x, y]) := Sl.two h0 h1
theorem Sl.two_int {w : World} {g : Nat} {x y : Int} (h0 : w.cell? ⟨g, 0, none⟩ = some (.int .i64 x)) (h1 : w.cell? ⟨g, 1, none⟩ = some (.int .i64 y)) : Sl w 1 (some ⟨g, 0, none⟩) 2 (ints [x, y]) := Sl.two h0 h1
theorem Sl.grown_old {w w' : World} {size n B : Nat} {A : Option Addr} {cs : List Value} {row : Option Nat} (h : Sl w size A n cs) (hg : w.grownBy w' row) (hB : ∀ b off, A = some ⟨b, off, none⟩ → B ≤ b) (hr : ∀ g, row = some g → g < B) : Sl w' size A n cs := by
  refine ⟨h.1, fun hn => ?_⟩
  obtain ⟨b, off, e, hb, hc⟩ := h.2 hn
  refine ⟨b, off, e, Nat.lt_of_lt_of_le hb hg.size, fun j u hu => ?_⟩
  have hne : some b ≠ row := by
    intro e2
    have := hr b e2.symm
    have := hB b off e
    omega
  rw [World.cell?_of_block (a := ⟨b, off + j, none⟩) (hg.block b hb hne)]
  exact hc j u hu
theorem EndL.none_ {α : Type} {t : TypeId} {f : α → Value} {w w' : World} {e : Ending} (h : EndL (α := α) t f none w e w') : ∃ v, e = .returned (.tuple #[v, .bool false]) ∧ Below w.heap.size w w' := by
  obtain ⟨v, h1, _, h2⟩ := h
  exact ⟨v, h1, h2⟩
theorem EndL.none2_ {α : Type} {t : TypeId} {f : α → Value} {w w' : World} {e : Ending} (h : EndL (α := α) t f none w e w') : ∃ A n c, e = .returned (.tuple #[.slice A n c, .bool false]) ∧ Below w.heap.size w w' := by
  obtain ⟨v, h1, ⟨A, n, c, rfl⟩, h2⟩ := h
  exact ⟨A, n, c, h1, h2⟩
theorem EndL.some_ {α : Type} {t : TypeId} {f : α → Value} {l : List α} {w w' : World} {e : Ending} (h : EndL t f (some l) w e w') : ∃ v, e = .returned (.tuple #[v, .bool true]) ∧ w'.ownsRow w.heap.size t 1 v l.length (l.map f) ∧ Below w.heap.size w w' := h
end Go.Proofs.Ytflamhndmggiaaa
