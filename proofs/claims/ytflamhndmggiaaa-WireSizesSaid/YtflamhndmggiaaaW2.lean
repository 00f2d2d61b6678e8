/-
  Small words for the walks of the laws of layer 2.
-/
import Derived.Test.YtflamhndmggiaaaWirNums
import Derived.Test.YtflamhndmggiaaaRefN
import Derived.Test.YtflamhndmggiaaaRefG
import Derived.Test.YtflamhndmggiaaaNum
import Derived.Test.YtflamhndmggiaaaSpo
namespace Go.Proofs.Ytflamhndmggiaaa
open Go.RowKit

theorem below_then {w w1 w2 : World} (h : Below w.heap.size w w1) (h' : Below w1.heap.size w1 w2) : Below w.heap.size w w2 := h.trans (h'.mono h.size)
theorem own_drewN {w : World} {base size n : Nat} {e : TypeId} {v : Value} {xs : List Value} (h : w.ownsRow base e size v n xs) (q : Nat) : (w.drewN q).ownsRow base e size v n xs := h
theorem quiet_below {P : Program} {f : FuncId} {args : Array Value} {w : World} {v : Value} (h : Calls P f args w fun e w' => e = .returned v ∧ ∃ q, w' = w.drewN q) :
    Calls P f args w fun e w' => e = .returned v ∧ Below w.heap.size w w' := by
  refine h.mono ?_
  rintro e w' ⟨he, q, rfl⟩
  exact ⟨he, below_drewN (Below.refl _ _) q⟩
theorem same_below {P : Program} {f : FuncId} {args : Array Value} {w : World} {v : Value} (h : Calls P f args w fun e w' => e = .returned v ∧ w = w') :
    Calls P f args w fun e w' => e = .returned v ∧ Below w.heap.size w w' := by
  refine h.mono ?_
  rintro e w' ⟨he, rfl⟩
  exact ⟨he, Below.refl _ _⟩
theorem eqBytes_b {A B : Option Addr} {n c m d : Nat} {xs ys : List UInt8} (w : World) (hs : Sl w 1 A n (bytes8 xs)) (hn : n ≤ 9223372036854775807) (ht : Sl w 1 B m (bytes8 ys)) (hm : m ≤ 9223372036854775807) {r : Bool} (hr : Hid ((xs == ys) = r)) :
    Calls Try.prog 26 #[.slice A n c, .slice B m d] w fun e w' => e = .returned (.bool r) ∧ Below w.heap.size w w' := by
  rw [← hr.out]; exact quiet_below (ref0_EqBytes A B n c m d xs ys w hs hn ht hm)
theorem eqStrings_b {A B : Option Addr} {n c m d : Nat} {xs ys : List ByteArray} (w : World) (hs : Sl w 1 A n (strs xs)) (hn : n ≤ 9223372036854775807) (ht : Sl w 1 B m (strs ys)) (hm : m ≤ 9223372036854775807) {r : Bool} (hr : Hid (decide (xs = ys) = r)) :
    Calls Try.prog 59 #[.slice A n c, .slice B m d] w fun e w' => e = .returned (.bool r) ∧ Below w.heap.size w w' := by
  rw [← hr.out]; exact quiet_below (ref0_EqStrings A B n c m d xs ys w hs hn ht hm)
theorem eqNumbers_b {A B : Option Addr} {n c m d : Nat} {xs ys : List Int} (w : World) (hs : Sl w 1 A n (ints xs)) (hn : n ≤ 9223372036854775807) (ht : Sl w 1 B m (ints ys)) (hm : m ≤ 9223372036854775807) {r : Bool} (hr : Hid (decide (xs = ys) = r)) :
    Calls Try.prog 65 #[.slice A n c, .slice B m d] w fun e w' => e = .returned (.bool r) ∧ Below w.heap.size w w' := by
  rw [← hr.out]; exact quiet_below (ref0_EqNumbers A B n c m d xs ys w hs hn ht hm)
theorem eq_self {α : Type} [DecidableEq α] (a : α) : Hid (decide (a = a) = true) := by simp [Hid]
theorem beq_self (a : List UInt8) : Hid ((a == a) = true) := by simp [Hid]
theorem txt_len : ∀ ls : List ByteArray, (∀ s ∈ ls, s.size ≤ 8000) → (txt ls).length ≤ 9 * ls.length + szs ls
  | [], _ => by simp [txt, szs]
  | s :: r, h => by
    have h1 := txt_len r (fun x hx => h x (by simp [hx]))
    have h2 := enc_len_63 (n := s.size) (by have := h s (by simp); omega)
    have h3 : txt (s :: r) = enc s.size ++ s.data.toList ++ txt r := by simp [txt]
    rw [h3, List.length_append, List.length_append, bytes_len, szs, List.length_cons]
    omega
theorem szs_mem : ∀ (ls : List ByteArray) (s : ByteArray), s ∈ ls → s.size ≤ szs ls
  | a :: r, s, h => by
    rw [szs]
    rcases List.mem_cons.1 h with rfl | h
    · omega
    · have := szs_mem r s h; omega
theorem putB_small {ls : List ByteArray} (h : ls.length + szs ls ≤ 8000) : (putB ls).length ≤ 80009 := by
  have h1 := txt_len ls (fun s hs => by have := szs_mem ls s hs; omega)
  have h2 := enc_len_63 (n := ls.length) (by omega)
  rw [putB, List.length_append]
  omega
theorem nums_small : ∀ xs : List Int, (∀ x ∈ xs, x ≤ 9223372036854775807) → (nums xs).length ≤ 9 * xs.length
  | [], _ => by simp [nums]
  | x :: r, h => by
    have h1 := nums_small r (fun y hy => h y (by simp [hy]))
    have h2 := enc_len_63 (n := x.toNat) (by have := h x (by simp); omega)
    have h3 : nums (x :: r) = enc x.toNat ++ nums r := by simp [nums]
    rw [h3, List.length_append, List.length_cons]
    omega
theorem numsB_small {xs : List Int} (hl : xs.length ≤ 500) (h : ∀ x ∈ xs, x ≤ 9223372036854775807) : (numsB xs).length ≤ 4509 := by
  have h1 := nums_small xs h
  have h2 := enc_len_63 (n := xs.length) (by omega)
  rw [numsB, List.length_append]
  omega
theorem EndL.none_ {α : Type} {t : TypeId} {f : α → Value} {w w' : World} {e : Ending} (h : EndL (α := α) t f none w e w') : ∃ v, e = .returned (.tuple #[v, .bool false]) ∧ Below w.heap.size w w' := h
theorem EndL.some_ {α : Type} {t : TypeId} {f : α → Value} {l : List α} {w w' : World} {e : Ending} (h : EndL t f (some l) w e w') : ∃ v, e = .returned (.tuple #[v, .bool true]) ∧ w'.ownsRow w.heap.size t 1 v l.length (l.map f) ∧ Below w.heap.size w w' := h
end Go.Proofs.Ytflamhndmggiaaa
