
/-
  Conversions between bytes and texts, once more: with their bounds; over any program.
-/
import Derived.Test.YtflamhndmggiaaaConv
namespace Go.Proofs.Ytflamhndmggiaaa
open Go.RowKit

theorem conv_is {P : Program} {w : World} {src dst e : TypeId} (hs : P.underlying src = some (.slice e)) (he : P.underlying e = some (.int .u8)) (hd : P.underlying dst = some .string) {A : Option Addr} {n c : Nat} {bs : List UInt8}
    (hsl : Sl w 1 A n (bytes8 bs)) {s : ByteArray} (h : Hid (tx bs = s)) : (convert src dst (.slice A n c)).run P w = .ok (.string s) w := by
  rw [← h.out]; exact run_str_of_bytes w src dst e hs he hd hsl
/-- A text as new bytes: how much room there is. -/
theorem conv_bytes2 {P : Program} (w : World) (src dst e : TypeId) (s : ByteArray) (hs : P.underlying src = some .string) (hd : P.underlying dst = some (.slice e)) (he : P.underlying e = some (.int .u8)) (hz : s.size ≤ 9223372036854775807) :
    ∃ (cap : Nat) (w4 : World), (convert src dst (.string s)).run P w = .ok (.slice (some ⟨w.heap.size, 0, none⟩) s.size cap) w4 ∧ Sl w4 1 (some ⟨w.heap.size, 0, none⟩) s.size (bytes8 s.data.toList) ∧ Below w.heap.size w w4 ∧ s.size ≤ cap ∧ cap ≤ 9223372036854775807 := by
  obtain ⟨cap, w4, h1, h2, h3⟩ := conv_bytes (P := P) w src dst e s hs hd he
  have h4 := run_bytes_of_string (P := P) w src dst e s hs hd he
  rw [h1] at h4
  injection h4 with h4 h5
  injection h4 with _ _ h6
  have g1 := grownCap_ge w s.size 0 e
  have g2 := grownCap_le_maxLen w s.size 0 e (by unfold maxLen; omega)
  unfold maxLen at g2
  exact ⟨cap, w4, h1, h2, h3, by omega, by omega⟩
theorem cell_grown2 {w w' : World} {p : Addr} {v : Value} {g : Nat} (h : w.grownBy w' (some g)) (c : w.cell? p = some v) (hne : p.block ≠ g) : w'.cell? p = some v := by
  rw [World.cell?_of_block (a := p) (h.block p.block (lt_of_cell c) (by intro e; injection e with e; exact hne e))]
  exact c
end Go.Proofs.Ytflamhndmggiaaa
