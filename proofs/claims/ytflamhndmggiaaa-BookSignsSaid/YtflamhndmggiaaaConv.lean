
/-
  Conversions between bytes and texts: at a plain region's list, at a step of a region that draws.
-/
import Derived.Test.YtflamhndmggiaaaGet
import Derived.Test.YtflamhndmggiaaaApp
import Derived.Laws.IdiomStrings
import Derived.Laws.BytesArg
namespace Go.Proofs.Ytflamhndmggiaaa
open Go.RowKit

section
variable {P : Program} (w : World)
theorem run_str_of_bytes (src dst e : TypeId) (hs : P.underlying src = some (.slice e)) (he : P.underlying e = some (.int .u8)) (hd : P.underlying dst = some .string) {A : Option Addr} {n c : Nat} {bs : List UInt8}
    (hsl : Sl w 1 A n (bytes8 bs)) : (convert src dst (.slice A n c)).run P w = .ok (.string (tx bs)) w := by
  have hl := hsl.blen
  cases A with
  | none =>
    have h0 : n = 0 := by
      rcases Nat.eq_zero_or_pos n with h | h
      · exact h
      · obtain ⟨b, off, e, _⟩ := hsl.2 h
        cases e
    subst h0
    have hb : bs = [] := List.eq_nil_of_length_eq_zero hl
    subst hb
    exact run_convert_bytes_nil w src e hs he 0 c dst hd
  | some a =>
    subst hl
    refine run_convert_bytes_back w src dst e a c bs hs he hd ?_
    intro j hj
    obtain ⟨b, off, e, _, hc⟩ := hsl.2 (by omega)
    injection e with e
    subst e
    rw [add_lit]
    exact hc j _ (by simp [bytes8, List.getElem?_eq_getElem hj])
theorem wp_conv_str {o : Oper} {a : Act} {K : Act → World → Prop} {Q : Exit → Act → World → Prop} (x : Operand) (src dst e : TypeId) (ho : o.op = .convert src dst x)
    (hs : P.underlying src = some (.slice e)) (he : P.underlying e = some (.int .u8)) (hd : P.underlying dst = some .string) (A : Option Addr) (n c : Nat) (bs : List UInt8) (hx : a.eval x = .slice A n c)
    (hsl : Sl w 1 A n (bytes8 bs)) (h : K (a.put o.dst (.string (tx bs))) w) : o.wp P a w K Q := by
  unfold Oper.wp execOp
  simp only [ho, hx, Sem.run_bind, Sem.run_pure, Result.andThen_ok, run_str_of_bytes w src dst e hs he hd hsl]
  exact h
theorem wpList_conv_str {ops : Array Oper} {rest : List Oper} {o : Oper} {a : Act} {Q : Exit → Act → World → Prop} (hgd : o.guard = none) (x : Operand) (src dst e : TypeId) (ho : o.op = .convert src dst x)
    (hs : P.underlying src = some (.slice e)) (he : P.underlying e = some (.int .u8)) (hd : P.underlying dst = some .string) (A : Option Addr) (n c : Nat) (bs : List UInt8) (hx : a.eval x = .slice A n c)
    (hsl : Sl w 1 A n (bytes8 bs)) (h : wpList P ops Q rest (a.put o.dst (.string (tx bs))) w) : wpList P ops Q (o :: rest) a w :=
  wpList_plain hgd fun _ hK => wp_conv_str w x src dst e ho hs he hd A n c bs hx hsl (hK _ _ h)
theorem step_conv_str {ops : Array Oper} {o : Oper} {a : Act} {K : Act → World → Prop} {Q : Exit → Act → World → Prop} {E : Prop} (hgd : o.guard = none) (x : Operand) (src dst e : TypeId) (ho : o.op = .convert src dst x)
    (hs : P.underlying src = some (.slice e)) (he : P.underlying e = some (.int .u8)) (hd : P.underlying dst = some .string) (A : Option Addr) (n c : Nat) (bs : List UInt8) (hx : a.eval x = .slice A n c)
    (hsl : Sl w 1 A n (bytes8 bs)) (h : K (a.put o.dst (.string (tx bs))) w) : if Region.wanted o (yielded ops a.tmps) = true then Oper.wp P o a w K Q else E := by
  have hw : Region.wanted o (yielded ops a.tmps) = true := by simp [Region.wanted, hgd]
  rw [if_pos hw]
  exact wp_conv_str w x src dst e ho hs he hd A n c bs hx hsl h
/-- A text as new bytes. -/
theorem conv_bytes (src dst e : TypeId) (s : ByteArray) (hs : P.underlying src = some .string) (hd : P.underlying dst = some (.slice e)) (he : P.underlying e = some (.int .u8)) :
    ∃ (cap : Nat) (w4 : World), (convert src dst (.string s)).run P w = .ok (.slice (some ⟨w.heap.size, 0, none⟩) s.size cap) w4 ∧ Sl w4 1 (some ⟨w.heap.size, 0, none⟩) s.size (bytes8 s.data.toList) ∧ Below w.heap.size w w4 := by
  refine ⟨_, _, run_bytes_of_string w src dst e s hs hd he, ⟨by rw [bytes8_len, bytes_len]; omega, fun h => ⟨_, _, rfl, by simp, fun j u hu => ?_⟩⟩, ((Below.refl _ _).drew).alloc (Nat.le_refl _) _⟩
  have hh := heap_alloc_new w.drew (.cells (bytesRow s (grownCap w s.size 0 e)) e ((bytesRow s (grownCap w s.size 0 e)).size, (bytesRow s (grownCap w s.size 0 e)).size + 1))
  rw [Nat.zero_add]
  refine (cell_of_row _ w.heap.size j _ _ _ hh).trans ?_
  have hj : j < s.data.size := by
    have := lt_of_at hu
    rw [bytes8_len, Array.length_toList] at this
    exact this
  unfold bytesRow
  rw [Array.getElem?_append_left (by simpa using hj)]
  simp only [bytes8, List.getElem?_map, Array.getElem?_toList] at hu
  rw [Array.getElem?_map]
  exact hu
theorem wp_conv_bytes {o : Oper} {a : Act} {K : Act → World → Prop} {Q : Exit → Act → World → Prop} (x : Operand) (src dst e : TypeId) (ho : o.op = .convert src dst x)
    (hs : P.underlying src = some .string) (hd : P.underlying dst = some (.slice e)) (he : P.underlying e = some (.int .u8)) (s : ByteArray) (hx : a.eval x = .string s)
    (h : ∀ A cap w', Sl w' 1 A s.size (bytes8 s.data.toList) → Below w.heap.size w w' → K (a.put o.dst (.slice A s.size cap)) w') : o.wp P a w K Q := by
  obtain ⟨cap, w4, hr, h1, h2⟩ := conv_bytes (P := P) w src dst e s hs hd he
  unfold Oper.wp execOp
  simp only [ho, hx, Sem.run_bind, Sem.run_pure, Result.andThen_ok, hr]
  exact h _ _ _ h1 h2
theorem wpList_conv_bytes {ops : Array Oper} {rest : List Oper} {o : Oper} {a : Act} {Q : Exit → Act → World → Prop} (hgd : o.guard = none) (x : Operand) (src dst e : TypeId) (ho : o.op = .convert src dst x)
    (hs : P.underlying src = some .string) (hd : P.underlying dst = some (.slice e)) (he : P.underlying e = some (.int .u8)) (s : ByteArray) (hx : a.eval x = .string s)
    (h : ∀ A cap w', Sl w' 1 A s.size (bytes8 s.data.toList) → Below w.heap.size w w' → wpList P ops Q rest (a.put o.dst (.slice A s.size cap)) w') : wpList P ops Q (o :: rest) a w :=
  wpList_plain hgd fun _ hK => wp_conv_bytes w x src dst e ho hs hd he s hx fun A cap w' h1 h2 => hK _ _ (h A cap w' h1 h2)
theorem step_conv_bytes {ops : Array Oper} {o : Oper} {a : Act} {K : Act → World → Prop} {Q : Exit → Act → World → Prop} {E : Prop} (hgd : o.guard = none) (x : Operand) (src dst e : TypeId) (ho : o.op = .convert src dst x)
    (hs : P.underlying src = some .string) (hd : P.underlying dst = some (.slice e)) (he : P.underlying e = some (.int .u8)) (s : ByteArray) (hx : a.eval x = .string s)
    (h : ∀ A cap w', Sl w' 1 A s.size (bytes8 s.data.toList) → Below w.heap.size w w' → K (a.put o.dst (.slice A s.size cap)) w') : if Region.wanted o (yielded ops a.tmps) = true then Oper.wp P o a w K Q else E := by
  have hw : Region.wanted o (yielded ops a.tmps) = true := by simp [Region.wanted, hgd]
  rw [if_pos hw]
  exact wp_conv_bytes w x src dst e ho hs hd he s hx h
end
/-- What a call owns stays its own where only what is new changes. -/
theorem own_later {w w' : World} {base size n : Nat} {e : TypeId} {v : Value} {xs : List Value} (h : w.ownsRow base e size v n xs) (hb : Below w.heap.size w w') : w'.ownsRow base e size v n xs := by
  refine ⟨h.1, ?_⟩
  rcases h.2 with h0 | ⟨g, cap, cur, hv, hbg, hg, hr⟩
  · exact .inl h0
  · refine .inr ⟨g, cap, cur, hv, hbg, ?_, hr⟩
    have hlt : g < w.heap.size := by
      rcases Nat.lt_or_ge g w.heap.size with h | h
      · exact h
      · rw [Array.getElem?_eq_none h] at hg; cases hg
    rw [hb.block g hlt]
    exact hg
end Go.Proofs.Ytflamhndmggiaaa
