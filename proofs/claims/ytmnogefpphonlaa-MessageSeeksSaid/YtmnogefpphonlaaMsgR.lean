/-
  Contracts: bytes.Equal, what parsing tells of a batch, a header, numbers (or nothing), as message.Decode takes it.
-/
import Derived.Test.YtmnogefpphonlaaGr12
import Derived.Test.YtmnogefpphonlaaBatP
import Derived.Test.YtmnogefpphonlaaBatQ
import Derived.Test.YtmnogefpphonlaaHdrP
import Derived.Test.YtmnogefpphonlaaGr05
set_option linter.unusedVariables false
set_option linter.unusedSimpArgs false
namespace Go.Proofs.Ytmnogefpphonlaa
open Go.RowKit

theorem tx_toList (a b : List UInt8) : ((tx a).toList == (tx b).toList) = (a == b) := by
  rw [ByteArray.toList_eq, ByteArray.toList_eq, tx_data, tx_data]
set_option maxHeartbeats 400000 in
theorem bytes_Equal {A B : Option Addr} {n c m d : Nat} {xs ys : List UInt8} (w : World) (hs : Sl w 1 A n (bytes8 xs)) (ht : Sl w 1 B m (bytes8 ys)) {r : Bool} (hr : Hid ((xs == ys) = r)) :
    Calls Try.prog 33 #[.slice A n c, .slice B m d] w fun e w' => e = .returned (.bool r) ∧ w = w' := by
  have h1 : (convert 33 9 (.slice A n c)).run Try.prog w = .ok (.string (tx xs)) w := run_str_of_bytes _ _ _ _ Try.underlying33 Try.underlying5 Try.underlying9 hs
  have h2 : (convert 33 9 (.slice B m d)).run Try.prog w = .ok (.string (tx ys)) w := run_str_of_bytes _ _ _ _ Try.underlying33 Try.underlying5 Try.underlying9 ht
  have HE : Hid (((tx xs).toList == (tx ys).toList) = r) := by rw [Hid, tx_toList]; exact hr.out
  clear hs ht hr
  generalize tx xs = s at h1 HE
  generalize tx ys = t at h2 HE
  go_enter Try.func33, Try.ntmps33
  go_wp2_with fail
  go_ret
  exact ⟨ret_bool HE.out, rfl⟩
/-- A slice in new memory. -/
def NewA (B : Nat) (A : Option Addr) (n : Nat) : Prop := 0 < n → ∀ b off, A = some ⟨b, off, none⟩ → B ≤ b
theorem NewA.own {w : World} {B size n m c : Nat} {e : TypeId} {A : Option Addr} {xs : List Value} (h : w.ownsRow B e size (.slice A m c) n xs) : NewA B A m := fun _ b off e => by
  exact (h.lt b (by rw [e]; rfl)).1
theorem NewA.none_ (B : Nat) : NewA B none 0 := fun h => absurd h (by omega)
theorem NewA.ne {B n g : Nat} {A : Option Addr} (h : NewA B A n) (hg : g < B) : 0 < n → ∀ b off, A = some ⟨b, off, none⟩ → ¬ (b = g) := fun hn b off e hb => by
  have := h hn b off e
  omega
theorem Sl.set_ {w : World} {size n : Nat} {A : Option Addr} {cs : List Value} {g i : Nat} (h : Sl w size A n cs) (ha : 0 < n → ∀ b off, A = some ⟨b, off, none⟩ → ¬ (b = g)) (u : Value) : Sl (w.setCell ⟨g, i, none⟩ u) size A n cs := by
  refine ⟨h.1, fun hn => ?_⟩
  obtain ⟨b, off, e, hb, hcell⟩ := h.2 hn
  refine ⟨b, off, e, by simpa [World.setCell] using hb, fun j v hv => ?_⟩
  rw [World.cell?_of_block (a := ⟨b, off + j, none⟩) (Below.heap_setCell w ⟨g, i, none⟩ u b (ha hn b off e))]
  exact hcell j v hv
/-- A batch that was read, or the empty one. -/
def BatOf (x : BtD) (w : World) (e : Ending) (w' : World) : Prop := ∃ A n c er, e = .returned (.tuple #[.agg #[.int .i64 x.a, .int .i64 x.n, .slice A n c], .int .i64 er]) ∧ Hid (Sl w' 4 A n (txsC x.l) ∧ TxZ x.l ∧ n ≤ 9223372036854775807 ∧ NewA w.heap.size A n) ∧ Below w.heap.size w w'
theorem mayB_txz {a n : Int} {l : List TxD} (h : mayB a n l = true) : TxZ l := by
  intro t ht
  obtain ⟨_, _, ⟨_, h1⟩, h2⟩ := mayTx_iff.1 ((mayB_iff.1 h).2.2.2 t ht)
  exact ⟨by omega, by omega⟩
theorem batch_rd {A : Option Addr} {n c : Nat} {s : ByteArray} (w : World) (hs : Sl w 1 A n (bytes8 s.data.toList)) (hnc : n ≤ c) (hc : c ≤ 9223372036854775807) :
    Calls Try.prog 29 #[.slice A n c] w (BatOf (rdBt s) w) := by
  unfold rdBt
  cases h : parseB s.data.toList with
  | none =>
    refine (batch_Parse_no w hs hnc hc h).mono ?_
    rintro e w' ⟨rfl, hb⟩
    exact ⟨none, 0, 0, 1, rfl, ⟨Sl.nil_, (by intro t ht; simp [zB] at ht), by omega, NewA.none_ _⟩, hb⟩
  | some p =>
    obtain ⟨a, b, l⟩ := p
    refine (batch_Parse_yes w hs hnc hc h).mono ?_
    rintro e w' ⟨v, rfl, ho, hb⟩
    obtain ⟨A', c', rfl, h1, h2⟩ := own_slice_cap ho
    unfold maxLen at h2
    exact ⟨A', _, c', 0, rfl, ⟨Sl.of_own ho, mayB_txz (parseB_back h).2, by omega, NewA.own ho⟩, hb⟩
/-- A header that was read, or the empty one. -/
def HdOf (x : HdD) (w : World) (e : Ending) (w' : World) : Prop := ∃ A n c B m d er, e = .returned (.tuple #[.agg #[.int .i64 x.a, .int .i64 x.r, .slice A n c, .slice B m d], .int .i64 er]) ∧ Hid (Sl w' 1 A n (ints x.bs) ∧ Sl w' 1 B m (ints x.ps) ∧ n ≤ 9223372036854775807 ∧ m ≤ 9223372036854775807 ∧ NewA w.heap.size A n ∧ NewA w.heap.size B m) ∧ Below w.heap.size w w'
theorem header_rd {A : Option Addr} {n c : Nat} {s : ByteArray} (w : World) (hs : Sl w 1 A n (bytes8 s.data.toList)) (hnc : n ≤ c) (hc : c ≤ 9223372036854775807) :
    Calls Try.prog 30 #[.slice A n c] w (HdOf (rdHd s) w) := by
  unfold rdHd
  refine (header_Parse w hs hnc hc (r := parseH s.data.toList) rfl).mono ?_
  intro e w' h
  cases hp : parseH s.data.toList with
  | none =>
    rw [hp] at h
    obtain ⟨rfl, hb⟩ := h
    exact ⟨none, 0, 0, none, 0, 0, 1, rfl, ⟨Sl.nil_, Sl.nil_, by omega, by omega, NewA.none_ _, NewA.none_ _⟩, hb⟩
  | some x =>
    rw [hp] at h
    obtain ⟨v1, v2, rfl, h1, h2, _, hb⟩ := h
    obtain ⟨A', c', rfl, q1, q2⟩ := own_slice_cap h1
    obtain ⟨B', d', rfl, q3, q4⟩ := own_slice_cap h2
    unfold maxLen at q2 q4
    exact ⟨A', _, c', B', _, d', 0, rfl, ⟨Sl.of_own h1, Sl.of_own h2, by omega, by omega, NewA.own h1, NewA.own h2⟩, hb⟩
def NsOf (l : List Int) (w : World) (e : Ending) (w' : World) : Prop := ∃ A n c er, e = .returned (.tuple #[.slice A n c, .int .i64 er]) ∧ Hid (Sl w' 1 A n (ints l) ∧ n ≤ 9223372036854775807 ∧ NewA w.heap.size A n) ∧ Below w.heap.size w w'
theorem nums_rd {A : Option Addr} {n c : Nat} {s : ByteArray} (w : World) (hs : Sl w 1 A n (bytes8 s.data.toList)) (hnc : n ≤ c) (hc : c ≤ 9223372036854775807) :
    Calls Try.prog 31 #[.slice A n c] w (NsOf (rdNs s) w) := by
  unfold rdNs
  cases h : getI s.data.toList with
  | none =>
    refine (wire_GetNums_no w hs hnc hc h).mono ?_
    rintro e w' ⟨rfl, hb⟩
    exact ⟨none, 0, 0, 1, rfl, ⟨Sl.nil_, by omega, NewA.none_ _⟩, hb⟩
  | some l =>
    refine (wire_GetNums_yes w hs hnc hc h).mono ?_
    rintro e w' ⟨v, rfl, ho, hb⟩
    obtain ⟨A', c', rfl, q1, q2⟩ := own_slice_cap ho
    unfold maxLen at q2
    exact ⟨A', _, c', 0, rfl, ⟨Sl.of_own ho, by omega, NewA.own ho⟩, hb⟩
/-- A message that was read, or the empty one. -/
def EndM (r : Option MsD) (w : World) (e : Ending) (w' : World) : Prop :=
  ∃ D u, e = .returned (.tuple #[.agg D, .int .i64 (formE r.isSome)]) ∧ Hid (D = msC (r.getD zM) u ∧ MsS w' (r.getD zM) u ∧ MsZ (r.getD zM) u) ∧ Below w.heap.size w w'
theorem rdM_len {ls : List ByteArray} (h : ls.length ≠ 10) : rdM ls = none := by
  unfold rdM
  split
  · exact absurd rfl h
  · rfl
end Go.Proofs.Ytmnogefpphonlaa
