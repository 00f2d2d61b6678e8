
/-
  Contracts of laying texts as bytes: wire's own.
-/
import Derived.Test.YtflamhndmggiaaaWirC
import Derived.Lib.AppendStr
namespace Go.Proofs.Ytflamhndmggiaaa
open Go.RowKit

/-- Texts' bytes, behind the count. -/
def txt (ls : List ByteArray) : List UInt8 := ls.flatMap fun s => enc s.size ++ s.data.toList
/-- Texts' bytes. -/
def putB (ls : List ByteArray) : List UInt8 := enc ls.length ++ txt ls
theorem txt_nil : txt [] = [] := rfl
theorem txt_append (a b : List ByteArray) : txt (a ++ b) = txt a ++ txt b := by simp [txt]
theorem txt_snoc (a : List ByteArray) (s : ByteArray) : txt (a ++ [s]) = txt a ++ enc s.size ++ s.data.toList := by simp [txt]
theorem txt_take {ls : List ByteArray} {k : Nat} {u : ByteArray} (h : ls[k]? = some u) : txt (ls.take (k + 1)) = txt (ls.take k) ++ enc u.size ++ u.data.toList := by
  rw [take_at h, txt_snoc]
theorem bytes_len (s : ByteArray) : s.data.toList.length = s.size := by rw [Array.length_toList]; rfl
theorem txt_take_le (ls : List ByteArray) (k : Nat) : (txt (ls.take k)).length ≤ (txt ls).length := by
  have h : txt ls = txt (ls.take k) ++ txt (ls.drop k) := by rw [← txt_append, List.take_append_drop]
  rw [h, List.length_append]; omega
theorem strCells_bytes8 (s : ByteArray) : Go.Lib.strCells s = bytes8 s.data.toList := rfl

set_option maxRecDepth 100000 in
set_option maxHeartbeats 1000000 in
theorem wire_Put {A : Option Addr} {n c : Nat} {ls : List ByteArray} (w : World) (hs : Sl w 1 A n (strs ls)) (hn : n ≤ 1099511627776) (hb : (putB ls).length ≤ 1048576) :
    Calls Try.prog 48 #[.slice A n c] w fun e w' => ∃ v', e = .returned (.tuple #[v', .int .i64 0]) ∧ w'.ownsRow w.heap.size 5 1 v' (putB ls).length (bytes8 (putB ls)) ∧ Below w.heap.size w w' := by
  have HL := hide hs.slen
  have HB := hide hb
  clear hb
  obtain ⟨i0, hi, hz0, hz1, hz2⟩ := info_parts Try.infoByte
  go_enter Try.func48, Try.ntmps48
  go_wp2_with fail
  go_step3
  go_wp2_with (go_at_call 72; refine (wire_num w.heap.size _ n [] _ (World.ownsRow_nil _ _ _ _) (Nat.le_refl _) (by omega) (by simp)).mono ?_; rintro e w1 ⟨v1, rfl, hown1, hb1⟩)
  have hz1' := hb1.size
  go_loopw [4, 12] (fun b i wr => ∃ (k : Nat) (ys : List UInt8), k ≤ n ∧ i = .int .i64 k ∧ Hid (enc n ++ txt (ls.take k) = ys) ∧ ys.length ≤ 1048576 ∧ wr.ownsRow w.heap.size 5 1 b ys.length (bytes8 ys) ∧ Below w.heap.size w wr) (fun _ i _ => n - (intOf i).toNat)
  case atStart => exact ⟨0, enc n, Nat.zero_le _, rfl, by simp [Hid, txt_nil], by have := enc_len_63 (n := n) (by omega); omega, hown1, hb1⟩
  case round =>
    obtain ⟨k, ys, hk, rfl, HY, hyl, hown, hb⟩ := hrel
    have hsz := hb.size
    have hTot : Hid ((enc n ++ txt ls).length ≤ 1048576) := by have := HB.out; rw [putB, HL.out] at this; exact this
    clear hown1 hb1 hz1'
    obtain ⟨wo, rfl⟩ : ∃ wo : World, wo = wr := ⟨_, rfl⟩
    by_cases hlt : k < n
    · obtain ⟨b, off, u, rfl, HU, hc, _⟩ := hs.str hlt
      have hc' := cell_later hb hc
      clear hc hs
      obtain ⟨zs, HZ⟩ : ∃ zs, Hid (ys ++ enc u.size = zs) := ⟨_, rfl⟩
      have HQ : Hid (enc n ++ txt (ls.take (k + 1)) = zs ++ u.data.toList) := by
        rw [Hid, txt_take HU.out, ← HZ.out, ← HY.out]; simp
      have hq : zs.length + u.size ≤ 1048576 := by
        have h1 := HQ.out
        have h2 := congrArg List.length h1
        have h3 := txt_take_le ls (k + 1)
        have h4 := hTot.out
        rw [List.length_append, List.length_append, bytes_len] at h2
        rw [List.length_append] at h4
        omega
      go_wp2_with (first
        | (go_at_call 72; refine (wire_num w.heap.size _ u.size ys _ hown (by omega) (by omega) (by omega)).mono ?_; rintro e w2 ⟨v2, rfl, hown2, hb2⟩; rw [HZ.out] at hown2; have hb3 := hb.trans hb2; have hsz3 := hb3.size; obtain ⟨A2, c2, rfl⟩ := own_slice hown2)
        | (at_builtin; refine Go.Lib.wpList_append_own_string _ rfl _ _ 28 9 rfl w.heap.size 5 i0 Try.underlying28 Try.underlying9 hi hz0 hz1 hz2 _ _ _ rfl hown2 _ rfl ?c1 ?c2 ?c3 ?_))
      case c1 => unfold maxLen; omega
      case c2 => omega
      case c3 => omega
      intro v3 w3 hown3 hg _
      have hb4 : Below w.heap.size w w3 := hb3.grown hg (by omega) (fun g hg' => (hown2.lt g hg').1)
      have hown4 : w3.ownsRow w.heap.size 5 1 v3 (zs ++ u.data.toList).length (bytes8 (zs ++ u.data.toList)) := by rw [bytes8_append, List.length_append, bytes_len]; exact hown3
      have hfl : (zs ++ u.data.toList).length ≤ 1048576 := by rw [List.length_append, bytes_len]; exact hq
      clear hown3 hg hown2 hb3 hown hb hb2
      go_wp2_with fail
      go_roundw
      case rel => exact ⟨k + 1, _, by omega, by go_num, HQ, hfl, hown4, hb4⟩
      case measure => simp [intOf]; omega
    · obtain rfl : k = n := by omega
      have HF : Hid (ys = putB ls) := by
        have h := HY.out
        rw [List.take_of_length_le (by rw [HL.out]; exact Nat.le_refl _)] at h
        rw [Hid, putB, HL.out, h]
      obtain ⟨A2, c2, rfl⟩ := own_slice hown
      go_wp2_with fail
      try rw [Exit.noGoto_ret]
      go_ret2
      refine ⟨_, rfl, ?_, hb⟩
      rw [← HF.out]
      exact hown
end Go.Proofs.Ytflamhndmggiaaa
