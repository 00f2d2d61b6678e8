
/-
  Contracts of the wire's numbers and of the reference's: which bytes a number has, which number bytes begin with: for every input.
-/
import Derived.Test.YtflamhndmggiaaaProg
import Derived.Test.YtflamhndmggiaaaVar
namespace Go.Proofs.Ytflamhndmggiaaa
open Go.RowKit

theorem Try.infoByte : (Try.prog.info? 5).map (fun i => (i.zero, i.size, i.bytes)) = some (some (.int .u8 0), 1, 1) := by kernel_rfl
theorem byte_cell (c : UInt8) : Value.int .u8 (c.toNat : Int) = Value.int .u8 c.toNat := rfl
theorem bytes8_snoc (xs : List UInt8) (c : UInt8) : bytes8 xs ++ [.int .u8 (c.toNat : Int)] = bytes8 (xs ++ [c]) := by simp [bytes8]
theorem bytes8_append (xs ys : List UInt8) : bytes8 (xs ++ ys) = bytes8 xs ++ bytes8 ys := by simp [bytes8]

theorem or_all : ∀ a : Fin 256, bits BinOp.or IntKind.u8 ((a.val : Nat) : Int) 128 = ((a.val % 128 + 128 : Nat) : Int) := by decide +kernel
/-- The byte that says that more come. -/
theorem high_byte (m : Nat) : ∃ c : UInt8, Hid (UInt8.ofNat (m % 128 + 128) = c) ∧ bits BinOp.or IntKind.u8 ((m : Int) % 256) 128 = (c.toNat : Int) := by
  refine ⟨_, rfl, ?_⟩
  have h := or_all ⟨m % 256, Nat.mod_lt _ (by omega)⟩
  simp only at h
  have e : ((m : Int) % 256) = ((m % 256 : Nat) : Int) := by omega
  rw [e, h, toNat_high]
  omega
theorem high_byte' (m : Nat) : ∃ c : UInt8, Hid (UInt8.ofNat (m % 128 + 128) = c) ∧ bits BinOp.or IntKind.u8 ((m : Int) % 128) 128 = (c.toNat : Int) := by
  refine ⟨_, rfl, ?_⟩
  have h := or_all ⟨m % 128, by omega⟩
  simp only at h
  have e : ((m : Int) % 128) = ((m % 128 : Nat) : Int) := by omega
  rw [e, h, toNat_high]
  omega

set_option maxRecDepth 100000 in
set_option maxHeartbeats 400000 in
theorem wire_num (base : Nat) (v : Value) (m : Nat) (xs : List UInt8) (w : World) (hown : w.ownsRow base 5 1 v xs.length (bytes8 xs)) (hb : base ≤ w.heap.size) (hm : m ≤ 9223372036854775807) (hl : xs.length ≤ 1099511627776) :
    Calls Try.prog 72 #[v, .int .i64 m] w fun e w' => ∃ v', e = .returned v' ∧ w'.ownsRow base 5 1 v' (xs ++ enc m).length (bytes8 (xs ++ enc m)) ∧ Below base w w' := by
  have HX := hide (enc_len_63 (n := m) (by omega))
  obtain ⟨i0, hi, hz0, hz1, hz2⟩ := info_parts Try.infoByte
  go_enter Try.func72, Try.ntmps72
  go_wp2_with fail
  go_loopw [0, 1] (fun b n wr => ∃ (m' : Nat) (ys : List UInt8), n = .int .i64 m' ∧ Hid (xs ++ enc m = ys ++ enc m') ∧ m' ≤ m ∧ wr.ownsRow base 5 1 b ys.length (bytes8 ys) ∧ Below base w wr) (fun _ n _ => (intOf n).toNat)
  case atStart => exact ⟨m, xs, rfl, rfl, Nat.le_refl _, hown, Below.refl _ _⟩
  case round =>
    obtain ⟨m', ys, rfl, HE, hle, hown', hbw⟩ := hrel
    have hsz := hbw.size
    have hyl : ys.length ≤ 1099511627785 := by
      have h1 := congrArg List.length HE.out
      rw [List.length_append, List.length_append] at h1
      have h2 := HX.out
      omega
    by_cases hge : 128 ≤ m'
    · obtain ⟨c, HC, hor⟩ := high_byte m'
      have HQ : Hid (xs ++ enc m = (ys ++ [c]) ++ enc (m' / 128)) := by rw [Hid, HE.out, enc_ge hge, HC.out]; simp
      clear hown
      go_wp2_with (first
        | (at_builtin; refine wpList_append_own _ rfl _ _ 28 rfl base 5 i0 (.int .u8 0) 1 1 Try.underlying28 hi hz0 hz1 hz2 rfl (by decide) _ _ _ rfl (hown'.alloc _) ⟨wr.heap.size, 0, none⟩ 1 1 [.int .u8 (c.toNat : Int)] rfl rfl ?c1 ?c2 ?c3 ?c4 ?c5 ?_))
      case c1 => exact news_one _ _ _
      case c2 => exact one_int _ _
      case c3 => unfold maxLen; omega
      case c4 => omega
      case c5 => simp; omega
      intro v' w1 hown2 hg _
      have hown3 : w1.ownsRow base 5 1 v' (ys ++ [c]).length (bytes8 (ys ++ [c])) := by rw [← bytes8_snoc, List.length_append]; exact hown2
      have hb2 : Below base w w1 := (hbw.alloc (by omega) _).grown hg (by simp; omega) (fun g hg' => (hown'.lt g hg').1)
      clear hown2 hg hown' hbw hor
      go_wp2_with fail
      go_roundw
      case rel => exact ⟨m' / 128, ys ++ [c], by go_num, HQ, by omega, hown3, hb2⟩
      case measure => simp [intOf]; omega
    · have HQ : Hid (xs ++ enc m = ys ++ [UInt8.ofNat m']) := by rw [Hid, HE.out, enc_lt (by omega)]
      have hm' : m' < 128 := by omega
      clear hown
      go_wp2_with (first
        | (at_builtin; refine wpList_append_own _ rfl _ _ 28 rfl base 5 i0 (.int .u8 0) 1 1 Try.underlying28 hi hz0 hz1 hz2 rfl (by decide) _ _ _ rfl (hown'.alloc _) ⟨wr.heap.size, 0, none⟩ 1 1 [.int .u8 (m' : Int)] rfl rfl ?d1 ?d2 ?d3 ?d4 ?d5 ?_))
      case d1 => exact news_one _ _ _
      case d2 => exact one_int _ _
      case d3 => unfold maxLen; omega
      case d4 => omega
      case d5 => simp; omega
      intro v' w1 hown2 hg _
      have hown3 : w1.ownsRow base 5 1 v' (xs ++ enc m).length (bytes8 (xs ++ enc m)) := by
        rw [HQ.out, ← bytes8_snoc, List.length_append, toNat_low hm']; exact hown2
      have hb2 : Below base w w1 := (hbw.alloc (by omega) _).grown hg (by simp; omega) (fun g hg' => (hown'.lt g hg').1)
      clear hown2 hg hown' hbw
      go_wp2_with fail
      go_ret
      exact ⟨_, rfl, hown3, hb2⟩

set_option maxHeartbeats 400000 in
theorem wire_Num_yes (m : Nat) (w : World) (hm : m ≤ 9223372036854775807) :
    Calls Try.prog 28 #[.int .i64 m] w fun e w' => ∃ v', e = .returned (.tuple #[v', .int .i64 0]) ∧ w'.ownsRow w.heap.size 5 1 v' (enc m).length (bytes8 (enc m)) ∧ Below w.heap.size w w' := by
  go_enter Try.func28, Try.ntmps28
  go_wp2_with (go_at_call 72; refine (wire_num w.heap.size _ m [] _ (World.ownsRow_nil _ _ _ _) (Nat.le_refl _) hm (by simp)).mono ?_; rintro e w' ⟨v', rfl, hown, hb⟩)
  go_ret2
  exact ⟨v', rfl, hown, hb⟩

set_option maxHeartbeats 400000 in
theorem wire_Num_no (m : Int) (w : World) (hm : m < 0) :
    Calls Try.prog 28 #[.int .i64 m] w fun e w' => e = .returned (.tuple #[.slice none 0 0, .int .i64 1]) ∧ w = w' := by
  go_enter Try.func28, Try.ntmps28
  go_wp2_with fail
  go_ret2
  exact ⟨rfl, rfl⟩

set_option maxRecDepth 100000 in
set_option maxHeartbeats 400000 in
theorem ref2_Num (m : Nat) (w : World) (hm : m ≤ 9223372036854775807) :
    Calls Try.prog 32 #[.int .i64 m] w fun e w' => ∃ v', e = .returned v' ∧ w'.ownsRow w.heap.size 5 1 v' (enc m).length (bytes8 (enc m)) ∧ Below w.heap.size w w' := by
  have HX := hide (enc_len_63 (n := m) (by omega))
  obtain ⟨i0, hi, hz0, hz1, hz2⟩ := info_parts Try.infoByte
  go_enter Try.func32, Try.ntmps32
  go_wp2_with fail
  go_loopw [0, 3] (fun n b wr => ∃ (m' : Nat) (ys : List UInt8), n = .int .i64 m' ∧ Hid (enc m = ys ++ enc m') ∧ m' ≤ m ∧ wr.ownsRow w.heap.size 5 1 b ys.length (bytes8 ys) ∧ Below w.heap.size w wr) (fun n _ _ => (intOf n).toNat)
  case atStart => exact ⟨m, [], rfl, rfl, Nat.le_refl _, World.ownsRow_nil _ _ _ _, Below.refl _ _⟩
  case round =>
    obtain ⟨m', ys, rfl, HE, hle, hown', hbw⟩ := hrel
    have hsz := hbw.size
    have hyl : ys.length ≤ 9 := by
      have h1 := congrArg List.length HE.out
      rw [List.length_append] at h1
      have h2 := HX.out
      omega
    by_cases hge : 128 ≤ m'
    · obtain ⟨c, HC, hor⟩ := high_byte' m'
      have HQ : Hid (enc m = (ys ++ [c]) ++ enc (m' / 128)) := by rw [Hid, HE.out, enc_ge hge, HC.out]; simp
      go_wp2_with (first
        | (at_builtin; refine wpList_append_own _ rfl _ _ 28 rfl w.heap.size 5 i0 (.int .u8 0) 1 1 Try.underlying28 hi hz0 hz1 hz2 rfl (by decide) _ _ _ rfl (hown'.alloc _) ⟨wr.heap.size, 0, none⟩ 1 1 [.int .u8 (c.toNat : Int)] rfl rfl ?c1 ?c2 ?c3 ?c4 ?c5 ?_))
      case c1 => exact news_one _ _ _
      case c2 => exact one_int _ _
      case c3 => unfold maxLen; omega
      case c4 => omega
      case c5 => simp; omega
      intro v' w1 hown2 hg _
      have hown3 : w1.ownsRow w.heap.size 5 1 v' (ys ++ [c]).length (bytes8 (ys ++ [c])) := by rw [← bytes8_snoc, List.length_append]; exact hown2
      have hb2 : Below w.heap.size w w1 := (hbw.alloc (by omega) _).grown hg (by simp; omega) (fun g hg' => (hown'.lt g hg').1)
      clear hown2 hg hown' hbw hor
      go_wp2_with fail
      go_roundw
      case rel => exact ⟨m' / 128, ys ++ [c], by go_num, HQ, by omega, hown3, hb2⟩
      case measure => simp [intOf]; omega
    · have HQ : Hid (enc m = ys ++ [UInt8.ofNat m']) := by rw [Hid, HE.out, enc_lt (by omega)]
      have hm' : m' < 128 := by omega
      go_wp2_with (first
        | (at_builtin; refine wpList_append_own _ rfl _ _ 28 rfl w.heap.size 5 i0 (.int .u8 0) 1 1 Try.underlying28 hi hz0 hz1 hz2 rfl (by decide) _ _ _ rfl (hown'.alloc _) ⟨wr.heap.size, 0, none⟩ 1 1 [.int .u8 (m' : Int)] rfl rfl ?d1 ?d2 ?d3 ?d4 ?d5 ?_))
      case d1 => exact news_one _ _ _
      case d2 => exact one_int _ _
      case d3 => unfold maxLen; omega
      case d4 => omega
      case d5 => simp; omega
      intro v' w1 hown2 hg _
      have hown3 : w1.ownsRow w.heap.size 5 1 v' (enc m).length (bytes8 (enc m)) := by
        rw [HQ.out, ← bytes8_snoc, List.length_append, toNat_low hm']; exact hown2
      have hb2 : Below w.heap.size w w1 := (hbw.alloc (by omega) _).grown hg (by simp; omega) (fun g hg' => (hown'.lt g hg').1)
      clear hown2 hg hown' hbw
      go_wp2_with fail
      go_ret
      exact ⟨_, rfl, hown3, hb2⟩
end Go.Proofs.Ytflamhndmggiaaa
