
/-
  Contracts of the statements' spoilers (answers are written over), and of the references' lists of numbers.
-/
import Derived.Test.YtflamhndmggiaaaWirI
import Derived.StillTailTactics
namespace Go.Proofs.Ytflamhndmggiaaa
open Go.RowKit

theorem xor_all : ∀ a : Fin 256, bits BinOp.xor IntKind.u8 ((a.val : Nat) : Int) 85 = ((a.val ^^^ 85 : Nat) : Int) := by decide +kernel
theorem xor_u8 (c : UInt8) : bits BinOp.xor IntKind.u8 (c.toNat : Int) 85 = ((c ^^^ 85 : UInt8).toNat : Int) := by
  have h := xor_all ⟨c.toNat, c.toNat_lt⟩
  rw [UInt8.toNat_xor]
  exact h
theorem below_set {B : Nat} {w wr : World} (h : Below B w wr) {g i : Nat} (hg : B ≤ g) (u : Value) : Below B w (wr.setCell ⟨g, i, none⟩ u) := h.setCell hg u

set_option maxRecDepth 100000 in
set_option maxHeartbeats 1000000 in
theorem law0_Strings {v : Value} {n base : Nat} {xs : List ByteArray} (w : World) (h : w.ownsRow base 9 1 v n (strs xs)) (hbase : base ≤ w.heap.size) (hn : n ≤ 1099511627776) :
    Calls Try.prog 62 #[v] w fun e w' => e = .returned (.tuple #[]) ∧ Below base w w' := by
  obtain ⟨i0, hi, hz0, hz1, hz2⟩ := info_parts Try.infoStr
  obtain ⟨A, c, rfl⟩ := own_slice h
  go_enter Try.func62, Try.ntmps62
  go_wp2_with fail
  go_loopw [2] (fun i wr => ∃ (k : Nat) (ys : List ByteArray), k ≤ n ∧ i = .int .i64 k ∧ wr.ownsRow base 9 1 (.slice A n c) n (strs ys) ∧ Below base w wr) (fun i _ => n - (intOf i).toNat)
  case atStart => exact ⟨0, xs, Nat.zero_le _, rfl, h, Below.refl _ _⟩
  case round =>
    obtain ⟨k, ys, hk, rfl, hown, hb⟩ := hrel
    have hsz := hb.size
    by_cases hlt : k < n
    · have hl := hown.1
      rw [strs_len] at hl
      obtain ⟨g, cap, hv, hgb, hgl⟩ := hown.form (by omega)
      injection hv with hA _ hc
      subst hA
      subst hc
      have hc0 : wr.cell? ⟨g, k, none⟩ = some (.string (ys[k]'(by omega))) := by rw [hown.cellAt k (by omega)]; simp only [strs, List.getElem?_map, List.getElem?_eq_getElem (show k < ys.length by omega)]; rfl
      have hf0 := hown.frozenAt k
      have hst := hide (fun u => hown.stored k u)
      have hgb' : base ≤ g := hgb
      have hb' : ∀ u, Hid (Below base w (wr.setCell ⟨g, k, none⟩ u)) := fun u => below_set hb hgb' u
      have HB := hide hb'
      clear hown hb' hb
      go_wp2_with fail
      go_roundw
      case rel =>
        refine ⟨k + 1, ys.set k ⟨#[115, 112, 111, 105, 108, 116]⟩, by omega, by go_num, ?_, (HB.out _).out⟩
        have h9 := hst.out (.string ⟨#[115, 112, 111, 105, 108, 116]⟩)
        rw [show strs (ys.set k ⟨#[115, 112, 111, 105, 108, 116]⟩) = (strs ys).set k (.string ⟨#[115, 112, 111, 105, 108, 116]⟩) by simp [strs, List.map_set]]
        exact h9.1
      case measure => simp [intOf]; omega
    · obtain rfl : k = n := by omega
      go_wp2_with (at_builtin; refine wpList_append_own _ rfl _ _ 45 rfl base 9 i0 (.string ByteArray.empty) 1 16 Try.underlying45 hi hz0 hz1 hz2 rfl (by decide) _ _ _ rfl (hown.alloc _) ⟨wr.heap.size, 0, none⟩ 1 1 [.string ⟨#[]⟩] rfl rfl (news_one _ _ _) (one_str _) (by unfold maxLen; omega) (by omega) (by simp; omega) ?_)
      intro v3 w3 _ hg3 _
      have hb4 : Below base w w3 := (hb.alloc (by omega) _).grown hg3 (by simp; omega) (fun g hg' => (hown.lt g hg').1)
      clear hg3 hown hb
      go_wp2_with fail
      go_end0
      exact ⟨rfl, hb4⟩

set_option maxRecDepth 100000 in
set_option maxHeartbeats 1000000 in
theorem law0_Numbers {v : Value} {n base : Nat} {xs : List Int} (w : World) (h : w.ownsRow base 3 1 v n (ints xs)) (hbase : base ≤ w.heap.size) (hn : n ≤ 1099511627776) :
    Calls Try.prog 68 #[v] w fun e w' => e = .returned (.tuple #[]) ∧ Below base w w' := by
  obtain ⟨i0, hi, hz0, hz1, hz2⟩ := info_parts Try.infoInt
  obtain ⟨A, c, rfl⟩ := own_slice h
  go_enter Try.func68, Try.ntmps68
  go_wp2_with fail
  go_loopw [2] (fun i wr => ∃ (k : Nat) (ys : List Int), k ≤ n ∧ i = .int .i64 k ∧ wr.ownsRow base 3 1 (.slice A n c) n (ints ys) ∧ Below base w wr) (fun i _ => n - (intOf i).toNat)
  case atStart => exact ⟨0, xs, Nat.zero_le _, rfl, h, Below.refl _ _⟩
  case round =>
    obtain ⟨k, ys, hk, rfl, hown, hb⟩ := hrel
    have hsz := hb.size
    by_cases hlt : k < n
    · have hl := hown.1
      rw [ints_len] at hl
      obtain ⟨g, cap, hv, hgb, hgl⟩ := hown.form (by omega)
      injection hv with hA _ hc
      subst hA
      subst hc
      have hc0 : wr.cell? ⟨g, k, none⟩ = some (.int .i64 (ys[k]'(by omega))) := by rw [hown.cellAt k (by omega)]; simp only [ints, List.getElem?_map, List.getElem?_eq_getElem (show k < ys.length by omega)]; rfl
      have hf0 := hown.frozenAt k
      have hst := hide (fun u => hown.stored k u)
      have hgb' : base ≤ g := hgb
      have hb' : ∀ u, Hid (Below base w (wr.setCell ⟨g, k, none⟩ u)) := fun u => below_set hb hgb' u
      have HB := hide hb'
      clear hown hb' hb
      go_wp2_with fail
      go_roundw
      case rel =>
        refine ⟨k + 1, ys.set k (-99), by omega, by go_num, ?_, (HB.out _).out⟩
        have h9 := hst.out (.int .i64 (-99))
        rw [show ints (ys.set k (-99)) = (ints ys).set k (.int .i64 (-99)) by simp [ints, List.map_set]]
        exact h9.1
      case measure => simp [intOf]; omega
    · obtain rfl : k = n := by omega
      go_wp2_with (at_builtin; refine wpList_append_own _ rfl _ _ 46 rfl base 3 i0 (.int .i64 0) 1 8 Try.underlying46 hi hz0 hz1 hz2 rfl (by decide) _ _ _ rfl (hown.alloc _) ⟨wr.heap.size, 0, none⟩ 1 1 [.int .i64 5] rfl rfl (news_one _ _ _) (one_int64 _) (by unfold maxLen; omega) (by omega) (by simp; omega) ?_)
      intro v3 w3 _ hg3 _
      have hb4 : Below base w w3 := (hb.alloc (by omega) _).grown hg3 (by simp; omega) (fun g hg' => (hown.lt g hg').1)
      clear hg3 hown hb
      go_wp2_with fail
      go_end0
      exact ⟨rfl, hb4⟩

set_option maxRecDepth 100000 in
set_option maxHeartbeats 1000000 in
theorem law0_Bytes {v : Value} {n base : Nat} {xs : List UInt8} (w : World) (h : w.ownsRow base 5 1 v n (bytes8 xs)) (hbase : base ≤ w.heap.size) (hn : n ≤ 1099511627776) :
    Calls Try.prog 36 #[v] w fun e w' => e = .returned (.tuple #[]) ∧ Below base w w' := by
  obtain ⟨i0, hi, hz0, hz1, hz2⟩ := info_parts Try.infoByte
  obtain ⟨A, c, rfl⟩ := own_slice h
  go_enter Try.func36, Try.ntmps36
  go_wp2_with fail
  go_loopw [2] (fun i wr => ∃ (k : Nat) (ys : List UInt8), k ≤ n ∧ i = .int .i64 k ∧ wr.ownsRow base 5 1 (.slice A n c) n (bytes8 ys) ∧ Below base w wr) (fun i _ => n - (intOf i).toNat)
  case atStart => exact ⟨0, xs, Nat.zero_le _, rfl, h, Below.refl _ _⟩
  case round =>
    obtain ⟨k, ys, hk, rfl, hown, hb⟩ := hrel
    have hsz := hb.size
    by_cases hlt : k < n
    · have hl := hown.1
      rw [bytes8_len] at hl
      obtain ⟨g, cap, hv, hgb, hgl⟩ := hown.form (by omega)
      injection hv with hA _ hc
      subst hA
      subst hc
      have hc0 : wr.cell? ⟨g, k, none⟩ = some (.int .u8 ((ys[k]'(by omega)).toNat : Int)) := by rw [hown.cellAt k (by omega)]; simp only [bytes8, List.getElem?_map, List.getElem?_eq_getElem (show k < ys.length by omega)]; rfl
      have hf0 := hown.frozenAt k
      have hst := hide (fun u => hown.stored k u)
      have hgb' : base ≤ g := hgb
      have hb' : ∀ u, Hid (Below base w (wr.setCell ⟨g, k, none⟩ u)) := fun u => below_set hb hgb' u
      have HB := hide hb'
      clear hown hb' hb
      go_wp2_with fail
      go_roundw
      case rel =>
        refine ⟨k + 1, ys.set k ((ys[k]'(by omega)) ^^^ 85), by omega, by go_num, ?_, (HB.out _).out⟩
        have h9 := hst.out (.int .u8 (((ys[k]'(by omega)) ^^^ 85 : UInt8).toNat : Int))
        rw [show bytes8 (ys.set k ((ys[k]'(by omega)) ^^^ 85)) = (bytes8 ys).set k (.int .u8 (((ys[k]'(by omega)) ^^^ 85 : UInt8).toNat : Int)) by simp [bytes8, List.map_set]]
        rw [xor_u8]; exact h9.1
      case measure => simp [intOf]; omega
    · obtain rfl : k = n := by omega
      go_wp2_with (at_builtin; refine wpList_append_own _ rfl _ _ 28 rfl base 5 i0 (.int .u8 0) 1 1 Try.underlying28 hi hz0 hz1 hz2 rfl (by decide) _ _ _ rfl (hown.alloc _) ⟨wr.heap.size, 0, none⟩ 1 1 [.int .u8 5] rfl rfl (news_one _ _ _) (one_int _ _) (by unfold maxLen; omega) (by omega) (by simp; omega) ?_)
      intro v3 w3 _ hg3 _
      have hb4 : Below base w w3 := (hb.alloc (by omega) _).grown hg3 (by simp; omega) (fun g hg' => (hown.lt g hg').1)
      clear hg3 hown hb
      go_wp2_with fail
      go_end0
      exact ⟨rfl, hb4⟩
end Go.Proofs.Ytflamhndmggiaaa
