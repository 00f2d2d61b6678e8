/-
  Contracts of the committee's and the references' functions over lists of numbers: how many unlike nodes are among them, whether they are enough; copies; comparisons. The plain meaning: 'cnt n xs' is how many of 1 .. n are in xs.
-/
import Derived.Test.YtkjdhjkmnkcgoaaComA
import Derived.BigQuiet
import Derived.Deep.QuietTactic
namespace Go.Proofs.Ytkjdhjkmnkcgoaa
open Go.RowKit

theorem Try.infoInt : (Try.prog.info? 3).map (fun i => (i.zero, i.size, i.bytes)) = some (some (.int .i64 0), 1, 8) := by kernel_rfl

/-- How many of 1 .. n there are. -/
def cnt (n : Nat) (xs : List Int) : Nat := ((List.range n).filter fun (i : Nat) => decide (((i : Int) + 1) ∈ xs)).length

theorem cnt_le (n : Nat) (xs : List Int) : cnt n xs ≤ n := by
  unfold cnt; have := List.length_filter_le (fun i : Nat => decide (((i : Int) + 1) ∈ xs)) (List.range n); simpa using this
theorem cnt_nil (n : Nat) : cnt n [] = 0 := by simp [cnt]
theorem cnt_succ (n : Nat) (xs : List Int) : cnt (n + 1) xs = cnt n xs + if ((n : Int) + 1) ∈ xs then 1 else 0 := by
  unfold cnt
  rw [List.range_succ, List.filter_append, List.length_append]
  by_cases h : ((n : Int) + 1) ∈ xs <;> simp [h]

theorem cnt_snoc (n : Nat) (xs : List Int) (x : Int) : cnt n (xs ++ [x]) = cnt n xs + if 1 ≤ x ∧ x ≤ n ∧ x ∉ xs then 1 else 0 := by
  induction n with
  | zero => simp [cnt]; omega
  | succ n ih =>
    rw [cnt_succ, cnt_succ, ih]
    by_cases hx : x = (n : Int) + 1
    · subst hx
      by_cases h : ((n : Int) + 1) ∈ xs
      · simp [h]
      · have h1 : (1 : Int) ≤ (n : Int) + 1 := by omega
        have h2 : ¬ ((n : Int) + 1 ≤ (n : Int)) := by omega
        simp [h, h1, h2]
    · have hne : ((n : Int) + 1) ≠ x := fun e => hx e.symm
      have e1 : (((n : Int) + 1) ∈ xs ++ [x]) ↔ ((n : Int) + 1) ∈ xs := by simp [hne]
      have e2 : (1 ≤ x ∧ x ≤ ((n + 1 : Nat) : Int) ∧ x ∉ xs) ↔ (1 ≤ x ∧ x ≤ (n : Int) ∧ x ∉ xs) := by
        constructor
        · rintro ⟨a, b, c⟩; exact ⟨a, by omega, c⟩
        · rintro ⟨a, b, c⟩; exact ⟨a, by omega, c⟩
      simp only [e1, e2]
      omega

/-- Where a number is, or -1. -/
def inIdx (xs : List Int) (x : Int) : Int := if x ∈ xs then (xs.idxOf x : Int) else -1
theorem inIdx_ge {xs : List Int} {x : Int} : 0 ≤ inIdx xs x ↔ x ∈ xs := by
  unfold inIdx; split <;> rename_i h <;> simp [h]

theorem mem_take_succ {xs : List Int} {k : Nat} {u : Int} (h : xs[k]? = some u) (x : Int) : x ∈ xs.take (k + 1) ↔ x ∈ xs.take k ∨ x = u := by
  rw [take_at h]; simp
theorem inIdx_found {xs : List Int} {x : Int} {k : Nat} (hk : xs[k]? = some x) (h : x ∉ xs.take k) : inIdx xs x = k := by
  rw [inIdx, if_pos (mem_of_at hk)]
  have hsp : xs = xs.take k ++ xs.drop k := (List.take_append_drop k xs).symm
  have hl := lt_of_at hk
  rw [hsp, List.idxOf_append, if_neg h, drop_at hk]
  simp; omega
theorem inIdx_none {xs : List Int} {x : Int} {n : Nat} (hn : xs.length = n) (h : x ∉ xs.take n) : inIdx xs x = -1 := by
  rw [← hn, List.take_length] at h; rw [inIdx, if_neg h]

set_option maxHeartbeats 400000 in
theorem ref0_In (A : Option Addr) (n c : Nat) (x : Int) (xs : List Int) (w : World) (hs : Sl w 1 A n (ints xs)) (hn : n ≤ 9223372036854775807) :
    Calls Try.prog 57 #[.slice A n c, .int .i64 x] w fun e w' => e = .returned (.int .i64 (inIdx xs x)) ∧ w = w' := by
  have HL := hide hs.ilen
  go_enter Try.func57, Try.ntmps57
  go_wp2_with fail
  go_loop [5] (fun i => ∃ k : Nat, k ≤ n ∧ i = .int .i64 k ∧ Hid (x ∉ xs.take k)) (fun i => n - (intOf i).toNat)
  case atStart => exact ⟨0, Nat.zero_le _, rfl, by simp [Hid]⟩
  case round =>
    obtain ⟨k, hk, rfl, HX⟩ := hrel
    by_cases hlt : k < n
    · obtain ⟨b, off, u, rfl, HU, hc, _⟩ := hs.int hlt
      clear hs
      by_cases he : u = x
      · subst he
        go_wp2_with fail
        go_ret
        exact ⟨ret_int (inIdx_found HU.out HX.out).symm, rfl⟩
      · have hb : (u == x) = false := by simpa using he
        go_wp2_with fail
        go_round
        case rel => exact ⟨k + 1, by omega, by go_num, fun hm => ((mem_take_succ HU.out x).1 hm).elim HX.out (fun e => he e.symm)⟩
        case measure => simp [intOf]; omega
    · obtain rfl : k = n := by omega
      go_wp2_with fail
      go_ret
      exact ⟨ret_int (inIdx_none HL.out HX.out).symm, rfl⟩

set_option maxHeartbeats 400000 in
theorem ref2_Count (m : Nat) (A : Option Addr) (n c : Nat) (xs : List Int) (w : World) (hs : Sl w 1 A n (ints xs)) (hn : n ≤ 9223372036854775807) (hm : m ≤ 16) :
    Calls Try.prog 41 #[.int .i64 m, .slice A n c] w fun e w' => e = .returned (.int .i64 (cnt m xs)) ∧ w = w' := by
  go_enter Try.func41, Try.ntmps41
  go_wp2_with fail
  go_loop [5, 6] (fun c i => ∃ k : Nat, k ≤ m ∧ i = .int .i64 (k + 1) ∧ c = .int .i64 (cnt k xs)) (fun _ i => m + 1 - (intOf i).toNat)
  case atStart => exact ⟨0, Nat.zero_le _, rfl, by simp [cnt_nil, cnt]⟩
  case round =>
    obtain ⟨k, hk, rfl, rfl⟩ := hrel
    have hc := cnt_le k xs
    have HS := hide (cnt_succ k xs)
    by_cases hlt : k < m
    · by_cases hx : ((k : Int) + 1) ∈ xs
      · have h0 : 0 ≤ inIdx xs ((k : Int) + 1) := inIdx_ge.2 hx
        have HX := hide hx
        clear hx
        go_wp2_with (first | (go_at_call 57; refine (ref0_In _ _ _ _ _ _ hs hn).mono ?_; rintro e w' ⟨rfl, rfl⟩))
        go_round
        case rel => exact ⟨k + 1, by omega, by go_num, by rw [HS.out, if_pos HX.out]; go_num⟩
        case measure => simp [intOf]; omega
      · have h0 : inIdx xs ((k : Int) + 1) < 0 := by
          have := mt inIdx_ge.1 hx; omega
        have HX := hide hx
        clear hx
        go_wp2_with (first | (go_at_call 57; refine (ref0_In _ _ _ _ _ _ hs hn).mono ?_; rintro e w' ⟨rfl, rfl⟩))
        go_round
        case rel => exact ⟨k + 1, by omega, by go_num, by rw [HS.out, if_neg HX.out]; go_num⟩
        case measure => simp [intOf]; omega
    · obtain rfl : k = m := by omega
      go_wp2_with fail
      go_ret
      exact ⟨rfl, rfl⟩

set_option maxHeartbeats 400000 in
theorem ref0_EqNumbers (A B : Option Addr) (n c m d : Nat) (xs ys : List Int) (w : World) (hs : Sl w 1 A n (ints xs)) (hn : n ≤ 9223372036854775807) (ht : Sl w 1 B m (ints ys)) (hm : m ≤ 9223372036854775807) :
    Calls Try.prog 40 #[.slice A n c, .slice B m d] w fun e w' => e = .returned (.bool (xs == ys)) ∧ ∃ q, w' = w.drewN q := by
  have HL := hide hs.ilen
  have HM := hide ht.ilen
  by_cases hne : n = m
  · subst hne
    go_enter Try.func40, Try.ntmps40
    go_wp2_with fail
    go_loopw [5] (fun i wr => ∃ k : Nat, k ≤ n ∧ i = .int .i64 k ∧ xs.take k = ys.take k ∧ ∃ q, wr = w.drewN q) (fun i _ => n - (intOf i).toNat)
    case atStart => exact ⟨0, Nat.zero_le _, rfl, by simp, 0, rfl⟩
    case round =>
      obtain ⟨k, hk, rfl, hx, q, rfl⟩ := hrel
      have HX := hide hx
      clear hx
      by_cases hlt : k < n
      · obtain ⟨b, off, u, rfl, HU, hc, _⟩ := hs.int hlt
        obtain ⟨b', off', v, rfl, HV, hc', _⟩ := ht.int hlt
        clear hs ht
        go_wp2_with fail
        go_quiet (fail)
        by_cases he : u = v
        · subst he
          have hb : (u != u) = false := by simp
          go_wp2_with fail
          go_roundw
          case rel => exact ⟨k + 1, by omega, by go_num, by rw [take_at HU.out, take_at HV.out, HX.out], q + nq, rfl⟩
          case measure => simp [intOf]; omega
        · have hb : (u != v) = true := by simpa using he
          go_wp2_with fail
          go_ret
          refine ⟨ret_bool ?_, q + nq, World.drewN_drewN _ _ _⟩
          symm
          rw [beq_eq_false_iff_ne]
          rintro rfl
          have e := HU.out.symm.trans HV.out
          injection e with e
          exact he e
      · obtain rfl : k = n := by omega
        go_wp2_with fail
        go_ret
        refine ⟨ret_bool ?_, q, rfl⟩
        have hx := HX.out
        rw [List.take_of_length_le (by rw [HL.out]; exact Nat.le_refl _), List.take_of_length_le (by rw [HM.out]; exact Nat.le_refl _)] at hx
        simp [hx]
  · have hne' : ((n : Int) != (m : Int)) = true := by simp; omega
    go_enter Try.func40, Try.ntmps40
    go_wp2_with fail
    go_ret
    refine ⟨ret_bool ?_, 0, rfl⟩
    symm
    rw [beq_eq_false_iff_ne]
    intro e
    have h1 := HL.out
    have h2 := HM.out
    rw [e] at h1
    omega

set_option maxHeartbeats 400000 in
theorem ref0_CopyNumbers (A : Option Addr) (n c : Nat) (xs : List Int) (w : World) (hs : Sl w 1 A n (ints xs)) (hn : n ≤ 9223372036854775807) (hr : n * 8 ≤ 140737488355328) :
    Calls Try.prog 37 #[.slice A n c] w fun e w' => ∃ v, e = .returned v ∧ w'.ownsRow w.heap.size 3 1 v n (ints xs) ∧ Below w.heap.size w w' := by
  obtain ⟨i0, hi, hz0, hz1, hz2⟩ := info_parts Try.infoInt
  have HL := hide hs.ilen
  go_enter Try.func37, Try.ntmps37
  go_wp2_with fail
  go_loopw [3, 4] (fun v i wr => ∃ k : Nat, k ≤ n ∧ i = .int .i64 k ∧ wr.ownsRow w.heap.size 3 1 v k (ints (xs.take k)) ∧ Below w.heap.size w wr) (fun _ i _ => n - (intOf i).toNat)
  case atStart => exact ⟨0, Nat.zero_le _, rfl, World.ownsRow_nil _ _ _ _, Below.refl _ _⟩
  case round =>
    obtain ⟨k, hk, rfl, hown, hb⟩ := hrel
    by_cases hlt : k < n
    · obtain ⟨b, off, u, rfl, HU, hc, _⟩ := hs.int hlt
      have hc' := cell_later hb hc
      clear hc hs
      go_wp2_with (first
        | (at_builtin; refine wpList_append_own _ rfl _ _ 37 rfl w.heap.size 3 i0 (.int .i64 0) 1 8 Try.underlying37 hi hz0 hz1 hz2 rfl (by decide) _ _ _ rfl (hown.alloc _) ⟨wr.heap.size, 0, none⟩ 1 1 [.int .i64 u] rfl rfl ?c1 ?c2 ?c3 ?c4 ?c5 ?_))
      case c1 => exact news_one _ _ _
      case c2 => exact one_int _ _
      case c3 => unfold maxLen; omega
      case c4 => omega
      case c5 => have := hb.size; simp; omega
      intro v' w1 hown' hg _
      have HO : ints (List.take (k + 1) xs) = ints (List.take k xs) ++ [.int .i64 u] := by rw [take_at HU.out]; simp [ints]
      have hown2 := HO ▸ hown'
      have hb2 : Below w.heap.size w w1 := (hb.alloc hb.size _).grown hg (by simp; have := hb.size; omega) (fun g hg' => (hown.lt g hg').1)
      clear HO hown' hg hown hb hc'
      go_wp2_with fail
      go_roundw
      case rel => exact ⟨k + 1, by omega, by go_num, hown2, hb2⟩
      case measure => simp [intOf]; omega
    · obtain rfl : k = n := by omega
      have hown2 : wr.ownsRow w.heap.size 3 1 u3 k (ints xs) := by rw [List.take_of_length_le (by rw [HL.out]; exact Nat.le_refl _)] at hown; exact hown
      clear hown
      go_wp2_with fail
      go_ret
      exact ⟨_, rfl, hown2, hb⟩

/-- The marks: which of the nodes have been met. -/
def seenOf (m : Nat) (ys : List Int) : Array Value := Array.ofFn fun i : Fin 17 => Value.bool (decide (1 ≤ i.val ∧ i.val ≤ m ∧ (i.val : Int) ∈ ys))
theorem seenOf_nil (m : Nat) : seenOf m [] = #[.bool false, .bool false, .bool false, .bool false, .bool false, .bool false, .bool false, .bool false, .bool false, .bool false, .bool false, .bool false, .bool false, .bool false, .bool false, .bool false, .bool false] := by
  simp [seenOf, Array.ofFn]
  rfl
theorem seenOf_get (m : Nat) (ys : List Int) (i : Nat) (h1 : 1 ≤ i) (h2 : i ≤ m) (h3 : m ≤ 16) : (seenOf m ys)[i]? = some (.bool (decide ((i : Int) ∈ ys))) := by
  unfold seenOf
  rw [Array.getElem?_ofFn]
  rw [dif_pos (by omega)]
  simp [h1, h2]
theorem seenOf_set (m : Nat) (ys : List Int) (i : Nat) (h1 : 1 ≤ i) (h2 : i ≤ m) : (seenOf m ys).setIfInBounds i (.bool true) = seenOf m (ys ++ [(i : Int)]) := by
  apply Array.ext
  · simp [seenOf]
  · intro j hj1 hj2
    rw [Array.getElem_setIfInBounds (by simpa [seenOf] using hj2)]
    split
    · rename_i h; subst h; simp [seenOf, h1, h2]
    · rename_i h
      have hne : ¬ ((j : Int) = (i : Int)) := by omega
      simp [seenOf, hne]
theorem seenOf_same (m : Nat) (ys : List Int) (x : Int) (h : x ∈ ys ∨ x < 1 ∨ (m : Int) < x) : seenOf m (ys ++ [x]) = seenOf m ys := by
  unfold seenOf
  congr 1
  funext i
  congr 1
  rw [Bool.eq_iff_iff]
  simp only [decide_eq_true_eq, List.mem_append, List.mem_singleton]
  constructor
  · rintro ⟨a, b, c | c⟩
    · exact ⟨a, b, c⟩
    · rcases h with h | h | h
      · exact ⟨a, b, c ▸ h⟩
      · omega
      · omega
  · rintro ⟨a, b, c⟩
    exact ⟨a, b, .inl c⟩

set_option maxRecDepth 100000 in
set_option maxHeartbeats 400000 in
theorem com_Unlike (m : Nat) (A : Option Addr) (n c : Nat) (xs : List Int) (w : World) (hs : Sl w 1 A n (ints xs)) (hn : n ≤ 9223372036854775807) (hm : m ≤ 16) :
    Calls Try.prog 56 #[.int .i64 m, .slice A n c] w fun e w' => e = .returned (.int .i64 (cnt m xs)) ∧ Below w.heap.size w w' := by
  have HL := hide hs.ilen
  go_enter Try.func56, Try.ntmps56
  go_wp2_with fail
  refine scope_loop 0 (fun a wr => ∃ (k : Nat) (u6 u7 u8 u9 u10 u11 u12 u13 u14 u15 u16 u17 u18 u19 u20 u21 u22 u23 u24 u25 u26 u27 u28 u29 u30 u31 u32 u33 u34 u35 u36 : Value), a = { tmps := #[.int .i64 m, .slice A n c, undef, undef, .int .i64 0, .pointer (some ⟨w.heap.size, 0, none⟩), u6, u7, u8, u9, u10, u11, u12, u13, u14, u15, u16, u17, u18, u19, u20, u21, u22, u23, u24, u25, u26, u27, u28, u29, u30, u31, u32, u33, u34, u35, u36], defers := [] } ∧ u6 = .int .i64 (cnt m (xs.take k)) ∧ u7 = .int .i64 k ∧ k ≤ n ∧ Blk wr w.heap.size 69 (seenOf m (xs.take k)) ∧ Below w.heap.size w wr) (fun a _ => n - (intOf (a.tmps.getD 7 undef)).toNat) rfl ?_ ?_
  · rintro a wr ⟨k, u6, u7, u8, u9, u10, u11, u12, u13, u14, u15, u16, u17, u18, u19, u20, u21, u22, u23, u24, u25, u26, u27, u28, u29, u30, u31, u32, u33, u34, u35, u36, rfl, rfl, rfl, hk, HB, hb⟩
    have hcm := cnt_le m (xs.take k)
    by_cases hlt : k < n
    · obtain ⟨b, off, u, rfl, HU, hc, hbw⟩ := hs.int hlt
      have hc' := cell_later hb hc
      clear hc hs
      have hne : ((k : Int) == (n : Int)) = false := by simp; omega
      by_cases hu : 1 ≤ u ∧ u ≤ m
      · obtain ⟨hu1, hu2⟩ := hu
        obtain ⟨j, rfl⟩ := Int.eq_ofNat_of_zero_le (by omega : 0 ≤ u)
        have hcell : wr.cell? ⟨w.heap.size, j, none⟩ = some (.bool (decide ((j : Int) ∈ xs.take k))) := by rw [HB.cell]; exact seenOf_get m _ j (by omega) (by omega) hm
        have hfr := HB.frozen j
        by_cases hin : (j : Int) ∈ xs.take k
        · have hd : decide ((j : Int) ∈ xs.take k) = true := by simpa using hin
          rw [hd] at hcell
          have HS : Hid (seenOf m (xs.take (k + 1)) = seenOf m (xs.take k)) := by rw [Hid, take_at HU.out]; exact seenOf_same m _ _ (.inl hin)
          have HC : Hid (cnt m (xs.take (k + 1)) = cnt m (xs.take k)) := by rw [Hid, take_at HU.out, cnt_snoc, if_neg (fun h => h.2.2 hin)]; rfl
          have HBB := hide HB
          clear hd hin HB
          go_wp2_with fail
          go_step3
          refine Exit.jump_goto ⟨⟨k + 1, _, _, _, _, _, _, _, _, _, _, _, _, _, _, _, _, _, _, _, _, _, _, _, _, _, _, _, _, _, _, _, rfl, ?_, ?_, by omega, ?_, hb⟩, by simp [intOf]; omega⟩
          · rw [HC.out]
          · go_num
          · rw [HS.out]; exact HBB.out
        · have hd : decide ((j : Int) ∈ xs.take k) = false := by simpa using hin
          rw [hd] at hcell
          have HS : Hid ((seenOf m (xs.take k)).setIfInBounds j (.bool true) = seenOf m (xs.take (k + 1))) := by rw [Hid, take_at HU.out]; exact seenOf_set m _ _ (by omega) (by omega)
          have HC : Hid (cnt m (xs.take (k + 1)) = cnt m (xs.take k) + 1) := by rw [Hid, take_at HU.out, cnt_snoc, if_pos ⟨hu1, hu2, hin⟩]
          have HBB := hide HB
          clear hd hin HB
          go_wp2_with fail
          go_step3
          refine Exit.jump_goto ⟨⟨k + 1, _, _, _, _, _, _, _, _, _, _, _, _, _, _, _, _, _, _, _, _, _, _, _, _, _, _, _, _, _, _, _, rfl, ?_, ?_, by omega, ?_, hb.setCell (Nat.le_refl _) _⟩, by simp [intOf]; omega⟩
          · rw [HC.out]; go_num
          · go_num
          · rw [← HS.out]; exact HBB.out.set_ j _
      · have HS : Hid (seenOf m (xs.take (k + 1)) = seenOf m (xs.take k)) := by rw [Hid, take_at HU.out]; exact seenOf_same m _ _ (.inr (by omega))
        have HC : Hid (cnt m (xs.take (k + 1)) = cnt m (xs.take k)) := by rw [Hid, take_at HU.out, cnt_snoc, if_neg (fun h => hu ⟨h.1, h.2.1⟩)]; rfl
        have HBB := hide HB
        clear HB
        by_cases h1 : 1 ≤ u
        all_goals
          have hu' := hu
          clear hu
          have h2 : 1 ≤ u → (m : Int) < u := fun h => by omega
          go_wp2_with fail
          go_step3
          refine Exit.jump_goto ⟨⟨k + 1, _, _, _, _, _, _, _, _, _, _, _, _, _, _, _, _, _, _, _, _, _, _, _, _, _, _, _, _, _, _, _, rfl, ?_, ?_, by omega, ?_, hb⟩, by simp [intOf]; omega⟩
          · rw [HC.out]
          · go_num
          · rw [HS.out]; exact HBB.out
    · obtain rfl : k = n := by omega
      have HT : Hid (xs.take k = xs) := List.take_of_length_le (by rw [HL.out]; exact Nat.le_refl _)
      clear hs HB
      go_wp2_with fail
      go_ret
      exact ⟨ret_int (by rw [HT.out]), hb⟩
  · intro H
    go_wp2_with fail
    go_step3
    rename_i hk
    refine hk _ _ ?_
    refine H _ _ ⟨0, _, _, _, _, _, _, _, _, _, _, _, _, _, _, _, _, _, _, _, _, _, _, _, _, _, _, _, _, _, _, _, rfl, ?_, rfl, by omega, ?_, ?_⟩
    · simp [cnt_nil]
    · simp only [List.take_zero, seenOf_nil]; exact Blk.new _ _ _
    · exact (Below.refl _ _).alloc (Nat.le_refl _) _

end Go.Proofs.Ytkjdhjkmnkcgoaa
