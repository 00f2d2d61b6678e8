/-
  The walk of CommitteeMeet: at every list of records the call answers true and changes nothing that was there.
-/
import Derived.Test.YtkjdhjkmnkcgoaaComC
namespace Go.Proofs.Ytkjdhjkmnkcgoaa
open Go.RowKit

/-- The nodes whose bits are there, of the first k. -/
def setL (a : Nat) (k : Nat) : List Int := ((List.range k).filter fun i => a.testBit i).map fun (i : Nat) => (i : Int) + 1
theorem setL_succ (a k : Nat) : setL a (k + 1) = setL a k ++ if a.testBit k then [(k : Int) + 1] else [] := by
  unfold setL
  rw [List.range_succ, List.filter_append, List.map_append]
  by_cases h : a.testBit k <;> simp [h]
theorem setL_len (a k : Nat) : (setL a k).length ≤ k := by
  unfold setL
  have := List.length_filter_le (fun i => a.testBit i) (List.range k)
  simpa using this

theorem bit_form (a k : Nat) (ha : a < 65536) : bits BinOp.and IntKind.i64 ((a : Int) / 2 ^ k) 1 = ((a / 2 ^ k % 2 : Nat) : Int) := by
  have e : ((a : Int) / 2 ^ k) = ((a / 2 ^ k : Nat) : Int) := by simp
  have hle : a / 2 ^ k ≤ a := Nat.div_le_self _ _
  rw [e]
  have h := i64_and_nat (a / 2 ^ k) 1 (by omega) (by omega)
  rw [Nat.and_one_is_mod] at h
  exact h
theorem bit_yes {a k : Nat} (ha : a < 65536) (h : a.testBit k = true) : (bits BinOp.and IntKind.i64 ((a : Int) / 2 ^ k) 1 == 1) = true := by
  rw [bit_form a k ha]
  rw [Nat.testBit_eq_decide_div_mod_eq] at h
  have h : a / 2 ^ k % 2 = 1 := by simpa using h
  rw [h]; rfl
theorem bit_no {a k : Nat} (ha : a < 65536) (h : a.testBit k = false) : (bits BinOp.and IntKind.i64 ((a : Int) / 2 ^ k) 1 == 1) = false := by
  rw [bit_form a k ha]
  rw [Nat.testBit_eq_decide_div_mod_eq] at h
  have h : a / 2 ^ k % 2 = 0 := by
    have : ¬ a / 2 ^ k % 2 = 1 := by simpa using h
    omega
  rw [h]; rfl

theorem setL_mem (a k : Nat) (i : Int) : i ∈ setL a k ↔ 1 ≤ i ∧ i ≤ k ∧ a.testBit (i - 1).toNat = true := by
  unfold setL
  simp only [List.mem_map, List.mem_filter, List.mem_range]
  constructor
  · rintro ⟨j, ⟨h1, h2⟩, rfl⟩
    have e : ((j : Int) + 1 - 1).toNat = j := by omega
    rw [e]
    exact ⟨by omega, by omega, h2⟩
  · rintro ⟨h1, h2, h3⟩
    exact ⟨(i - 1).toNat, ⟨by omega, h3⟩, by omega⟩
/-- Of the nodes whose bits are below n all count. -/
theorem cnt_setL (a n k : Nat) (hn : n ≤ k) (ha : a < 2 ^ n) : cnt n (setL a k) = (setL a k).length := by
  have e1 : (setL a k) = setL a n := by
    unfold setL
    congr 1
    obtain ⟨d, rfl⟩ : ∃ d, k = n + d := ⟨k - n, by omega⟩
    rw [List.range_add, List.filter_append]
    have e : (List.filter (fun i => a.testBit i) ((List.range d).map fun x => n + x)) = [] := by
      rw [List.filter_eq_nil_iff]
      intro i hi
      simp only [List.mem_map, List.mem_range] at hi
      obtain ⟨x, _, rfl⟩ := hi
      rw [Nat.testBit_lt_two_pow (Nat.lt_of_lt_of_le ha (Nat.pow_le_pow_right (by omega) (by omega)))]
      simp
    rw [e, List.append_nil]
  rw [e1]
  unfold cnt
  have e2 : (List.range n).filter (fun (i : Nat) => decide (((i : Int) + 1) ∈ setL a n)) = (List.range n).filter fun i => a.testBit i := by
    apply List.filter_congr
    intro i hi
    rw [List.mem_range] at hi
    have := setL_mem a n ((i : Int) + 1)
    have e : ((i : Int) + 1 - 1).toNat = i := by omega
    rw [e] at this
    rw [Bool.eq_iff_iff]
    simp only [decide_eq_true_eq, this]
    constructor
    · exact fun h => h.2.2
    · exact fun h => ⟨by omega, by omega, h⟩
  rw [e2]
  unfold setL
  rw [List.length_map]

set_option maxHeartbeats 400000 in
theorem law3_set (a : Nat) (ha : a < 65536) (w : World) :
    Calls Try.prog 46 #[.int .i64 a] w fun e w' => ∃ v, e = .returned v ∧ w'.ownsRow w.heap.size 3 1 v (setL a 16).length (ints (setL a 16)) ∧ Below w.heap.size w w' := by
  obtain ⟨i0, hi, hz0, hz1, hz2⟩ := info_parts Try.infoInt
  go_enter Try.func46, Try.ntmps46
  go_wp2_with fail
  go_loopw [3, 4] (fun v i wr => ∃ k : Nat, k ≤ 16 ∧ i = .int .i64 k ∧ wr.ownsRow w.heap.size 3 1 v (setL a k).length (ints (setL a k)) ∧ Below w.heap.size w wr) (fun _ i _ => 16 - (intOf i).toNat)
  case atStart => exact ⟨0, by omega, rfl, World.ownsRow_nil _ _ _ _, Below.refl _ _⟩
  case round =>
    obtain ⟨k, hk, rfl, hown, hb⟩ := hrel
    have hlen := setL_len a k
    by_cases hlt : k < 16
    · cases ht : a.testBit k
      case false =>
        have hno := bit_no ha ht
        have HS : Hid (setL a (k + 1) = setL a k) := by rw [Hid, setL_succ, ht]; simp
        clear ht
        go_wp2_with fail
        go_roundw
        case rel => exact ⟨k + 1, by omega, by go_num, by rw [HS.out]; exact hown, hb⟩
        case measure => simp [intOf]; omega
      case true =>
        have hyes := bit_yes ha ht
        have HS : Hid (setL a (k + 1) = setL a k ++ [(k : Int) + 1]) := by rw [Hid, setL_succ, ht]; simp
        clear ht
        go_wp2_with (first
          | (at_builtin; refine wpList_append_own _ rfl _ _ 37 rfl w.heap.size 3 i0 (.int .i64 0) 1 8 Try.underlying37 hi hz0 hz1 hz2 rfl (by decide) _ _ _ rfl (hown.alloc _) ⟨wr.heap.size, 0, none⟩ 1 1 [.int .i64 ((k : Int) + 1)] rfl rfl ?c1 ?c2 ?c3 ?c4 ?c5 ?_))
        case c1 => exact news_one _ _ _
        case c2 => exact one_int _ _
        case c3 => unfold maxLen; omega
        case c4 => omega
        case c5 => have := hb.size; simp; omega
        intro v' w1 hown' hg _
        have hown2 : w1.ownsRow w.heap.size 3 1 v' (setL a (k + 1)).length (ints (setL a (k + 1))) := by
          rw [HS.out]; simpa [ints] using hown'
        have hb2 : Below w.heap.size w w1 := (hb.alloc hb.size _).grown hg (by simp; have := hb.size; omega) (fun g hg' => (hown.lt g hg').1)
        clear hown' hg hown hb
        go_wp2_with fail
        go_roundw
        case rel => exact ⟨k + 1, by omega, by go_num, hown2, hb2⟩
        case measure => simp [intOf]; omega
    · obtain rfl : k = 16 := by omega
      go_wp2_with fail
      go_ret
      exact ⟨_, rfl, hown, hb⟩

theorem pow_wrap (n : Nat) (h : n ≤ 10) : ∃ P : Nat, P ≤ 1024 ∧ Hid (2 ^ n = P) ∧ wrap64 (2 ^ n) = (P : Int) := by
  have h1 : 2 ^ n ≤ 1024 := Nat.pow_le_pow_right (n := 2) (by omega) h
  have e2 : ((2 : Int) ^ n) = ((2 ^ n : Nat) : Int) := by simp
  refine ⟨2 ^ n, h1, rfl, ?_⟩
  rw [e2]
  generalize 2 ^ n = P at *
  exact IntWalk.wrap64_in _ (by omega)

set_option maxRecDepth 100000 in
set_option maxHeartbeats 2000000 in
theorem walk_CommitteeMeet {v : Value} {w : World} (ho : ∃ A n c, v = .slice A n c ∧ Asks3 w A n) :
    Calls Try.prog 12 #[v] w fun r w' => r = .returned (.bool true) ∧ Below w.heap.size w w' := by
  obtain ⟨A, len, c, rfl, hn, hx⟩ := ho
  clear hx
  go_enter Try.func12, Try.ntmps12
  go_wp2_with fail
  go_loopw [3] (fun i wr => ∃ n : Nat, 1 ≤ n ∧ n ≤ 13 ∧ n % 3 = 1 ∧ i = .int .i64 n ∧ Below w.heap.size w wr) (fun i _ => 20 - (intOf i).toNat)
  case atStart => exact ⟨1, by omega, by omega, by omega, rfl, Below.refl _ _⟩
  case round =>
    obtain ⟨n, hn1, hn2, hn3, rfl, hb⟩ := hrel
    have HM := hide hn3
    by_cases hle : n ≤ 10
    · have hI := comIs_mk (n := (n : Int)) ⟨by omega, by omega, by omega⟩
      obtain ⟨P, hP, HP, hw⟩ := pow_wrap n hle
      have hdiv : 3 * (((n : Int) - 1) / 3) = n - 1 := by omega
      clear hn3
      go_wp2_with (first | (go_at_call 29; refine (com_Faults _ _).mono ?_; rintro e w' ⟨rfl, rfl⟩) | (go_at_call 30; refine (com_Quorum _ _).mono ?_; rintro e w' ⟨rfl, rfl⟩) | (go_at_call 31; refine (com_Few _ _).mono ?_; rintro e w' ⟨rfl, rfl⟩) | (go_at_call 26; refine (law3_num _ _).mono ?_; rintro e w' ⟨rfl, rfl⟩))
      obtain ⟨wo, rfl⟩ : ∃ wo : World, wo = wr := ⟨_, rfl⟩
      go_loopw [10] (fun i wq => ∃ a : Nat, a ≤ 1100 ∧ i = .int .i64 a ∧ Below w.heap.size w wq) (fun i _ => 1100 - (intOf i).toNat)
      case atStart => exact ⟨0, by omega, rfl, hb⟩
      case round =>
        obtain ⟨a, ha, rfl, hbq⟩ := hrel
        have hwq := hbq.size
        by_cases hlt : a < P
        · have ha2 : a < 2 ^ n := by rw [HP.out]; exact hlt
          have hc := cnt_setL a n 16 (by omega) ha2
          have hE : enoughB n (setL a 16) = decide (2 * (((n : Int) - 1) / 3) + 1 ≤ ((setL a 16).length : Int)) := by simp [enoughB, hI, hc]
          have hS : someB n (setL a 16) = decide (((n : Int) - 1) / 3 + 1 ≤ ((setL a 16).length : Int)) := by simp [someB, hI, hc]; omega
          have hl16 := setL_len a 16
          clear hc ha2
          go_wp2_with (first
            | (go_at_call 46; refine (law3_set a (by omega) _).mono ?_; rintro e w1 ⟨v, rfl, hown, hb1⟩; obtain ⟨A1, c1, rfl⟩ := own_slice hown; have t1 := Sl.of_own hown; have hz1 := hb1.size)
            | (go_at_call 38; refine (com_Enough _ _ _ _ _ _ t1 (by omega)).mono ?_; rintro e w2 ⟨rfl, hb2⟩; have t2 := t1.below hb2; have hz2 := hb2.size)
            | (go_at_call 39; refine (com_Some _ _ _ _ _ _ t2 (by omega)).mono ?_; rintro e w3 ⟨rfl, hb3⟩)
            | (go_at_call 26; refine (law3_num _ _).mono ?_; rintro e w' ⟨rfl, rfl⟩))
          go_roundw
          case rel => exact ⟨a + 1 + a / 50, by omega, by go_num, ((hbq.trans (hb1.mono hwq)).trans (hb2.mono (by omega))).trans (hb3.mono (by omega))⟩
          case measure => simp [intOf]; omega
        · go_wp2_with fail
          go_roundw
          case rel => exact ⟨n + 3, by omega, by omega, by have := HM.out; omega, by go_num, hbq⟩
          case measure => simp [intOf]; omega
    · clear hn3
      go_wp2_with (first | (go_at_call 25; refine (law3_wakes _).mono ?_; rintro e w' ⟨rfl, rfl⟩))
      go_ret
      exact ⟨rfl, hb⟩
end Go.Proofs.Ytkjdhjkmnkcgoaa
