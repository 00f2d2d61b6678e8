/-
  Contracts of the law's helpers of layer 2: weights, what is heavy, that it wakes.
-/
import Derived.Test.YtflamhndmggiaaaWirD
import Derived.Test.YtflamhndmggiaaaByt
import Derived.Test.YtflamhndmggiaaaStr
import Derived.Test.YtflamhndmggiaaaApp
namespace Go.Proofs.Ytflamhndmggiaaa
open Go.RowKit

def szs : List ByteArray → Nat
  | [] => 0
  | s :: r => s.size + szs r
theorem szs_append (a b : List ByteArray) : szs (a ++ b) = szs a + szs b := by
  induction a with
  | nil => simp [szs]
  | cons s r ih => simp only [List.cons_append, szs, ih]; omega
theorem szs_take {ls : List ByteArray} {k : Nat} {u : ByteArray} (h : ls[k]? = some u) : szs (ls.take (k + 1)) = szs (ls.take k) + u.size := by
  rw [take_at h, szs_append]; simp [szs]
theorem szs_take_le (ls : List ByteArray) (k : Nat) : szs (ls.take k) ≤ szs ls := by
  have h : szs ls = szs (ls.take k) + szs (ls.drop k) := by rw [← szs_append, List.take_append_drop]
  omega

/-- The weight that is told. -/
def twGo : List ByteArray → Nat → Nat
  | [], n => n
  | s :: r, n => if n < 1048576 then twGo r (n + s.size) else n
theorem twGo_small : ∀ (ls : List ByteArray) (n : Nat), twGo ls n ≤ 8000 → n + szs ls ≤ 8000
  | [], n, h => by simpa [twGo, szs] using h
  | s :: r, n, h => by
    rw [twGo] at h
    split at h
    · have := twGo_small r (n + s.size) h
      simp only [szs]; omega
    · omega

set_option maxRecDepth 100000 in
set_option maxHeartbeats 1000000 in
theorem law0_TextWeight {A : Option Addr} {n c T : Nat} {ls : List ByteArray} (w : World) (hs : Sl w 1 A n (strs ls)) (hn : n ≤ 150000000000001) (hz : ∀ s ∈ ls, s.size ≤ 150000000000001) (ht : twGo ls n = T) :
    Calls Try.prog 71 #[.slice A n c] w fun e w' => e = .returned (.int .i64 T) ∧ w = w' := by
  have HL := hide hs.slen
  have HZ := hide hz
  have HT := hide ht
  clear hz ht
  go_enter Try.func71, Try.ntmps71
  go_wp2_with fail
  go_loop [3, 4] (fun t j => ∃ (k W : Nat), k ≤ n ∧ j = .int .i64 k ∧ t = .int .i64 W ∧ W ≤ 160000000000001 ∧ Hid (twGo (ls.drop k) W = T)) (fun _ j => n - (intOf j).toNat)
  case atStart => exact ⟨0, n, Nat.zero_le _, rfl, rfl, by omega, HT⟩
  case round =>
    obtain ⟨k, W, hk, rfl, rfl, hW, HW⟩ := hrel
    by_cases hlt : k < n
    · obtain ⟨b, off, u, rfl, HU, hc, _⟩ := hs.str hlt
      have hu : u.size ≤ 150000000000001 := HZ.out u (List.mem_of_getElem? HU.out)
      clear hs
      by_cases hw : W ≤ 1048575
      · obtain ⟨z, hzz⟩ : ∃ z, u.size = z := ⟨_, rfl⟩
        rw [hzz] at hu
        have hd : decide ((W : Int) < 1048576) = true := by rw [decide_eq_true_eq]; omega
        have HW2 := hide hw
        clear hw
        go_wp2_with fail
        go_round
        case rel =>
          refine ⟨k + 1, W + z, by omega, by go_num, by go_num, by have := HW2.out; omega, ?_⟩
          have h1 := HW.out
          rw [drop_at HU.out, twGo, if_pos (by have := HW2.out; omega), hzz] at h1
          exact h1
        case measure => simp [intOf]; omega
      · have hd : decide ((W : Int) < 1048576) = false := by rw [decide_eq_false_iff_not]; omega
        have hF : W = T := by
          have h1 := HW.out
          rw [drop_at HU.out, twGo, if_neg (by omega)] at h1
          exact h1
        subst hF
        clear hw
        go_wp2_with fail
        go_ret
        exact ⟨rfl, rfl⟩
    · obtain rfl : k = n := by omega
      have hF : W = T := by
        have h1 := HW.out
        rw [List.drop_eq_nil_of_le (by rw [HL.out]; exact Nat.le_refl _)] at h1
        exact h1
      subst hF
      go_wp2_with fail
      go_ret
      exact ⟨rfl, rfl⟩

set_option maxHeartbeats 400000 in
theorem law2_num (n : Int) (w : World) : Calls Try.prog 29 #[.int .i64 n] w fun e w' => e = .returned (.int .i64 n) ∧ w = w' := by
  go_enter Try.func29, Try.ntmps29
  go_wp2_with fail
  go_ret
  exact ⟨rfl, rfl⟩
/-- Is it more than is played? -/
def heavy2 (T nB nN : Nat) : Bool := decide (8000 < T) || (decide (8000 < nB) || decide (500 < nN))
set_option maxRecDepth 100000 in
set_option maxHeartbeats 1000000 in
theorem law2_heavy {A A2 A3 : Option Addr} {n c n2 c2 n3 c3 T : Nat} {ls : List ByteArray} {N : Value} (w : World) (hs : Sl w 1 A n (strs ls)) (hn : n ≤ 150000000000001) (hz : ∀ s ∈ ls, s.size ≤ 150000000000001) (ht : twGo ls n = T)
    (hn2 : n2 ≤ 9223372036854775807) (hn3 : n3 ≤ 9223372036854775807) :
    Calls Try.prog 27 #[.agg #[N, .slice A n c, .slice A2 n2 c2, .slice A3 n3 c3]] w fun e w' => e = .returned (.bool (heavy2 T n3 n2)) ∧ Below w.heap.size w w' := by
  have s1 := hs.alloc (.cells #[N, .slice A n c, .slice A2 n2 c2, .slice A3 n3 c3] 48)
  have HZ := hide hz
  have HT := hide ht
  clear hz ht hs
  have HB : Hid (Below w.heap.size w (w.alloc (.cells #[N, .slice A n c, .slice A2 n2 c2, .slice A3 n3 c3] 48))) := (Below.refl _ _).alloc (Nat.le_refl _) _
  go_enter Try.func27, Try.ntmps27
  by_cases h1 : 8000 < T
  · have hq : heavy2 T n3 n2 = true := by simp [heavy2, h1]
    have hd : decide ((8000 : Int) < (T : Int)) = true := by rw [decide_eq_true_eq]; omega
    rw [hq]
    clear hq h1
    go_wp2_with (go_at_call 71; refine (law0_TextWeight _ s1 hn HZ.out HT.out).mono ?_; rintro e w1 ⟨rfl, rfl⟩)
    go_ret
    exact ⟨rfl, HB.out⟩
  · have hd : decide ((8000 : Int) < (T : Int)) = false := by rw [decide_eq_false_iff_not]; omega
    by_cases h2 : 8000 < n3
    · have hq : heavy2 T n3 n2 = true := by simp [heavy2, h2]
      have hd2 : decide ((8000 : Int) < (n3 : Int)) = true := by rw [decide_eq_true_eq]; omega
      rw [hq]
      clear hq h1 h2
      go_wp2_with (go_at_call 71; refine (law0_TextWeight _ s1 hn HZ.out HT.out).mono ?_; rintro e w1 ⟨rfl, rfl⟩)
      go_ret
      exact ⟨rfl, HB.out⟩
    · have hd2 : decide ((8000 : Int) < (n3 : Int)) = false := by rw [decide_eq_false_iff_not]; omega
      have hq : heavy2 T n3 n2 = decide ((500 : Int) < (n2 : Int)) := by simp [heavy2, h1, h2]; omega
      rw [hq]
      clear hq h1 h2
      go_wp2_with (go_at_call 71; refine (law0_TextWeight _ s1 hn HZ.out HT.out).mono ?_; rintro e w1 ⟨rfl, rfl⟩)
      go_ret
      exact ⟨rfl, HB.out⟩

theorem putB_wakes : putB [⟨#[97]⟩, ⟨#[]⟩] = [2, 1, 97, 0] := by
  have e2 : enc 2 = [2] := by rw [enc_lt (by omega)]; rfl
  have e1 : enc 1 = [1] := by rw [enc_lt (by omega)]; rfl
  have e0 : enc 0 = [0] := by rw [enc_lt (by omega)]; rfl
  simp only [putB, txt, List.flatMap_cons, List.flatMap_nil, List.length_cons, List.length_nil, Nat.zero_add, Nat.reduceAdd]
  rw [show (⟨#[97]⟩ : ByteArray).size = 1 from rfl, show (⟨#[]⟩ : ByteArray).size = 0 from rfl, e2, e1, e0]
  rfl
theorem Sl.fresh (w : World) (cs : List Value) (t : TypeId) : Sl (w.alloc (.cells cs.toArray t)) 1 (some ⟨w.heap.size, 0, none⟩) cs.length cs := by
  refine ⟨by simp, fun _ => ⟨w.heap.size, 0, rfl, by simp, fun j u hu => ?_⟩⟩
  rw [Nat.zero_add, cell_new]
  simpa using hu
set_option maxRecDepth 100000 in
set_option maxHeartbeats 1000000 in
theorem law2_wakes (w : World) : Calls Try.prog 34 #[] w fun e w' => e = .returned (.bool true) ∧ Below w.heap.size w w' := by
  have s1 : Sl (w.alloc (.cells #[.string ⟨#[97]⟩, .string ⟨#[]⟩] 9)) 1 (some ⟨w.heap.size, 0, none⟩) 2 (strs [⟨#[97]⟩, ⟨#[]⟩]) := Sl.fresh w [.string ⟨#[97]⟩, .string ⟨#[]⟩] _
  have hl : Hid ((putB [⟨#[97]⟩, ⟨#[]⟩]).length ≤ 1048576) := by rw [Hid, putB_wakes]; simp
  have HB : Hid (Below w.heap.size w (w.alloc (.cells #[.string ⟨#[97]⟩, .string ⟨#[]⟩] 9))) := (Below.refl _ _).alloc (Nat.le_refl _) _
  go_enter Try.func34, Try.ntmps34
  go_wp2_with (first
    | (go_at_call 48; refine (wire_Put _ s1 (by omega) hl.out).mono ?_; rintro e w1 ⟨v, rfl, hown, hb⟩; rw [putB_wakes] at hown; have hz := hb.size; obtain ⟨A1, c1, rfl⟩ := own_slice hown; have t1 := (Sl.of_own hown).alloc (.cells #[.int .u8 2, .int .u8 1, .int .u8 97, .int .u8 0] 5); have t2 : Sl (w1.alloc (.cells #[.int .u8 2, .int .u8 1, .int .u8 97, .int .u8 0] 5)) 1 (some ⟨w1.heap.size, 0, none⟩) 4 (bytes8 [2, 1, 97, 0]) := Sl.fresh w1 (bytes8 [2, 1, 97, 0]) _)
    | (go_at_call 29; refine (law2_num _ _).mono ?_; rintro e w' ⟨rfl, rfl⟩)
    | (go_at_call 26; refine (ref0_EqBytes _ _ _ _ _ _ _ _ _ t1 (by simp) t2 (by simp)).mono ?_; rintro e w2 ⟨rfl, q, rfl⟩))
  go_ret
  refine ⟨rfl, below_drewN ?_ q⟩
  have h0 := HB.out.size
  exact (HB.out.trans (hb.mono h0)).alloc (Nat.le_trans h0 hz) _
end Go.Proofs.Ytflamhndmggiaaa
