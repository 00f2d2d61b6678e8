/-
  Texts joined: words and contracts that later texts use; lemmas alone, no conditions of a statement.
-/
import Derived.Test.YtmnogefpphonlaaGr02
import Derived.Test.YtmnogefpphonlaaGr05
import Derived.Test.YtmnogefpphonlaaGr06
import Derived.Deep.RegionHeld3
import Derived.Deep.DrawnRows
import Derived.Test.YtmnogefpphonlaaGr07
import Derived.Test.YtmnogefpphonlaaMsgP
import Derived.Deep.DeepCutAuto
set_option linter.unusedVariables false
set_option linter.unusedSimpArgs false
/-
  Contracts: numbers as texts: wire's and the reference's.
-/
namespace Go.Proofs.Ytmnogefpphonlaa
open Go.RowKit

theorem numS_nat (m : Nat) : numS (m : Int) = tx (enc m) := by rw [numS, Int.toNat_natCast]
set_option maxRecDepth 100000 in
set_option maxHeartbeats 1000000 in
theorem wire_Texts {A : Option Addr} {n c : Nat} {xs : List Int} (w : World) (hs : Sl w 1 A n (ints xs)) (hn : n ≤ 1048576) (h0 : ∀ x ∈ xs, 0 ≤ x ∧ x ≤ 9223372036854775807) :
    Calls Try.prog 62 #[.slice A n c] w fun e w' => ∃ v', e = .returned v' ∧ w'.ownsRow w.heap.size 9 1 v' n (strs (xs.map numS)) ∧ Below w.heap.size w w' := by
  have HL := hide hs.ilen
  have H0 := hide h0
  clear h0
  obtain ⟨i0, hi, hz0, hz1, hz2⟩ := info_parts Try.infoStr
  go_enter Try.func62, Try.ntmps62
  go_wp2_with fail
  go_loopw [2, 7] (fun b i wr => ∃ k : Nat, k ≤ n ∧ i = .int .i64 k ∧ wr.ownsRow w.heap.size 9 1 b k (strs ((xs.map numS).take k)) ∧ Below w.heap.size w wr) (fun _ i _ => n - (intOf i).toNat)
  case atStart => exact ⟨0, Nat.zero_le _, rfl, World.ownsRow_nil _ _ _ _, Below.refl _ _⟩
  case round =>
    obtain ⟨k, hk, rfl, hown, hb⟩ := hrel
    have hsz := hb.size
    obtain ⟨wo, rfl⟩ : ∃ wo : World, wo = wr := ⟨_, rfl⟩
    obtain ⟨A2, c2, rfl⟩ := own_slice hown
    by_cases hlt : k < n
    · obtain ⟨b, off, u, rfl, HU, hc, _⟩ := hs.int hlt
      have hc' := cell_later hb hc
      obtain ⟨hu0, hu1⟩ := H0.out u (List.mem_of_getElem? HU.out)
      obtain ⟨m, rfl⟩ : ∃ m : Nat, u = (m : Int) := ⟨u.toNat, by omega⟩
      have hm : m ≤ 9223372036854775807 := by omega
      clear hc hs hu0 hu1
      have HO : Hid (strs ((xs.map numS).take (k + 1)) = strs ((xs.map numS).take k) ++ [.string (tx (enc m))]) := by
        rw [Hid, take_at (u := numS m) (by rw [List.getElem?_map, HU.out]; rfl)]; simp [strs, numS_nat]
      go_wp2_with fail
      refine (wire_num wo.heap.size _ m [] _ (World.ownsRow_nil _ _ _ _) (Nat.le_refl _) hm (by simp)).mono ?_
      rintro e w2 ⟨v2, rfl, hown2, hb2⟩
      rw [List.nil_append] at hown2
      obtain ⟨A3, c3, rfl⟩ := own_slice hown2
      have hcv := run_str_of_bytes (P := Try.prog) w2 33 9 5 Try.underlying33 Try.underlying5 Try.underlying9 (c := c3) (Sl.of_own hown2)
      obtain ⟨s, HS⟩ : ∃ s, Hid (tx (enc m) = s) := ⟨_, rfl⟩
      rw [HS.out] at hcv
      have hown3 := own_later hown hb2
      have hb3 := below_then hb hb2
      have hsz3 := hb3.size
      clear hown2 hb2 hown hb
      go_wp2_with (at_builtin; refine wpList_append_own _ rfl _ _ 52 rfl w.heap.size 9 i0 (.string ByteArray.empty) 1 16 Try.underlying52 hi hz0 hz1 hz2 rfl (by decide) _ _ _ rfl (hown3.alloc _) ⟨w2.heap.size, 0, none⟩ 1 1 [.string s] rfl rfl (news_one _ _ _) (one_str _) (by unfold maxLen; omega) (by omega) (by simp; omega) ?_)
      intro v4 w4 hown4 hg4 _
      have hb4 : Below w.heap.size w w4 := (hb3.alloc hsz3 _).grown hg4 (by simp; omega) (fun g hg' => (hown3.lt g hg').1)
      rw [← HS.out, ← HO.out] at hown4
      clear hg4 hown3 hb3 hcv
      go_wp2_with fail
      go_roundw
      case rel => exact ⟨k + 1, by omega, by go_num, hown4, hb4⟩
      case measure => simp [intOf]; omega
    · obtain rfl : k = n := by omega
      rw [List.take_of_length_le (by rw [List.length_map, HL.out]; exact Nat.le_refl _)] at hown
      go_wp2_with fail
      go_ret
      exact ⟨_, rfl, hown, hb⟩
end Go.Proofs.Ytmnogefpphonlaa
/-
  Contracts: a header's bytes: the program's and the reference's.
-/
namespace Go.Proofs.Ytmnogefpphonlaa
open Go.RowKit

theorem digs_ok {l : List Int} (h : digs l = true) : ∀ x ∈ l, 0 ≤ x ∧ x ≤ 9223372036854775807 := fun x hx => by have := (digs_iff.1 h).1 x hx; omega
set_option maxRecDepth 100000 in
set_option maxHeartbeats 1000000 in
theorem wire_List {A : Option Addr} {n c : Nat} {l : List Int} (w : World) (hs : Sl w 1 A n (ints l)) (hn : n ≤ 1099511627776) (h0 : ∀ x ∈ l, 0 ≤ x ∧ x ≤ 9223372036854775807) (hb : (numsB l).length ≤ 1048576) {s : ByteArray} (hr : Hid (tx (numsB l) = s)) :
    Calls Try.prog 64 #[.slice A n c] w fun e w' => e = .returned (.string s) ∧ Below w.heap.size w w' := by
  have H0 := hide h0
  clear h0
  go_enter Try.func64, Try.ntmps64
  go_wp2_with fail
  refine (wire_Nums_yes _ hs hn H0.out hb).mono ?_
  rintro e w2 ⟨v2, rfl, hown2, hb2⟩
  obtain ⟨A3, c3, rfl⟩ := own_slice hown2
  have hcv := run_str_of_bytes (P := Try.prog) w2 33 9 5 Try.underlying33 Try.underlying5 Try.underlying9 (c := c3) (Sl.of_own hown2)
  rw [hr.out] at hcv
  clear hown2
  go_wp2_with fail
  go_ret
  exact ⟨rfl, hb2⟩
set_option maxRecDepth 100000 in
set_option maxHeartbeats 1000000 in
theorem header_Bytes_no {A1 A2 : Option Addr} {n1 c1 n2 c2 : Nat} (x : HdD) (w : World) (hs : Sl w 1 A1 n1 (ints x.bs)) (ht : Sl w 1 A2 n2 (ints x.ps)) (hn1 : n1 ≤ 9223372036854775807) (hn2 : n2 ≤ 9223372036854775807) (hr : Hid (formH 16 x = false)) :
    Calls Try.prog 61 #[hdV x.a x.r A1 n1 c1 A2 n2 c2] w fun e w' => e = .returned (.tuple #[.slice none 0 0, .int .i64 1]) ∧ Below w.heap.size w w' := by
  have hb0 := below_alloc' w (.cells #[.int .i64 x.a, .int .i64 x.r, .slice A1 n1 c1, .slice A2 n2 c2] 28)
  have HC := hide (header_form (c1 := c1) (c2 := c2) 16 x _ (hs.below hb0) (ht.below hb0) hn1 hn2 hr)
  have HB := hide hb0
  clear hb0 hs ht hr
  unfold hdV at HC ⊢
  go_enter Try.func61, Try.ntmps61
  go_wp2_with fail
  refine HC.out.mono ?_
  rintro e w1 ⟨rfl, hb1⟩
  have HB1 := hide (HB.out.trans (hb1.mono HB.out.size))
  clear hb1
  go_wp2_with fail
  go_ret2
  exact ⟨rfl, HB1.out⟩
set_option maxRecDepth 100000 in
set_option maxHeartbeats 4000000 in
theorem header_Bytes_yes {A1 A2 : Option Addr} {n1 c1 n2 c2 : Nat} (x : HdD) (w : World) (hs : Sl w 1 A1 n1 (ints x.bs)) (ht : Sl w 1 A2 n2 (ints x.ps)) (hr : Hid (formH 16 x = true)) :
    Calls Try.prog 61 #[hdV x.a x.r A1 n1 c1 A2 n2 c2] w fun e w' => ∃ v', e = .returned (.tuple #[v', .int .i64 0]) ∧ w'.ownsRow w.heap.size 5 1 v' (headerB x).length (bytes8 (headerB x)) ∧ Below w.heap.size w w' := by
  obtain ⟨h1, h2, h3, h4, h5, h6, h7⟩ := formH_iff.1 hr.out
  obtain ⟨z1, z2, z3, z4⟩ := header_size hr.out
  have hn1 : n1 ≤ 8 := by rw [← hs.ilen]; exact h3
  have hn2 : n2 ≤ 16 := by have := hs.ilen; have := ht.ilen; omega
  have HPB : Hid ((putB (headerT x)).length ≤ 1048576) := by have h : (headerB x).length ≤ 300 := z2; rw [headerB] at h; rw [Hid]; omega
  have D1 := hide (digs_ok h4)
  have D2 := hide (digs_ok h5)
  have L1 : Hid ((numsB x.bs).length ≤ 1048576) := by rw [Hid]; omega
  have L2 : Hid ((numsB x.ps).length ≤ 1048576) := by rw [Hid]; omega
  obtain ⟨S1, HS1⟩ : ∃ s, Hid (tx (numsB x.bs) = s) := ⟨_, rfl⟩
  obtain ⟨S2, HS2⟩ : ∃ s, Hid (tx (numsB x.ps) = s) := ⟨_, rfl⟩
  obtain ⟨⟨ha0, ha1⟩, ⟨hr0, hr1⟩⟩ := And.intro h1 h2
  clear h1 h2 h3 h4 h5 h6 h7 z1 z2 z3 z4
  obtain ⟨i0, hi, hz0, hz1, hz2⟩ := info_parts Try.infoStr
  have hb0 := below_alloc' w (.cells #[.int .i64 x.a, .int .i64 x.r, .slice A1 n1 c1, .slice A2 n2 c2] 28)
  have HBK := hide (Blk.new w 28 #[.int .i64 x.a, .int .i64 x.r, .slice A1 n1 c1, .slice A2 n2 c2])
  have HC := hide (header_form (c1 := c1) (c2 := c2) 16 x _ (hs.below hb0) (ht.below hb0) (by omega) (by omega) hr)
  have HB := hide hb0
  have HT : Hid (headerT x = [headerW, numS x.a, numS x.r, S1, S2]) := by rw [Hid, headerT, HS1.out, HS2.out]
  have HHB : Hid (headerB x = putB (headerT x)) := rfl
  obtain ⟨Tx, HTx⟩ : ∃ T, Hid (headerT x = T) := ⟨_, rfl⟩
  obtain ⟨Bx, HBx⟩ : ∃ T, Hid (headerB x = T) := ⟨_, rfl⟩
  rw [HTx.out] at HPB HT HHB
  rw [HBx.out] at HHB ⊢
  have HS := hide hs
  have HT' := hide ht
  clear hb0 hs ht hr HTx HBx
  obtain ⟨a, ra, bs, ps⟩ := x
  simp only at HBK HC HB HS HT' HT D1 D2 L1 L2 HS1 HS2 ha0 ha1 hr0 hr1 ⊢
  unfold hdV at HC ⊢
  go_enter Try.func61, Try.ntmps61
  go_wp2_with fail
  refine HC.out.mono ?_
  rintro e w1 ⟨rfl, hb1⟩
  have hk := HBK.out.later hb1
  have hbw := HB.out.trans (hb1.mono HB.out.size)
  have s1 := (HS.out.below HB.out).below hb1
  have s2 := (HT'.out.below HB.out).below hb1
  clear hb1 HC HBK HB HS HT'
  go_wp2_with fail
  obtain ⟨g, hg⟩ : ∃ g, w.heap.size = g := ⟨_, rfl⟩
  have hgw : w.heap.size < w1.heap.size := hk.lt
  have HX0 : Hid (∀ x ∈ [a, ra], 0 ≤ x ∧ x ≤ 9223372036854775807) := by intro x hx; simp at hx; omega
  have HG := hide hg
  rw [hg] at hk hgw ⊢
  clear hg
  have q0 : w1.cell? ⟨g, 0, none⟩ = some (.int .i64 a) := hk.at_ rfl
  have q1 : w1.cell? ⟨g, 1, none⟩ = some (.int .i64 ra) := hk.at_ rfl
  have q2 : w1.cell? ⟨g, 2, none⟩ = some (.slice A1 n1 c1) := hk.at_ rfl
  have q3 : w1.cell? ⟨g, 3, none⟩ = some (.slice A2 n2 c2) := hk.at_ rfl
  have hbc := Below.refl w1.heap.size w1
  (first | (go_region_held3 (fun w' => w'.cell? ⟨g, 0, none⟩ = some (.int .i64 a) ∧ w'.cell? ⟨g, 1, none⟩ = some (.int .i64 ra) ∧ w'.cell? ⟨g, 2, none⟩ = some (.slice A1 n1 c1) ∧ w'.cell? ⟨g, 3, none⟩ = some (.slice A2 n2 c2))
    (first | exact ⟨(hk.later (by first | exact hbc | exact hbc.drew | exact hbc.alloc hbc.size _ | exact (hbc.alloc hbc.size _).drew | exact ((hbc.alloc hbc.size _).alloc (by have := hbc.size; simp; try omega) _) | exact ((hbc.alloc hbc.size _).alloc (by have := hbc.size; simp; try omega) _).drew)).at_ rfl, (hk.later (by first | exact hbc | exact hbc.drew | exact hbc.alloc hbc.size _ | exact (hbc.alloc hbc.size _).drew | exact ((hbc.alloc hbc.size _).alloc (by have := hbc.size; simp; try omega) _) | exact ((hbc.alloc hbc.size _).alloc (by have := hbc.size; simp; try omega) _).drew)).at_ rfl, (hk.later (by first | exact hbc | exact hbc.drew | exact hbc.alloc hbc.size _ | exact (hbc.alloc hbc.size _).drew | exact ((hbc.alloc hbc.size _).alloc (by have := hbc.size; simp; try omega) _) | exact ((hbc.alloc hbc.size _).alloc (by have := hbc.size; simp; try omega) _).drew)).at_ rfl, (hk.later (by first | exact hbc | exact hbc.drew | exact hbc.alloc hbc.size _ | exact (hbc.alloc hbc.size _).drew | exact ((hbc.alloc hbc.size _).alloc (by have := hbc.size; simp; try omega) _) | exact ((hbc.alloc hbc.size _).alloc (by have := hbc.size; simp; try omega) _).drew)).at_ rfl⟩ | go_keep)
    ((first
      | (go_at_call 62; refine (wire_Texts _ (xs := [a, ra]) (Sl.two_int (by go_simp) (by go_simp)) (by omega) HX0.out).mono ?_; rintro e w6 ⟨v6, rfl, hown6, hb6⟩; obtain ⟨A6, c6, rfl⟩ := own_slice hown6; (try have k7 := ((Blk.new w1 9 #[.string ⟨#[104, 101, 97, 100, 101, 114]⟩]).alloc (.cells #[.int .i64 a, .int .i64 ra] 3)).drew.later hb6); (try have k7 := (Blk.new2 w1 (.cells #[.int .i64 a, .int .i64 ra] 3) 9 #[.string ⟨#[104, 101, 97, 100, 101, 114]⟩]).drew.later hb6); have hbc := below_then (by first | exact hbc | exact hbc.drew | exact hbc.alloc hbc.size _ | exact (hbc.alloc hbc.size _).drew | exact ((hbc.alloc hbc.size _).alloc (by have := hbc.size; simp; try omega) _) | exact ((hbc.alloc hbc.size _).alloc (by have := hbc.size; simp; try omega) _).drew) hb6)
      | (go_at_call 64; ((with_reducible refine (wire_List _ (s1.below (by first | exact hbc | exact hbc.drew | exact hbc.alloc hbc.size _ | exact (hbc.alloc hbc.size _).drew | exact ((hbc.alloc hbc.size _).alloc (by have := hbc.size; simp; try omega) _) | exact ((hbc.alloc hbc.size _).alloc (by have := hbc.size; simp; try omega) _).drew)) (by omega) D1.out L1.out HS1).mono ?_); rintro e w8 ⟨rfl, hb8⟩; have hbc := below_then (by first | exact hbc | exact hbc.drew | exact hbc.alloc hbc.size _ | exact (hbc.alloc hbc.size _).drew | exact ((hbc.alloc hbc.size _).alloc (by have := hbc.size; simp; try omega) _) | exact ((hbc.alloc hbc.size _).alloc (by have := hbc.size; simp; try omega) _).drew) hb8; have own14 := own_later own14 hb8))
      | (go_at_call 64; ((with_reducible refine (wire_List _ (s2.below (by first | exact hbc | exact hbc.drew | exact hbc.alloc hbc.size _ | exact (hbc.alloc hbc.size _).drew | exact ((hbc.alloc hbc.size _).alloc (by have := hbc.size; simp; try omega) _) | exact ((hbc.alloc hbc.size _).alloc (by have := hbc.size; simp; try omega) _).drew)) (by omega) D2.out L2.out HS2).mono ?_); rintro e w8 ⟨rfl, hb8⟩; have hbc := below_then (by first | exact hbc | exact hbc.drew | exact hbc.alloc hbc.size _ | exact (hbc.alloc hbc.size _).drew | exact ((hbc.alloc hbc.size _).alloc (by have := hbc.size; simp; try omega) _) | exact ((hbc.alloc hbc.size _).alloc (by have := hbc.size; simp; try omega) _).drew) hb8; have own14 := own_later own14 hb8))
      | (go_at_call 63; refine (wire_Put _ (Sl.of_own own15) (by omega) HPB.out).mono ?_; rintro e w9 ⟨v9, rfl, own16, hb9⟩; have hz15 := hbc.size; have hbc := below_then hbc hb9)
      | (have _tok := own14; refine step_append_any _ (by rfl) (.tmp 14) (.tmp 21) _ (by rfl) w1.heap.size 9 i0 (.string ByteArray.empty) 1 16 Try.underlying52 hi hz0 hz1 hz2 (by rfl) (by omega) (.slice A7 3 c7) 3 (strs [headerW, numS a, numS ra]) (by rfl) (own14.alloc _) _ 2 2 (strs [S1, S2]) (by rfl) (Sl.two_str (by go_simp) (by go_simp)) (strs_one _) (by unfold maxLen; omega) (by omega) (by have := hbc.size; simp; omega) ?_; intro v15 w15 hown15 hg15; have hbc : Below w1.heap.size w1 w15 := (hbc.alloc hbc.size _).grown hg15 (by have := hbc.size; simp; omega) (fun g hg' => (own14.lt g hg').1); have own15 : w15.ownsRow w1.heap.size 9 1 v15 5 (strs Tx) := (by rw [HT.out]; exact hown15); obtain ⟨A15, c15, rfl⟩ := own_slice own15)
      | (have _tok := hown6; refine step_append_any _ (by rfl) (.tmp 7) (.tmp 13) _ (by rfl) w1.heap.size 9 i0 (.string ByteArray.empty) 1 16 Try.underlying52 hi hz0 hz1 hz2 (by rfl) (by omega) _ 1 (strs [headerW]) (by rfl) (own_of_blk (base := w1.heap.size) (size := 1) (n := 1) (cs := #[.string ⟨#[104, 101, 97, 100, 101, 114]⟩]) (by first | exact k7 | exact Blk.new _ _ _) (by have := hbc.size; simp; try omega) rfl (by omega)) A6 2 c6 (strs ([a, ra].map numS)) (by rfl) (by first | exact Sl.of_own hown6 | exact (Sl.of_own hown6).alloc _) (strs_one _) (by unfold maxLen; omega) (by omega) (by have := hbc.size; simp; try omega) ?_; intro v7 w7 hown7 hg7; have own14 : w7.ownsRow w1.heap.size 9 1 v7 3 (strs [headerW, numS a, numS ra]) := hown7; obtain ⟨A7, c7, rfl⟩ := own_slice own14; have hbc : Below w1.heap.size w1 w7 := Below.grown (by first | exact hbc | exact hbc.drew | exact hbc.alloc hbc.size _ | exact (hbc.alloc hbc.size _).drew | exact ((hbc.alloc hbc.size _).alloc (by have := hbc.size; simp; try omega) _) | exact ((hbc.alloc hbc.size _).alloc (by have := hbc.size; simp; try omega) _).drew) hg7 (by have := hbc.size; simp; try omega) (fun g hg' => by have := hbc.size; simp [Value.ownBlock] at hg'; omega))
      | fail)))  | fail)
  all_goals
    have HBF := hide (hbw.trans (hbc.mono hbw.size))
    have hz9 := hbc.size
    have hzw := hbw.size
    rw [← HHB.out] at own16
    have OWF := hide (own_mono (base' := w.heap.size) own16 (by omega))
    go_wp2_with fail
    go_ret2
    exact ⟨_, rfl, OWF.out, HBF.out⟩
end Go.Proofs.Ytmnogefpphonlaa
/-
  Contracts: a batch's bytes: the program's.
-/
namespace Go.Proofs.Ytmnogefpphonlaa
open Go.RowKit
attribute [local go_sem ↓] Go.wp_at_zero Go.wp_at_succ

theorem tx_cells {w : World} {g : Nat} {s q : Int} {k v : ByteArray} (h : Blk w g 87 #[.int .i64 s, .int .i64 q, .string k, .string v]) :
    w.cell? ⟨g, 0, none⟩ = some (.int .i64 s) ∧ w.cell? ⟨g, 1, none⟩ = some (.int .i64 q) ∧ w.cell? ⟨g, 2, none⟩ = some (.string k) ∧ w.cell? ⟨g, 3, none⟩ = some (.string v) := ⟨h.at_ rfl, h.at_ rfl, h.at_ rfl, h.at_ rfl⟩
set_option maxRecDepth 100000 in
set_option maxHeartbeats 1000000 in
theorem batch_Bytes_no {A : Option Addr} {m c : Nat} {l : List TxD} (a n : Int) (w : World) (hs : Sl w 4 A m (txsC l)) (hn : m ≤ 9223372036854775807) (hz : TxZ l) (hr : mayB a n l = false) :
    Calls Try.prog 60 #[batchV a n A m c] w fun e w' => e = .returned (.tuple #[.slice none 0 0, .int .i64 1]) ∧ Below w.heap.size w w' := by
  have hb0 := below_alloc w (.cells #[.int .i64 a, .int .i64 n, .slice A m c] 25)
  have HC := hide (batch_May (c := c) a n _ (hs.below hb0) hn hz hr)
  have HB := hide hb0
  clear hb0 hz hs hr
  unfold batchV at HC ⊢
  go_enter Try.func60, Try.ntmps60
  go_wp2_with fail
  refine HC.out.mono ?_
  rintro e w1 ⟨rfl, hb1⟩
  have HB1 := hide (HB.out.trans (hb1.mono HB.out.size))
  clear hb1
  go_wp2_with fail
  go_ret2
  exact ⟨rfl, HB1.out⟩
set_option maxRecDepth 100000 in
set_option maxHeartbeats 4000000 in
theorem batch_Bytes_yes {A : Option Addr} {m c : Nat} {l : List TxD} (a n : Int) (w : World) (hs : Sl w 4 A m (txsC l)) (hz : TxZ l) (hr : mayB a n l = true) :
    Calls Try.prog 60 #[batchV a n A m c] w fun e w' => ∃ v', e = .returned (.tuple #[v', .int .i64 0]) ∧ w'.ownsRow w.heap.size 5 1 v' (batchB a n l).length (bytes8 (batchB a n l)) ∧ Below w.heap.size w w' := by
  have hall := mayB_iff.1 hr
  have hsz := batch_size hr
  have HL := hide hs.txlen
  have hm : m ≤ 8 := by rw [← HL.out]; exact hall.2.2.1.2
  have hm1 : 1 ≤ m := by rw [← HL.out]; exact hall.2.2.1.1
  obtain ⟨ha0, ha1⟩ := hall.1
  obtain ⟨hn0, hn1⟩ := hall.2.1
  have HT := hide hall.2.2.2
  have HSZ := hide hsz
  clear hall hsz
  obtain ⟨i0, hi, hz0, hz1, hz2⟩ := info_parts Try.infoStr
  have hb0 := below_alloc w (.cells #[.int .i64 a, .int .i64 n, .slice A m c] 25)
  have HBK := hide (Blk.new w 25 #[.int .i64 a, .int .i64 n, .slice A m c])
  have HC := hide (batch_May (c := c) a n _ (hs.below hb0) (by omega) hz hr)
  have HB := hide hb0
  have HS := hide hs
  clear hb0 hz hs hr
  unfold batchV at HC ⊢
  go_enter Try.func60, Try.ntmps60
  go_wp2_with fail
  refine HC.out.mono ?_
  rintro e w1 ⟨rfl, hb1⟩
  have HK := hide (HBK.out.later hb1)
  have HB1 := hide (HB.out.trans (hb1.mono HB.out.size))
  have hgw : w.heap.size < w1.heap.size := HK.out.lt
  have c0 : w1.cell? ⟨w.heap.size, 0, none⟩ = some (.int .i64 a) := HK.out.at_ rfl
  have c1 : w1.cell? ⟨w.heap.size, 1, none⟩ = some (.int .i64 n) := HK.out.at_ rfl
  clear hb1 HC HBK HB
  have kb : Blk (w1.alloc (.cells #[.string ⟨#[98, 97, 116, 99, 104]⟩] 9)) w1.heap.size 9 #[.string ⟨#[98, 97, 116, 99, 104]⟩] := Blk.new _ _ _
  have kn := Blk.new2 w1 (.cells #[.string ⟨#[98, 97, 116, 99, 104]⟩] 9) 3 #[.int .i64 a, .int .i64 n]
  have hsn : Sl _ 1 _ 2 (ints [a, n]) := Sl.of_blk (size := 1) (n := 2) kn rfl
  have hown0 := own_of_blk (base := w.heap.size) (size := 1) (n := 1) (kb.alloc (.cells #[.int .i64 a, .int .i64 n] 3)) (by omega) rfl (by omega)
  have hbl := (HB1.out.alloc HB1.out.size (.cells #[.string ⟨#[98, 97, 116, 99, 104]⟩] 9)).alloc (by simp; omega) (.cells #[.int .i64 a, .int .i64 n] 3)
  have HX0 : Hid (∀ x ∈ [a, n], 0 ≤ x ∧ x ≤ 9223372036854775807) := by intro x hx; simp at hx; omega
  clear kb kn
  go_wp2_with fail
  refine (wire_Texts _ hsn (by omega) HX0.out).mono ?_
  rintro e w2 ⟨v2, rfl, hown2, hb2⟩
  have hown3 := own_later hown0 hb2
  have hbx := hb2.size
  simp at hbx
  have hb3 := hbl.trans (hb2.mono (by simp; omega))
  obtain ⟨A2, c2, rfl⟩ := own_slice hown2
  have hs2 := Sl.of_own hown2
  have HK2 := hide ((HK.out.alloc (.cells #[.string ⟨#[98, 97, 116, 99, 104]⟩] 9)).alloc (.cells #[.int .i64 a, .int .i64 n] 3) |>.later hb2)
  clear hown0 hown2 hb2 hbl hsn
  go_wp2_with (at_builtin; refine wpList_append_any _ rfl _ _ 52 rfl w.heap.size 9 i0 (.string ByteArray.empty) 1 16 Try.underlying52 hi hz0 hz1 hz2 rfl (by decide) _ _ _ rfl hown3 A2 2 c2 (strs ([a, n].map numS)) rfl hs2 (strs_one _) (by unfold maxLen; omega) (by omega) (by omega) ?_)
  intro v4 w4 hown4 hg4
  have hk4 := HK2.out.grown hg4 (Ne.symm (own_blk_ne hown3 HK2.out (by decide)))
  have c2' : w4.cell? ⟨w.heap.size, 2, none⟩ = some (.slice A m c) := hk4.at_ rfl
  have hb4 : Below w.heap.size w w4 := hb3.grown hg4 (by omega) (fun g hg' => (hown3.lt g hg').1)
  have HO4 : Hid (w4.ownsRow w.heap.size 9 1 v4 [batchW, numS a, numS n].length (strs [batchW, numS a, numS n])) := hown4
  clear hown4 hg4 hown3 hb3 hs2 HK2 hk4 c0 c1
  go_wp2_with fail
  go_loopw [4, 21] (fun b i wr => ∃ (k : Nat) (ys : List ByteArray), k ≤ m ∧ i = .int .i64 k ∧ Hid (ys = batchW :: numS a :: numS n :: (l.take k).flatMap txT) ∧ ys.length ≤ 3 + 4 * k ∧ wr.ownsRow w.heap.size 9 1 b ys.length (strs ys) ∧ Below w.heap.size w wr) (fun _ i _ => m - (intOf i).toNat)
  case atStart => exact ⟨0, _, Nat.zero_le _, rfl, rfl, by simp, HO4.out, hb4⟩
  case round =>
    obtain ⟨k, ys, hk, rfl, HY, hyl, hown, hb⟩ := hrel
    obtain ⟨wo, rfl⟩ : ∃ wo : World, wo = wr := ⟨_, rfl⟩
    have hsz := hb.size
    clear hb4 HO4 c2'
    obtain ⟨A5, c5, rfl⟩ := own_slice hown
    by_cases hlt : k < m
    · obtain ⟨b, off, t, rfl, HU, q0, q1, q2, q3, _⟩ := (HS.out.below hb).tx hlt
      have htx := mayTx_iff.1 (HT.out t (List.mem_of_getElem? HU.out))
      obtain ⟨s, q, tk, tv⟩ := t
      obtain ⟨⟨hs0, hs1⟩, ⟨hq0, hq1⟩, _, _⟩ := htx
      simp only at q0 q1 q2 q3 hs0 hs1 hq0 hq1
      have HX2 : Hid (∀ x ∈ [s, q], 0 ≤ x ∧ x ≤ 9223372036854775807) := by intro x hx; simp at hx; omega
      go_wp2_with fail
      have kt := Blk.new wo 87 #[.int .i64 s, .int .i64 q, .string tk, .string tv]
      have ownt := hown.alloc (.cells #[.int .i64 s, .int .i64 q, .string tk, .string tv] 87)
      have hbt : Below w.heap.size w (wo.alloc (.cells #[.int .i64 s, .int .i64 q, .string tk, .string tv] 87)) := hb.alloc hsz _
      generalize wo.alloc (.cells #[.int .i64 s, .int .i64 q, .string tk, .string tv] 87) = wt at kt ownt hbt ⊢
      obtain ⟨gt, hgt⟩ : ∃ gt, wo.heap.size = gt := ⟨_, rfl⟩
      rw [hgt] at kt ⊢
      have hsz' := hbt.size
      have k0 : wt.cell? ⟨gt, 0, none⟩ = some (.int .i64 s) := kt.at_ rfl
      have k1 : wt.cell? ⟨gt, 1, none⟩ = some (.int .i64 q) := kt.at_ rfl
      have k2 : wt.cell? ⟨gt, 2, none⟩ = some (.string tk) := kt.at_ rfl
      have k3 : wt.cell? ⟨gt, 3, none⟩ = some (.string tv) := kt.at_ rfl
      clear hown hb q0 q1 q2 q3 hgt
      go_region_held3 (fun w' => w'.cell? ⟨gt, 0, none⟩ = some (.int .i64 s) ∧ w'.cell? ⟨gt, 1, none⟩ = some (.int .i64 q) ∧ w'.cell? ⟨gt, 2, none⟩ = some (.string tk) ∧ w'.cell? ⟨gt, 3, none⟩ = some (.string tv))
        (first | exact tx_cells kt8 | exact tx_cells kt7 | exact tx_cells (kt7.alloc _) | exact tx_cells kt6 | exact tx_cells (kt6.alloc _) | go_keep)
        ((first
          | (go_at_call 62; refine (wire_Texts _ (xs := [s, q]) (Sl.two_int (by go_simp) (by go_simp)) (by omega) HX2.out).mono ?_; rintro e w6 ⟨v6, rfl, hown6, hb6⟩; obtain ⟨A6, c6, rfl⟩ := own_slice hown6; have own6 : w6.ownsRow w.heap.size 9 1 (.slice A5 ys.length c5) ys.length (strs ys) := own_later (by first | exact ownt.alloc _ | exact (ownt.alloc _).alloc _) hb6; have hbc : Below wt.heap.size wt w6 := Below.trans (by first | exact (((Below.refl _ _).alloc (Nat.le_refl _) _).drew) | exact ((((Below.refl _ _).alloc (Nat.le_refl _) _).alloc (by simp) _).drew)) (hb6.mono (by simp; try omega)); have kt6 := kt.later hbc; have hb6' := hbt.trans (hbc.mono hsz'); have hsz6 := hb6'.size)
          | (have _tok := hown7; refine step_append_any _ (by rfl) (.tmp 32) (.tmp 37) _ (by rfl) w.heap.size 9 i0 (.string ByteArray.empty) 1 16 Try.underlying52 hi hz0 hz1 hz2 (by rfl) (by omega) (.slice A7 (ys.length + 2) c7) (ys.length + 2) (strs ys ++ strs [numS s, numS q]) (by rfl) (by first | exact hown7 | exact hown7.alloc _) _ 2 2 (strs [tk, tv]) (by rfl) (by first | (refine Sl.two_str ?_ ?_ <;> (go_simp; done)) | (refine Sl.grown_old (Sl.below (Sl.two_str ?_ ?_) hb6) hg7 (B := wt.heap.size) ?_ (fun g hg' => (ownt.lt g hg').2) <;> first | (go_simp; done) | (intro b off e; injection e with e; injection e; omega)) | (refine Sl.grown_old (Sl.two_str ?_ ?_) hg7 (B := wt.heap.size) ?_ (fun g hg' => (ownt.lt g hg').2) <;> first | (go_simp; done) | (intro b off e; injection e with e; injection e; have := hbc.size; omega))) (strs_one _) (by unfold maxLen; omega) (by omega) (by first | exact hsz7 | (simp; omega)) ?_; intro v8 w8 hown8 hg8; have hb8 : Below w.heap.size w w8 := (by first | exact hb7.grown hg8 (by omega) (fun g hg' => (hown7.lt g hg').1) | exact (hb7.alloc hsz7 _).grown hg8 (by simp; omega) (fun g hg' => (hown7.lt g hg').1)); have kt8 : Blk w8 gt 87 #[.int .i64 s, .int .i64 q, .string tk, .string tv] := (by first | exact kt7.grown hg8 (Ne.symm (own_blk_ne hown7 kt7 (by decide))) | exact (kt7.alloc _).grown hg8 (Ne.symm (own_blk_ne hown7 kt7 (by decide)))))
          | (have _tok := hown6; refine step_append_any _ (by rfl) (.tmp 25) (.tmp 31) _ (by rfl) w.heap.size 9 i0 (.string ByteArray.empty) 1 16 Try.underlying52 hi hz0 hz1 hz2 (by rfl) (by omega) (.slice A5 ys.length c5) ys.length (strs ys) (by rfl) (by first | exact own6 | exact own6.alloc _) A6 2 c6 (strs [numS s, numS q]) (by rfl) (by first | exact Sl.of_own hown6 | exact (Sl.of_own hown6).alloc _) (strs_one _) (by unfold maxLen; omega) (by omega) (by first | exact hsz6 | (simp; omega)) ?_; intro v7 w7 hown7 hg7; obtain ⟨A7, c7, rfl⟩ := own_slice hown7; have hb7 : Below w.heap.size w w7 := (by first | exact hb6'.grown hg7 (by omega) (fun g hg' => (own6.lt g hg').1) | exact (hb6'.alloc hsz6 _).grown hg7 (by simp; omega) (fun g hg' => (own6.lt g hg').1)); have kt7 : Blk w7 gt 87 #[.int .i64 s, .int .i64 q, .string tk, .string tv] := (by first | exact kt6.grown hg7 (Ne.symm (own_blk_ne own6 kt6 (by decide))) | exact (kt6.alloc _).grown hg7 (Ne.symm (own_blk_ne own6 kt6 (by decide)))); have hsz7 := hb7.size)
          | fail))
      all_goals
        have own9 : w8.ownsRow w.heap.size 9 1 v8 (ys ++ txT ⟨s, q, tk, tv⟩).length (strs (ys ++ txT ⟨s, q, tk, tv⟩)) := by
          have e : strs (ys ++ txT ⟨s, q, tk, tv⟩) = strs ys ++ strs [numS s, numS q] ++ strs [tk, tv] := by simp [strs, txT]
          rw [e, List.length_append]; exact hown8
        have HY2 : Hid (ys ++ txT ⟨s, q, tk, tv⟩ = batchW :: numS a :: numS n :: (l.take (k + 1)).flatMap txT) := by
          rw [Hid, take_at HU.out, HY.out, List.flatMap_append]; simp
        have hyl2 : (ys ++ txT ⟨s, q, tk, tv⟩).length ≤ 3 + 4 * (k + 1) := by rw [List.length_append]; simp [txT]; omega
        clear hown8 hg8 kt8 hown7 hg7 kt7 own6 hown6 hb6 hbc kt6 hb6' hb7 kt ownt hbt k0 k1 k2 k3
        go_wp2_with fail
        go_roundw
        case rel => exact ⟨k + 1, _, by omega, by go_num, HY2, hyl2, own9, hb8⟩
        case measure => simp [intOf]; omega
    · obtain rfl : k = m := by omega
      have HF : Hid (ys = batchT a n l) := by
        have := HY.out
        rw [List.take_of_length_le (by rw [HL.out]; exact Nat.le_refl _)] at this
        exact this
      have hPB : (putB ys).length ≤ 1048576 := by rw [HF.out]; have := HSZ.out.2; rw [batchB] at this; omega
      go_wp2_with fail
      refine (wire_Put _ (Sl.of_own hown) (by omega) hPB).mono ?_
      rintro e w6 ⟨v6, rfl, hown6, hb6⟩
      have hb7 := below_then hb hb6
      have hown7 := own_mono hown6 hsz
      clear hown6 hb6 hown
      go_wp2_with fail
      go_ret2
      refine ⟨_, rfl, ?_, hb7⟩
      rw [batchB, ← HF.out]
      exact hown7
end Go.Proofs.Ytmnogefpphonlaa
/-
  Conversions between bytes and texts, once more: with their bounds; over any program.
-/
namespace Go.Proofs.Ytmnogefpphonlaa
open Go.RowKit

theorem conv_is {P : Program} {w : World} {src dst e : TypeId} (hs : P.underlying src = some (.slice e)) (he : P.underlying e = some (.int .u8)) (hd : P.underlying dst = some .string) {A : Option Addr} {n c : Nat} {bs : List UInt8}
    (hsl : Sl w 1 A n (bytes8 bs)) {s : ByteArray} (h : Hid (tx bs = s)) : (convert src dst (.slice A n c)).run P w = .ok (.string s) w := by
  rw [← h.out]; exact run_str_of_bytes w src dst e hs he hd hsl
/-- A text as new bytes: how much room there is. -/
theorem conv_bytes2 {P : Program} (w : World) (src dst e : TypeId) (s : ByteArray) (hs : P.underlying src = some .string) (hd : P.underlying dst = some (.slice e)) (he : P.underlying e = some (.int .u8)) (hz : s.size ≤ 9223372036854775807) :
    ∃ (cap : Nat) (w4 : World), (convert src dst (.string s)).run P w = .ok (.slice (some ⟨w.heap.size, 0, none⟩) s.size cap) w4 ∧ Sl w4 1 (some ⟨w.heap.size, 0, none⟩) s.size (bytes8 s.data.toList) ∧ Below w.heap.size w w4 ∧ s.size ≤ cap ∧ cap ≤ 9223372036854775807 := by
  obtain ⟨cap, w4, h1, h2, h3⟩ := conv_bytes (P := P) w src dst e s hs hd he
  have h4 := run_bytes_of_string (P := P) w src dst e s hs hd he
  rw [h1] at h4
  injection h4 with h4 h5
  injection h4 with _ _ h6
  have g1 := grownCap_ge w s.size 0 e
  have g2 := grownCap_le_maxLen w s.size 0 e (by unfold maxLen; omega)
  unfold maxLen at g2
  exact ⟨cap, w4, h1, h2, h3, by omega, by omega⟩
theorem cell_grown2 {w w' : World} {p : Addr} {v : Value} {g : Nat} (h : w.grownBy w' (some g)) (c : w.cell? p = some v) (hne : p.block ≠ g) : w'.cell? p = some v := by
  rw [World.cell?_of_block (a := p) (h.block p.block (lt_of_cell c) (by intro e; injection e with e; exact hne e))]
  exact c
end Go.Proofs.Ytmnogefpphonlaa
/-
  Contracts: message.Check, message.lay, message.Encode.
-/
namespace Go.Proofs.Ytmnogefpphonlaa
open Go.RowKit

set_option maxRecDepth 100000 in
set_option maxHeartbeats 1000000 in
theorem message_Check (n : Int) (x : MsD) (v : MsV) (w : World) (HS : Hid (MsS w x v)) (HZ : Hid (MsZ x v)) {C : Array Value} (HC : Hid (C = msC x v)) {r : Bool} (hr : Hid (mayM n x = r)) :
    Calls Try.prog 25 #[.agg C, .int .i64 n] w fun e w' => e = .returned (.int .i64 (formE r)) ∧ Below w.heap.size w w' := by
  have ka := Blk.new w 32 C
  have HB := hide (below_alloc' w (.cells C 32))
  have HCS : Hid (C.size = 18) := by rw [Hid, HC.out]; rfl
  have CM := hide (message_May n x v _ (hide (HS.out.below HB.out)) HZ HC hr)
  clear HS HC
  go_enter Try.func25, Try.ntmps25
  go_wp2_with (refine wpList_load_blk rfl 32 (.tmp 2) rfl _ rfl 32 C _ ka Try.underlying32 rfl (by rw [HCS.out]; exact Try.infoMsg) ?_)
  refine CM.out.mono ?_
  rintro e w1 ⟨rfl, hb1⟩
  have HB1 := hide (below_then HB.out hb1)
  clear hb1
  cases r
  all_goals
    go_wp2_with fail
    go_ret
    exact ⟨rfl, HB1.out⟩
/-- Bytes and an error, in new memory. -/
def BytesOf (l : List UInt8) (w : World) (e : Ending) (w' : World) : Prop := ∃ A n c er, e = .returned (.tuple #[.slice A n c, .int .i64 er]) ∧ Sl w' 1 A n (bytes8 l) ∧ Below w.heap.size w w'
theorem batch_btB {A : Option Addr} {m c : Nat} (x : BtD) (w : World) (hs : Sl w 4 A m (txsC x.l)) (hm : m ≤ 9223372036854775807) (hz : TxZ x.l) :
    Calls Try.prog 60 #[.agg #[.int .i64 x.a, .int .i64 x.n, .slice A m c]] w (BytesOf (btB x) w) := by
  unfold btB
  cases h : mayB x.a x.n x.l with
  | true =>
    refine (batch_Bytes_yes x.a x.n w hs hz h).mono ?_
    rintro e w' ⟨v', rfl, ho, hb⟩
    obtain ⟨A', c', rfl⟩ := own_slice ho
    exact ⟨A', _, c', 0, rfl, by simpa using Sl.of_own ho, hb⟩
  | false =>
    refine (batch_Bytes_no x.a x.n w hs hm hz h).mono ?_
    rintro e w' ⟨rfl, hb⟩
    exact ⟨none, 0, 0, 1, rfl, (Sl.nil_ : Sl w' 1 none 0 []), hb⟩
theorem header_hdB {A1 A2 : Option Addr} {n1 c1 n2 c2 : Nat} (x : HdD) (w : World) (hs : Sl w 1 A1 n1 (ints x.bs)) (ht : Sl w 1 A2 n2 (ints x.ps)) (hn1 : n1 ≤ 9223372036854775807) (hn2 : n2 ≤ 9223372036854775807) :
    Calls Try.prog 61 #[.agg #[.int .i64 x.a, .int .i64 x.r, .slice A1 n1 c1, .slice A2 n2 c2]] w (BytesOf (hdB x) w) := by
  unfold hdB
  cases h : formH 16 x with
  | true =>
    refine (header_Bytes_yes x w hs ht h).mono ?_
    rintro e w' ⟨v', rfl, ho, hb⟩
    obtain ⟨A', c', rfl⟩ := own_slice ho
    exact ⟨A', _, c', 0, rfl, by simpa using Sl.of_own ho, hb⟩
  | false =>
    refine (header_Bytes_no x w hs ht hn1 hn2 h).mono ?_
    rintro e w' ⟨rfl, hb⟩
    exact ⟨none, 0, 0, 1, rfl, (Sl.nil_ : Sl w' 1 none 0 []), hb⟩
set_option maxRecDepth 100000 in
set_option maxHeartbeats 2000000 in
theorem message_lay (x : MsD) (v : MsV) (w : World) (HS : Hid (MsS w x v)) (HZ : Hid (MsZ x v)) {C : Array Value} (HC : Hid (C = msC x v)) (HGD : Hid (Good x)) :
    Calls Try.prog 34 #[.agg C] w fun e w' => ∃ v', e = .returned v' ∧ w'.ownsRow w.heap.size 5 1 v' (msgB x).length (bytes8 (msgB x)) ∧ Below w.heap.size w w' := by
  obtain ⟨i0, hi, hz0, hz1, hz2⟩ := info_parts Try.infoStr
  have HKA := hide (Blk.new w 32 C)
  have HB := hide (below_alloc' w (.cells C 32))
  have HS1 := hide (HS.out.below HB.out)
  have hsz := msg_size HGD.out
  have HSZ := hide hsz
  clear hsz
  obtain ⟨g, hg⟩ : ∃ g, w.heap.size = g := ⟨_, rfl⟩
  have HG := hide hg
  have c4 : (w.alloc (.cells C 32)).cell? ⟨w.heap.size, 4, none⟩ = some (.int .i64 x.b.a) := HKA.out.at_ (by rw [HC.out]; rfl)
  have c5 : (w.alloc (.cells C 32)).cell? ⟨w.heap.size, 5, none⟩ = some (.int .i64 x.b.n) := HKA.out.at_ (by rw [HC.out]; rfl)
  have c6 : (w.alloc (.cells C 32)).cell? ⟨w.heap.size, 6, none⟩ = some (.slice v.tx.A v.tx.n v.tx.c) := HKA.out.at_ (by rw [HC.out]; rfl)
  clear HS hg
  go_enter Try.func34, Try.ntmps34
  go_upto_region 1 with fail
  generalize w.alloc (.cells C 32) = w1 at HKA HB HS1 c4 c5 c6 ⊢
  rw [HG.out] at HKA c4 c5 c6 ⊢
  go_wp2_with fail
  refine (batch_btB x.b _ HS1.out.tx HZ.out.tx HZ.out.txz).mono ?_
  rintro e w2 ⟨A3, n3, c3, er3, rfl, s3, hb2⟩
  have HB2 := hide (below_then HB.out hb2)
  have HK2 := hide (HKA.out.later hb2)
  have HS2 := hide (HS1.out.below hb2)
  have HT3 := hide s3
  clear hb2 s3 c4 c5 c6 HB HKA HS1
  have c7 : w2.cell? ⟨g, 7, none⟩ = some (.int .i64 x.h.a) := HK2.out.at_ (by rw [HC.out]; rfl)
  have c8 : w2.cell? ⟨g, 8, none⟩ = some (.int .i64 x.h.r) := HK2.out.at_ (by rw [HC.out]; rfl)
  have c9 : w2.cell? ⟨g, 9, none⟩ = some (.slice v.hb.A v.hb.n v.hb.c) := HK2.out.at_ (by rw [HC.out]; rfl)
  have c10 : w2.cell? ⟨g, 10, none⟩ = some (.slice v.hp.A v.hp.n v.hp.c) := HK2.out.at_ (by rw [HC.out]; rfl)
  go_wp2_with fail
  refine (header_hdB x.h _ HS2.out.hb HS2.out.hp HZ.out.hb HZ.out.hp).mono ?_
  rintro e w3 ⟨A5, n5, c5, er5, rfl, s5, hb3⟩
  have HB3 := hide (below_then HB2.out hb3)
  have HK3 := hide (HK2.out.later hb3)
  have HS3 := hide (HS2.out.below hb3)
  have HT3b := hide (HT3.out.below hb3)
  have HT5 := hide s5
  clear hb3 s5 c7 c8 c9 c10 HB2 HK2 HS2 HT3
  have c11 : w3.cell? ⟨g, 11, none⟩ = some (.int .i64 x.c.h.a) := HK3.out.at_ (by rw [HC.out]; rfl)
  have c12 : w3.cell? ⟨g, 12, none⟩ = some (.int .i64 x.c.h.r) := HK3.out.at_ (by rw [HC.out]; rfl)
  have c13 : w3.cell? ⟨g, 13, none⟩ = some (.slice v.cb.A v.cb.n v.cb.c) := HK3.out.at_ (by rw [HC.out]; rfl)
  have c14 : w3.cell? ⟨g, 14, none⟩ = some (.slice v.cp.A v.cp.n v.cp.c) := HK3.out.at_ (by rw [HC.out]; rfl)
  go_wp2_with fail
  refine (header_hdB x.c.h _ HS3.out.cb HS3.out.cp HZ.out.cb HZ.out.cp).mono ?_
  rintro e w4 ⟨A7, n7, c7, er7, rfl, s7, hb4⟩
  have HB4 := hide (below_then HB3.out hb4)
  have HK4 := hide (HK3.out.later hb4)
  have HS4 := hide (HS3.out.below hb4)
  have HT3c := hide (HT3b.out.below hb4)
  have HT5c := hide (HT5.out.below hb4)
  have HT7 := hide s7
  clear hb4 s7 c11 c12 c13 c14 HB3 HK3 HS3 HT3b HT5
  have c0 : w4.cell? ⟨g, 0, none⟩ = some (.int .i64 x.k) := HK4.out.at_ (by rw [HC.out]; rfl)
  have c1 : w4.cell? ⟨g, 1, none⟩ = some (.int .i64 x.f) := HK4.out.at_ (by rw [HC.out]; rfl)
  have c2 : w4.cell? ⟨g, 2, none⟩ = some (.int .i64 x.t) := HK4.out.at_ (by rw [HC.out]; rfl)
  have c3' : w4.cell? ⟨g, 3, none⟩ = some (.int .i64 x.d) := HK4.out.at_ (by rw [HC.out]; rfl)
  have c15 : w4.cell? ⟨g, 15, none⟩ = some (.int .i64 x.c.d) := HK4.out.at_ (by rw [HC.out]; rfl)
  go_wp2_with fail
  have HXS : Hid (∀ z ∈ [x.k, x.f, x.t, x.d, x.c.d], 0 ≤ z ∧ z ≤ 9223372036854775807) := by
    intro z hz
    have h1 := HGD.out.k
    have h2 := HGD.out.f
    have h3 := HGD.out.t
    have h4 := HGD.out.d
    have h5 := HGD.out.cd
    simp at hz
    rcases hz with rfl | rfl | rfl | rfl | rfl <;> omega
  refine (wire_Texts _ (xs := [x.k, x.f, x.t, x.d, x.c.d]) (Sl.of_blk (size := 1) (n := 5) (Blk.new w4 3 #[.int .i64 x.k, .int .i64 x.f, .int .i64 x.t, .int .i64 x.d, .int .i64 x.c.d]) rfl) (by omega) HXS.out).mono ?_
  rintro e w5 ⟨v5, rfl, own5, hb5'⟩
  obtain ⟨A9, c9, rfl⟩ := own_slice own5
  have hb5 := below_then (below_alloc' w4 (.cells #[.int .i64 x.k, .int .i64 x.f, .int .i64 x.t, .int .i64 x.d, .int .i64 x.c.d] 3)) hb5'
  have own9 : w5.ownsRow w4.heap.size 9 1 (.slice A9 5 c9) 5 (strs ([x.k, x.f, x.t, x.d, x.c.d].map numS)) := own_mono own5 (by simp)
  have HB45 := hide hb5
  clear hb5 hb5' own5 c0 c1 c2 c3' c15
  go_upto_region 5 with fail
  obtain ⟨S3, HS3⟩ : ∃ s, Hid (tx (btB x.b) = s) := ⟨_, rfl⟩
  obtain ⟨S5, HS5'⟩ : ∃ s, Hid (tx (hdB x.h) = s) := ⟨_, rfl⟩
  obtain ⟨S7, HS7⟩ : ∃ s, Hid (tx (hdB x.c.h) = s) := ⟨_, rfl⟩
  obtain ⟨S8, HS8⟩ : ∃ s, Hid (tx (numsB x.c.ss) = s) := ⟨_, rfl⟩
  obtain ⟨S9, HS9⟩ : ∃ s, Hid (tx (numsB x.s) = s) := ⟨_, rfl⟩
  have HT : Hid (msgT x = [numS x.k, numS x.f, numS x.t, numS x.d, numS x.c.d, S3, S5, S7, S8, S9]) := by rw [Hid, msgT, HS3.out, HS5'.out, HS7.out, HS8.out, HS9.out]
  have D1 : Hid (∀ z ∈ x.c.ss, 0 ≤ z ∧ z ≤ 9223372036854775807) := fun z hz => by have := (digs_iff.1 HGD.out.ss.1).1 z hz; omega
  have D2 : Hid (∀ z ∈ x.s, 0 ≤ z ∧ z ≤ 9223372036854775807) := fun z hz => by have := (digs_iff.1 HGD.out.s.1).1 z hz; omega
  have L1 : Hid ((numsB x.c.ss).length ≤ 1048576) := by have := numsB_le (fun y hy => ((digs_iff.1 HGD.out.ss.1).1 y hy).2) HGD.out.ss.2; rw [Hid]; omega
  have L2 : Hid ((numsB x.s).length ≤ 1048576) := by have := numsB_le (fun y hy => ((digs_iff.1 HGD.out.s.1).1 y hy).2) HGD.out.s.2; rw [Hid]; omega
  have N1 : Hid (v.cs.n ≤ 1099511627776) := by have h1 := HS4.out.cs.ilen_; have h2 := HGD.out.ss.2; rw [Hid]; omega
  have N2 : Hid (v.ds.n ≤ 1099511627776) := by have h1 := HS4.out.ds.ilen_; have h2 := HGD.out.s.2; rw [Hid]; omega
  have hbc := HB45.out
  have q16 : w5.cell? ⟨g, 16, none⟩ = some (.slice v.cs.A v.cs.n v.cs.c) := (HK4.out.later hbc).at_ (by rw [HC.out]; rfl)
  have q17 : w5.cell? ⟨g, 17, none⟩ = some (.slice v.ds.A v.ds.n v.ds.c) := (HK4.out.later hbc).at_ (by rw [HC.out]; rfl)
  have HCX : Hid (C[16]? = some (.slice v.cs.A v.cs.n v.cs.c) ∧ C[17]? = some (.slice v.ds.A v.ds.n v.ds.c)) := by rw [HC.out]; exact ⟨rfl, rfl⟩
  (go_region_held3 (fun w' => w'.cell? ⟨g, 16, none⟩ = some (.slice v.cs.A v.cs.n v.cs.c) ∧ w'.cell? ⟨g, 17, none⟩ = some (.slice v.ds.A v.ds.n v.ds.c) ∧ (convert 33 9 (.slice A3 n3 c3)).run Try.prog w' = .ok (.string S3) w' ∧ (convert 33 9 (.slice A5 n5 c5)).run Try.prog w' = .ok (.string S5) w' ∧ (convert 33 9 (.slice A7 n7 c7)).run Try.prog w' = .ok (.string S7) w')
    (first | exact ⟨(HK4.out.later (by first | exact hbc | exact hbc.drew | exact hbc.alloc hbc.size _ | exact (hbc.alloc hbc.size _).drew)).at_ HCX.out.1, (HK4.out.later (by first | exact hbc | exact hbc.drew | exact hbc.alloc hbc.size _ | exact (hbc.alloc hbc.size _).drew)).at_ HCX.out.2, conv_is Try.underlying33 Try.underlying5 Try.underlying9 (HT3c.out.below (by first | exact hbc | exact hbc.drew | exact hbc.alloc hbc.size _ | exact (hbc.alloc hbc.size _).drew)) HS3, conv_is Try.underlying33 Try.underlying5 Try.underlying9 (HT5c.out.below (by first | exact hbc | exact hbc.drew | exact hbc.alloc hbc.size _ | exact (hbc.alloc hbc.size _).drew)) HS5', conv_is Try.underlying33 Try.underlying5 Try.underlying9 (HT7.out.below (by first | exact hbc | exact hbc.drew | exact hbc.alloc hbc.size _ | exact (hbc.alloc hbc.size _).drew)) HS7⟩ | go_keep)
    ((first
      | (go_at_call 64; ((with_reducible refine (wire_List _ (HS4.out.cs.below (by first | exact hbc | exact hbc.drew | exact hbc.alloc hbc.size _ | exact (hbc.alloc hbc.size _).drew)) N1.out D1.out L1.out HS8).mono ?_); rintro e w6 ⟨rfl, hb6⟩; have hbc := below_then (by first | exact hbc | exact hbc.drew | exact hbc.alloc hbc.size _ | exact (hbc.alloc hbc.size _).drew) hb6; have own9 := own_later (w := w5.drew) own9 hb6))
      | (go_at_call 64; ((with_reducible refine (wire_List _ (HS4.out.ds.below (by first | exact hbc | exact hbc.drew | exact hbc.alloc hbc.size _ | exact (hbc.alloc hbc.size _).drew)) N2.out D2.out L2.out HS9).mono ?_); rintro e w7 ⟨rfl, hb7⟩; have hbc := below_then (by first | exact hbc | exact hbc.drew | exact hbc.alloc hbc.size _ | exact (hbc.alloc hbc.size _).drew) hb7; have own9 := own_later own9 hb7))
      | (go_at_call 63; refine (wire_Put _ (Sl.of_own own15) (by omega) (by have := HSZ.out.2; unfold msgB at this; omega)).mono ?_; rintro e w9 ⟨v9, rfl, own16, hb9⟩; have hz15 := hbc.size; have hbc := below_then hbc hb9)
      | (have _tok := own9; refine step_append_any _ (by rfl) (.tmp 45) (.tmp 59) _ (by rfl) w4.heap.size 9 i0 (.string ByteArray.empty) 1 16 Try.underlying52 hi hz0 hz1 hz2 (by rfl) (by omega) (.slice A9 5 c9) 5 (strs ([x.k, x.f, x.t, x.d, x.c.d].map numS)) (by rfl) (own9.alloc _) _ 5 5 (strs [S3, S5, S7, S8, S9]) (by rfl) (Sl.of_blk (size := 1) (n := 5) (Blk.new _ 9 #[.string S3, .string S5, .string S7, .string S8, .string S9]) rfl) (strs_one _) (by unfold maxLen; omega) (by omega) (by have h2 := hbc.size; simp; omega) ?_; intro v15 w15 hown15 hg15; have hbc : Below w4.heap.size w4 w15 := (hbc.alloc hbc.size _).grown hg15 (by have := hbc.size; simp; omega) (fun g hg' => (own9.lt g hg').1); have own15 : w15.ownsRow w4.heap.size 9 1 v15 10 (strs (msgT x)) := (by rw [HT.out]; exact hown15); obtain ⟨A15, c15, rfl⟩ := own_slice own15)
      | fail)))
  all_goals
    have HBF := hide (HB4.out.trans (hbc.mono HB4.out.size))
    have HOW : Hid (w9.ownsRow w.heap.size 5 1 v9 (msgB x).length (bytes8 (msgB x))) := own_mono (own16 : w9.ownsRow _ _ _ v9 (msgB x).length (bytes8 (msgB x))) (by have h1 := HB4.out.size; omega)
    go_wp2_with fail
    go_ret
    exact ⟨_, rfl, HOW.out, HBF.out⟩
set_option maxRecDepth 100000 in
set_option maxHeartbeats 1000000 in
theorem message_Encode (n : Int) (x : MsD) (v : MsV) (w : World) (HS : Hid (MsS w x v)) (HZ : Hid (MsZ x v)) {C : Array Value} (HC : Hid (C = msC x v)) {r : Bool} (hr : Hid (mayM n x = r)) :
    Calls Try.prog 20 #[.agg C, .int .i64 n] w fun e w' => ∃ v', e = .returned (.tuple #[v', .int .i64 (formE r)]) ∧ w'.ownsRow w.heap.size 5 1 v' (if r then (msgB x).length else 0) (bytes8 (if r then msgB x else [])) ∧ Below w.heap.size w w' := by
  have ka := Blk.new w 32 C
  have HB := hide (below_alloc' w (.cells C 32))
  have HCS : Hid (C.size = 18) := by rw [Hid, HC.out]; rfl
  have HS1 := hide (HS.out.below HB.out)
  have CM := hide (message_May n x v _ HS1 HZ HC hr)
  have HKA := hide ka
  clear HS
  go_enter Try.func20, Try.ntmps20
  go_wp2_with (refine wpList_load_blk rfl 32 (.tmp 2) rfl _ rfl 32 C _ ka Try.underlying32 rfl (by rw [HCS.out]; exact Try.infoMsg) ?_)
  refine CM.out.mono ?_
  rintro e w1 ⟨rfl, hb1⟩
  have HB1 := hide (below_then HB.out hb1)
  have HS2 := hide (HS1.out.below hb1)
  have ka1 := HKA.out.later hb1
  clear hb1 ka HKA CM
  cases r with
  | false =>
    go_wp2_with fail
    go_ret2
    exact ⟨_, rfl, World.ownsRow_nil _ _ _ _, HB1.out⟩
  | true =>
    have HGD := hide (good_of_may hr.out)
    go_wp2_with (refine wpList_load_blk rfl 32 (.tmp 2) rfl _ rfl 32 C _ ka1 Try.underlying32 rfl (by rw [HCS.out]; exact Try.infoMsg) ?_)
    refine (message_lay x v _ HS2 HZ HC HGD).mono ?_
    rintro e w2 ⟨v', rfl, own2, hb2⟩
    have HO := hide (own_mono (base' := w.heap.size) own2 HB1.out.size)
    have HB2 := hide (below_then HB1.out hb2)
    clear own2 hb2
    go_wp2_with fail
    go_ret2
    exact ⟨_, rfl, HO.out, HB2.out⟩
end Go.Proofs.Ytmnogefpphonlaa
