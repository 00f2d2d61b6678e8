/-
  Texts joined: words and contracts that later texts use; lemmas alone, no conditions of a statement.
-/
import Derived.Test.YtebaojcfmkobjaaGr02
import Derived.Test.YtebaojcfmkobjaaGr03
import Derived.Deep.RegionHeld3
import Derived.Deep.DrawnRows
import Derived.Test.YtebaojcfmkobjaaGr04
import Derived.Test.YtebaojcfmkobjaaMsgP
import Derived.Deep.DeepCutAuto
import Derived.Test.YtebaojcfmkobjaaGr00
import Derived.Laws.StructEq
set_option linter.unusedVariables false
set_option linter.unusedSimpArgs false
/-
  Contracts: numbers as texts: wire's and the reference's.
-/
namespace Go.Proofs.Ytebaojcfmkobjaa
open Go.RowKit

theorem numS_nat (m : Nat) : numS (m : Int) = tx (enc m) := by rw [numS, Int.toNat_natCast]
set_option maxRecDepth 100000 in
set_option maxHeartbeats 1000000 in
theorem wire_Texts {A : Option Addr} {n c : Nat} {xs : List Int} (w : World) (hs : Sl w 1 A n (ints xs)) (hn : n ≤ 1048576) (h0 : ∀ x ∈ xs, 0 ≤ x ∧ x ≤ 9223372036854775807) :
    Calls Try.prog 91 #[.slice A n c] w fun e w' => ∃ v', e = .returned v' ∧ w'.ownsRow w.heap.size 9 1 v' n (strs (xs.map numS)) ∧ Below w.heap.size w w' := by
  have HL := hide hs.ilen
  have H0 := hide h0
  clear h0
  obtain ⟨i0, hi, hz0, hz1, hz2⟩ := info_parts Try.infoStr
  go_enter Try.func91, Try.ntmps91
  go_wp2_with fail
  go_loopw [2, 7] (fun b i wr => ∃ k : Nat, k ≤ n ∧ i = .int .i64 k ∧ wr.ownsRow w.heap.size 9 1 b k (strs ((xs.map numS).take k)) ∧ Below w.heap.size w wr) (fun _ i _ => n - (intOf i).toNat)
  case atStart => exact ⟨0, Nat.zero_le _, rfl, World.ownsRow_nil _ _ _ _, Below.refl _ _⟩
  case round =>
    obtain ⟨k, hk, rfl, hown, hb⟩ := hrel
    have hsz := hb.size
    obtain ⟨wo, rfl⟩ : ∃ wo : World, wo = wr := ⟨_, rfl⟩
    obtain ⟨A2, c2, rfl⟩ := own_slice hown
    by_cases hlt : k < n
    · obtain ⟨b, off, u, rfl, HU, hc, _⟩ := hs.int hlt
      have hc' := cell_later hb hc
      obtain ⟨hu0, hu1⟩ := H0.out u (List.mem_of_getElem? HU.out)
      obtain ⟨m, rfl⟩ : ∃ m : Nat, u = (m : Int) := ⟨u.toNat, by omega⟩
      have hm : m ≤ 9223372036854775807 := by omega
      clear hc hs hu0 hu1
      have HO : Hid (strs ((xs.map numS).take (k + 1)) = strs ((xs.map numS).take k) ++ [.string (tx (enc m))]) := by
        rw [Hid, take_at (u := numS m) (by rw [List.getElem?_map, HU.out]; rfl)]; simp [strs, numS_nat]
      go_wp2_with fail
      refine (wire_num wo.heap.size _ m [] _ (World.ownsRow_nil _ _ _ _) (Nat.le_refl _) hm (by simp)).mono ?_
      rintro e w2 ⟨v2, rfl, hown2, hb2⟩
      rw [List.nil_append] at hown2
      obtain ⟨A3, c3, rfl⟩ := own_slice hown2
      have hcv := run_str_of_bytes (P := Try.prog) w2 60 9 5 Try.underlying60 Try.underlying5 Try.underlying9 (c := c3) (Sl.of_own hown2)
      obtain ⟨s, HS⟩ : ∃ s, Hid (tx (enc m) = s) := ⟨_, rfl⟩
      rw [HS.out] at hcv
      have hown3 := own_later hown hb2
      have hb3 := below_then hb hb2
      have hsz3 := hb3.size
      clear hown2 hb2 hown hb
      go_wp2_with (at_builtin; refine wpList_append_own _ rfl _ _ 95 rfl w.heap.size 9 i0 (.string ByteArray.empty) 1 16 Try.underlying95 hi hz0 hz1 hz2 rfl (by decide) _ _ _ rfl (hown3.alloc _) ⟨w2.heap.size, 0, none⟩ 1 1 [.string s] rfl rfl (news_one _ _ _) (one_str _) (by unfold maxLen; omega) (by omega) (by simp; omega) ?_)
      intro v4 w4 hown4 hg4 _
      have hb4 : Below w.heap.size w w4 := (hb3.alloc hsz3 _).grown hg4 (by simp; omega) (fun g hg' => (hown3.lt g hg').1)
      rw [← HS.out, ← HO.out] at hown4
      clear hg4 hown3 hb3 hcv
      go_wp2_with fail
      go_roundw
      case rel => exact ⟨k + 1, by omega, by go_num, hown4, hb4⟩
      case measure => simp [intOf]; omega
    · obtain rfl : k = n := by omega
      rw [List.take_of_length_le (by rw [List.length_map, HL.out]; exact Nat.le_refl _)] at hown
      go_wp2_with fail
      go_ret
      exact ⟨_, rfl, hown, hb⟩
set_option maxHeartbeats 400000 in
theorem ref4_num (n : Int) (w : World) (h0 : 0 ≤ n) (h1 : n ≤ 9223372036854775807) {s : ByteArray} (hs : Hid (numS n = s)) :
    Calls Try.prog 59 #[.int .i64 n] w fun e w' => e = .returned (.string s) ∧ Below w.heap.size w w' := by
  obtain ⟨m, rfl⟩ : ∃ m : Nat, n = (m : Int) := ⟨n.toNat, by omega⟩
  go_enter Try.func59, Try.ntmps59
  go_wp2_with fail
  refine (ref2_Num m _ (by omega)).mono ?_
  rintro e w2 ⟨v2, rfl, hown2, hb2⟩
  obtain ⟨A3, c3, rfl⟩ := own_slice hown2
  have hcv := run_str_of_bytes (P := Try.prog) w2 60 9 5 Try.underlying60 Try.underlying5 Try.underlying9 (c := c3) (Sl.of_own hown2)
  rw [← numS_nat, hs.out] at hcv
  clear hown2
  go_wp2_with fail
  go_ret
  exact ⟨rfl, hb2⟩
end Go.Proofs.Ytebaojcfmkobjaa
/-
  Contracts: a header's bytes: the program's and the reference's.
-/
namespace Go.Proofs.Ytebaojcfmkobjaa
open Go.RowKit

theorem digs_ok {l : List Int} (h : digs l = true) : ∀ x ∈ l, 0 ≤ x ∧ x ≤ 9223372036854775807 := fun x hx => by have := (digs_iff.1 h).1 x hx; omega
set_option maxRecDepth 100000 in
set_option maxHeartbeats 1000000 in
theorem wire_List {A : Option Addr} {n c : Nat} {l : List Int} (w : World) (hs : Sl w 1 A n (ints l)) (hn : n ≤ 1099511627776) (h0 : ∀ x ∈ l, 0 ≤ x ∧ x ≤ 9223372036854775807) (hb : (numsB l).length ≤ 1048576) {s : ByteArray} (hr : Hid (tx (numsB l) = s)) :
    Calls Try.prog 97 #[.slice A n c] w fun e w' => e = .returned (.string s) ∧ Below w.heap.size w w' := by
  have H0 := hide h0
  clear h0
  go_enter Try.func97, Try.ntmps97
  go_wp2_with fail
  refine (wire_Nums_yes _ hs hn H0.out hb).mono ?_
  rintro e w2 ⟨v2, rfl, hown2, hb2⟩
  obtain ⟨A3, c3, rfl⟩ := own_slice hown2
  have hcv := run_str_of_bytes (P := Try.prog) w2 60 9 5 Try.underlying60 Try.underlying5 Try.underlying9 (c := c3) (Sl.of_own hown2)
  rw [hr.out] at hcv
  clear hown2
  go_wp2_with fail
  go_ret
  exact ⟨rfl, hb2⟩
set_option maxRecDepth 100000 in
set_option maxHeartbeats 4000000 in
theorem header_Bytes_yes {A1 A2 : Option Addr} {n1 c1 n2 c2 : Nat} (x : HdD) (w : World) (hs : Sl w 1 A1 n1 (ints x.bs)) (ht : Sl w 1 A2 n2 (ints x.ps)) (hr : Hid (formH 16 x = true)) :
    Calls Try.prog 71 #[hdV x.a x.r A1 n1 c1 A2 n2 c2] w fun e w' => ∃ v', e = .returned (.tuple #[v', .int .i64 0]) ∧ w'.ownsRow w.heap.size 5 1 v' (headerB x).length (bytes8 (headerB x)) ∧ Below w.heap.size w w' := by
  obtain ⟨h1, h2, h3, h4, h5, h6, h7⟩ := formH_iff.1 hr.out
  obtain ⟨z1, z2, z3, z4⟩ := header_size hr.out
  have hn1 : n1 ≤ 8 := by rw [← hs.ilen]; exact h3
  have hn2 : n2 ≤ 16 := by have := hs.ilen; have := ht.ilen; omega
  have HPB : Hid ((putB (headerT x)).length ≤ 1048576) := by have h : (headerB x).length ≤ 300 := z2; rw [headerB] at h; rw [Hid]; omega
  have D1 := hide (digs_ok h4)
  have D2 := hide (digs_ok h5)
  have L1 : Hid ((numsB x.bs).length ≤ 1048576) := by rw [Hid]; omega
  have L2 : Hid ((numsB x.ps).length ≤ 1048576) := by rw [Hid]; omega
  obtain ⟨S1, HS1⟩ : ∃ s, Hid (tx (numsB x.bs) = s) := ⟨_, rfl⟩
  obtain ⟨S2, HS2⟩ : ∃ s, Hid (tx (numsB x.ps) = s) := ⟨_, rfl⟩
  obtain ⟨⟨ha0, ha1⟩, ⟨hr0, hr1⟩⟩ := And.intro h1 h2
  clear h1 h2 h3 h4 h5 h6 h7 z1 z2 z3 z4
  obtain ⟨i0, hi, hz0, hz1, hz2⟩ := info_parts Try.infoStr
  have hb0 := below_alloc' w (.cells #[.int .i64 x.a, .int .i64 x.r, .slice A1 n1 c1, .slice A2 n2 c2] 38)
  have HBK := hide (Blk.new w 38 #[.int .i64 x.a, .int .i64 x.r, .slice A1 n1 c1, .slice A2 n2 c2])
  have HC := hide (header_form (c1 := c1) (c2 := c2) 16 x _ (hs.below hb0) (ht.below hb0) (by omega) (by omega) hr)
  have HB := hide hb0
  have HT : Hid (headerT x = [headerW, numS x.a, numS x.r, S1, S2]) := by rw [Hid, headerT, HS1.out, HS2.out]
  have HHB : Hid (headerB x = putB (headerT x)) := rfl
  obtain ⟨Tx, HTx⟩ : ∃ T, Hid (headerT x = T) := ⟨_, rfl⟩
  obtain ⟨Bx, HBx⟩ : ∃ T, Hid (headerB x = T) := ⟨_, rfl⟩
  rw [HTx.out] at HPB HT HHB
  rw [HBx.out] at HHB ⊢
  have HS := hide hs
  have HT' := hide ht
  clear hb0 hs ht hr HTx HBx
  obtain ⟨a, ra, bs, ps⟩ := x
  simp only at HBK HC HB HS HT' HT D1 D2 L1 L2 HS1 HS2 ha0 ha1 hr0 hr1 ⊢
  unfold hdV at HC ⊢
  go_enter Try.func71, Try.ntmps71
  go_wp2_with fail
  refine HC.out.mono ?_
  rintro e w1 ⟨rfl, hb1⟩
  have hk := HBK.out.later hb1
  have hbw := HB.out.trans (hb1.mono HB.out.size)
  have s1 := (HS.out.below HB.out).below hb1
  have s2 := (HT'.out.below HB.out).below hb1
  clear hb1 HC HBK HB HS HT'
  go_wp2_with fail
  obtain ⟨g, hg⟩ : ∃ g, w.heap.size = g := ⟨_, rfl⟩
  have hgw : w.heap.size < w1.heap.size := hk.lt
  have HX0 : Hid (∀ x ∈ [a, ra], 0 ≤ x ∧ x ≤ 9223372036854775807) := by intro x hx; simp at hx; omega
  have HG := hide hg
  rw [hg] at hk hgw ⊢
  clear hg
  have q0 : w1.cell? ⟨g, 0, none⟩ = some (.int .i64 a) := hk.at_ rfl
  have q1 : w1.cell? ⟨g, 1, none⟩ = some (.int .i64 ra) := hk.at_ rfl
  have q2 : w1.cell? ⟨g, 2, none⟩ = some (.slice A1 n1 c1) := hk.at_ rfl
  have q3 : w1.cell? ⟨g, 3, none⟩ = some (.slice A2 n2 c2) := hk.at_ rfl
  have hbc := Below.refl w1.heap.size w1
  (first | (go_region_held3 (fun w' => w'.cell? ⟨g, 0, none⟩ = some (.int .i64 a) ∧ w'.cell? ⟨g, 1, none⟩ = some (.int .i64 ra) ∧ w'.cell? ⟨g, 2, none⟩ = some (.slice A1 n1 c1) ∧ w'.cell? ⟨g, 3, none⟩ = some (.slice A2 n2 c2))
    (first | exact ⟨(hk.later (by first | exact hbc | exact hbc.drew | exact hbc.alloc hbc.size _ | exact (hbc.alloc hbc.size _).drew | exact ((hbc.alloc hbc.size _).alloc (by have := hbc.size; simp; try omega) _) | exact ((hbc.alloc hbc.size _).alloc (by have := hbc.size; simp; try omega) _).drew)).at_ rfl, (hk.later (by first | exact hbc | exact hbc.drew | exact hbc.alloc hbc.size _ | exact (hbc.alloc hbc.size _).drew | exact ((hbc.alloc hbc.size _).alloc (by have := hbc.size; simp; try omega) _) | exact ((hbc.alloc hbc.size _).alloc (by have := hbc.size; simp; try omega) _).drew)).at_ rfl, (hk.later (by first | exact hbc | exact hbc.drew | exact hbc.alloc hbc.size _ | exact (hbc.alloc hbc.size _).drew | exact ((hbc.alloc hbc.size _).alloc (by have := hbc.size; simp; try omega) _) | exact ((hbc.alloc hbc.size _).alloc (by have := hbc.size; simp; try omega) _).drew)).at_ rfl, (hk.later (by first | exact hbc | exact hbc.drew | exact hbc.alloc hbc.size _ | exact (hbc.alloc hbc.size _).drew | exact ((hbc.alloc hbc.size _).alloc (by have := hbc.size; simp; try omega) _) | exact ((hbc.alloc hbc.size _).alloc (by have := hbc.size; simp; try omega) _).drew)).at_ rfl⟩ | go_keep)
    ((first
      | (go_at_call 91; refine (wire_Texts _ (xs := [a, ra]) (Sl.two_int (by go_simp) (by go_simp)) (by omega) HX0.out).mono ?_; rintro e w6 ⟨v6, rfl, hown6, hb6⟩; obtain ⟨A6, c6, rfl⟩ := own_slice hown6; (try have k7 := ((Blk.new w1 9 #[.string ⟨#[104, 101, 97, 100, 101, 114]⟩]).alloc (.cells #[.int .i64 a, .int .i64 ra] 3)).drew.later hb6); (try have k7 := (Blk.new2 w1 (.cells #[.int .i64 a, .int .i64 ra] 3) 9 #[.string ⟨#[104, 101, 97, 100, 101, 114]⟩]).drew.later hb6); have hbc := below_then (by first | exact hbc | exact hbc.drew | exact hbc.alloc hbc.size _ | exact (hbc.alloc hbc.size _).drew | exact ((hbc.alloc hbc.size _).alloc (by have := hbc.size; simp; try omega) _) | exact ((hbc.alloc hbc.size _).alloc (by have := hbc.size; simp; try omega) _).drew) hb6)
      | (go_at_call 97; ((with_reducible refine (wire_List _ (s1.below (by first | exact hbc | exact hbc.drew | exact hbc.alloc hbc.size _ | exact (hbc.alloc hbc.size _).drew | exact ((hbc.alloc hbc.size _).alloc (by have := hbc.size; simp; try omega) _) | exact ((hbc.alloc hbc.size _).alloc (by have := hbc.size; simp; try omega) _).drew)) (by omega) D1.out L1.out HS1).mono ?_); rintro e w8 ⟨rfl, hb8⟩; have hbc := below_then (by first | exact hbc | exact hbc.drew | exact hbc.alloc hbc.size _ | exact (hbc.alloc hbc.size _).drew | exact ((hbc.alloc hbc.size _).alloc (by have := hbc.size; simp; try omega) _) | exact ((hbc.alloc hbc.size _).alloc (by have := hbc.size; simp; try omega) _).drew) hb8; have own14 := own_later own14 hb8))
      | (go_at_call 97; ((with_reducible refine (wire_List _ (s2.below (by first | exact hbc | exact hbc.drew | exact hbc.alloc hbc.size _ | exact (hbc.alloc hbc.size _).drew | exact ((hbc.alloc hbc.size _).alloc (by have := hbc.size; simp; try omega) _) | exact ((hbc.alloc hbc.size _).alloc (by have := hbc.size; simp; try omega) _).drew)) (by omega) D2.out L2.out HS2).mono ?_); rintro e w8 ⟨rfl, hb8⟩; have hbc := below_then (by first | exact hbc | exact hbc.drew | exact hbc.alloc hbc.size _ | exact (hbc.alloc hbc.size _).drew | exact ((hbc.alloc hbc.size _).alloc (by have := hbc.size; simp; try omega) _) | exact ((hbc.alloc hbc.size _).alloc (by have := hbc.size; simp; try omega) _).drew) hb8; have own14 := own_later own14 hb8))
      | (go_at_call 92; refine (wire_Put _ (Sl.of_own own15) (by omega) HPB.out).mono ?_; rintro e w9 ⟨v9, rfl, own16, hb9⟩; have hz15 := hbc.size; have hbc := below_then hbc hb9)
      | (have _tok := own14; refine step_append_any _ (by rfl) (.tmp 14) (.tmp 21) _ (by rfl) w1.heap.size 9 i0 (.string ByteArray.empty) 1 16 Try.underlying95 hi hz0 hz1 hz2 (by rfl) (by omega) (.slice A7 3 c7) 3 (strs [headerW, numS a, numS ra]) (by rfl) (own14.alloc _) _ 2 2 (strs [S1, S2]) (by rfl) (Sl.two_str (by go_simp) (by go_simp)) (strs_one _) (by unfold maxLen; omega) (by omega) (by have := hbc.size; simp; omega) ?_; intro v15 w15 hown15 hg15; have hbc : Below w1.heap.size w1 w15 := (hbc.alloc hbc.size _).grown hg15 (by have := hbc.size; simp; omega) (fun g hg' => (own14.lt g hg').1); have own15 : w15.ownsRow w1.heap.size 9 1 v15 5 (strs Tx) := (by rw [HT.out]; exact hown15); obtain ⟨A15, c15, rfl⟩ := own_slice own15)
      | (have _tok := hown6; refine step_append_any _ (by rfl) (.tmp 7) (.tmp 13) _ (by rfl) w1.heap.size 9 i0 (.string ByteArray.empty) 1 16 Try.underlying95 hi hz0 hz1 hz2 (by rfl) (by omega) _ 1 (strs [headerW]) (by rfl) (own_of_blk (base := w1.heap.size) (size := 1) (n := 1) (cs := #[.string ⟨#[104, 101, 97, 100, 101, 114]⟩]) (by first | exact k7 | exact Blk.new _ _ _) (by have := hbc.size; simp; try omega) rfl (by omega)) A6 2 c6 (strs ([a, ra].map numS)) (by rfl) (by first | exact Sl.of_own hown6 | exact (Sl.of_own hown6).alloc _) (strs_one _) (by unfold maxLen; omega) (by omega) (by have := hbc.size; simp; try omega) ?_; intro v7 w7 hown7 hg7; have own14 : w7.ownsRow w1.heap.size 9 1 v7 3 (strs [headerW, numS a, numS ra]) := hown7; obtain ⟨A7, c7, rfl⟩ := own_slice own14; have hbc : Below w1.heap.size w1 w7 := Below.grown (by first | exact hbc | exact hbc.drew | exact hbc.alloc hbc.size _ | exact (hbc.alloc hbc.size _).drew | exact ((hbc.alloc hbc.size _).alloc (by have := hbc.size; simp; try omega) _) | exact ((hbc.alloc hbc.size _).alloc (by have := hbc.size; simp; try omega) _).drew) hg7 (by have := hbc.size; simp; try omega) (fun g hg' => by have := hbc.size; simp [Value.ownBlock] at hg'; omega))
      | fail)))  | fail)
  all_goals
    have HBF := hide (hbw.trans (hbc.mono hbw.size))
    have hz9 := hbc.size
    have hzw := hbw.size
    rw [← HHB.out] at own16
    have OWF := hide (own_mono (base' := w.heap.size) own16 (by omega))
    go_wp2_with fail
    go_ret2
    exact ⟨_, rfl, OWF.out, HBF.out⟩
end Go.Proofs.Ytebaojcfmkobjaa
/-
  Contracts: a batch's bytes: the program's.
-/
namespace Go.Proofs.Ytebaojcfmkobjaa
open Go.RowKit
attribute [local go_sem ↓] Go.wp_at_zero Go.wp_at_succ

theorem tx_cells {w : World} {g : Nat} {s q : Int} {k v : ByteArray} (h : Blk w g 101 #[.int .i64 s, .int .i64 q, .string k, .string v]) :
    w.cell? ⟨g, 0, none⟩ = some (.int .i64 s) ∧ w.cell? ⟨g, 1, none⟩ = some (.int .i64 q) ∧ w.cell? ⟨g, 2, none⟩ = some (.string k) ∧ w.cell? ⟨g, 3, none⟩ = some (.string v) := ⟨h.at_ rfl, h.at_ rfl, h.at_ rfl, h.at_ rfl⟩
set_option maxRecDepth 100000 in
set_option maxHeartbeats 4000000 in
theorem batch_Bytes_yes {A : Option Addr} {m c : Nat} {l : List TxD} (a n : Int) (w : World) (hs : Sl w 4 A m (txsC l)) (hz : TxZ l) (hr : mayB a n l = true) :
    Calls Try.prog 68 #[batchV a n A m c] w fun e w' => ∃ v', e = .returned (.tuple #[v', .int .i64 0]) ∧ w'.ownsRow w.heap.size 5 1 v' (batchB a n l).length (bytes8 (batchB a n l)) ∧ Below w.heap.size w w' := by
  have hall := mayB_iff.1 hr
  have hsz := batch_size hr
  have HL := hide hs.txlen
  have hm : m ≤ 8 := by rw [← HL.out]; exact hall.2.2.1.2
  have hm1 : 1 ≤ m := by rw [← HL.out]; exact hall.2.2.1.1
  obtain ⟨ha0, ha1⟩ := hall.1
  obtain ⟨hn0, hn1⟩ := hall.2.1
  have HT := hide hall.2.2.2
  have HSZ := hide hsz
  clear hall hsz
  obtain ⟨i0, hi, hz0, hz1, hz2⟩ := info_parts Try.infoStr
  have hb0 := below_alloc w (.cells #[.int .i64 a, .int .i64 n, .slice A m c] 36)
  have HBK := hide (Blk.new w 36 #[.int .i64 a, .int .i64 n, .slice A m c])
  have HC := hide (batch_May (c := c) a n _ (hs.below hb0) (by omega) hz hr)
  have HB := hide hb0
  have HS := hide hs
  clear hb0 hz hs hr
  unfold batchV at HC ⊢
  go_enter Try.func68, Try.ntmps68
  go_wp2_with fail
  refine HC.out.mono ?_
  rintro e w1 ⟨rfl, hb1⟩
  have HK := hide (HBK.out.later hb1)
  have HB1 := hide (HB.out.trans (hb1.mono HB.out.size))
  have hgw : w.heap.size < w1.heap.size := HK.out.lt
  have c0 : w1.cell? ⟨w.heap.size, 0, none⟩ = some (.int .i64 a) := HK.out.at_ rfl
  have c1 : w1.cell? ⟨w.heap.size, 1, none⟩ = some (.int .i64 n) := HK.out.at_ rfl
  clear hb1 HC HBK HB
  have kb : Blk (w1.alloc (.cells #[.string ⟨#[98, 97, 116, 99, 104]⟩] 9)) w1.heap.size 9 #[.string ⟨#[98, 97, 116, 99, 104]⟩] := Blk.new _ _ _
  have kn := Blk.new2 w1 (.cells #[.string ⟨#[98, 97, 116, 99, 104]⟩] 9) 3 #[.int .i64 a, .int .i64 n]
  have hsn : Sl _ 1 _ 2 (ints [a, n]) := Sl.of_blk (size := 1) (n := 2) kn rfl
  have hown0 := own_of_blk (base := w.heap.size) (size := 1) (n := 1) (kb.alloc (.cells #[.int .i64 a, .int .i64 n] 3)) (by omega) rfl (by omega)
  have hbl := (HB1.out.alloc HB1.out.size (.cells #[.string ⟨#[98, 97, 116, 99, 104]⟩] 9)).alloc (by simp; omega) (.cells #[.int .i64 a, .int .i64 n] 3)
  have HX0 : Hid (∀ x ∈ [a, n], 0 ≤ x ∧ x ≤ 9223372036854775807) := by intro x hx; simp at hx; omega
  clear kb kn
  go_wp2_with fail
  refine (wire_Texts _ hsn (by omega) HX0.out).mono ?_
  rintro e w2 ⟨v2, rfl, hown2, hb2⟩
  have hown3 := own_later hown0 hb2
  have hbx := hb2.size
  simp at hbx
  have hb3 := hbl.trans (hb2.mono (by simp; omega))
  obtain ⟨A2, c2, rfl⟩ := own_slice hown2
  have hs2 := Sl.of_own hown2
  have HK2 := hide ((HK.out.alloc (.cells #[.string ⟨#[98, 97, 116, 99, 104]⟩] 9)).alloc (.cells #[.int .i64 a, .int .i64 n] 3) |>.later hb2)
  clear hown0 hown2 hb2 hbl hsn
  go_wp2_with (at_builtin; refine wpList_append_any _ rfl _ _ 95 rfl w.heap.size 9 i0 (.string ByteArray.empty) 1 16 Try.underlying95 hi hz0 hz1 hz2 rfl (by decide) _ _ _ rfl hown3 A2 2 c2 (strs ([a, n].map numS)) rfl hs2 (strs_one _) (by unfold maxLen; omega) (by omega) (by omega) ?_)
  intro v4 w4 hown4 hg4
  have hk4 := HK2.out.grown hg4 (Ne.symm (own_blk_ne hown3 HK2.out (by decide)))
  have c2' : w4.cell? ⟨w.heap.size, 2, none⟩ = some (.slice A m c) := hk4.at_ rfl
  have hb4 : Below w.heap.size w w4 := hb3.grown hg4 (by omega) (fun g hg' => (hown3.lt g hg').1)
  have HO4 : Hid (w4.ownsRow w.heap.size 9 1 v4 [batchW, numS a, numS n].length (strs [batchW, numS a, numS n])) := hown4
  clear hown4 hg4 hown3 hb3 hs2 HK2 hk4 c0 c1
  go_wp2_with fail
  go_loopw [4, 21] (fun b i wr => ∃ (k : Nat) (ys : List ByteArray), k ≤ m ∧ i = .int .i64 k ∧ Hid (ys = batchW :: numS a :: numS n :: (l.take k).flatMap txT) ∧ ys.length ≤ 3 + 4 * k ∧ wr.ownsRow w.heap.size 9 1 b ys.length (strs ys) ∧ Below w.heap.size w wr) (fun _ i _ => m - (intOf i).toNat)
  case atStart => exact ⟨0, _, Nat.zero_le _, rfl, rfl, by simp, HO4.out, hb4⟩
  case round =>
    obtain ⟨k, ys, hk, rfl, HY, hyl, hown, hb⟩ := hrel
    obtain ⟨wo, rfl⟩ : ∃ wo : World, wo = wr := ⟨_, rfl⟩
    have hsz := hb.size
    clear hb4 HO4 c2'
    obtain ⟨A5, c5, rfl⟩ := own_slice hown
    by_cases hlt : k < m
    · obtain ⟨b, off, t, rfl, HU, q0, q1, q2, q3, _⟩ := (HS.out.below hb).tx hlt
      have htx := mayTx_iff.1 (HT.out t (List.mem_of_getElem? HU.out))
      obtain ⟨s, q, tk, tv⟩ := t
      obtain ⟨⟨hs0, hs1⟩, ⟨hq0, hq1⟩, _, _⟩ := htx
      simp only at q0 q1 q2 q3 hs0 hs1 hq0 hq1
      have HX2 : Hid (∀ x ∈ [s, q], 0 ≤ x ∧ x ≤ 9223372036854775807) := by intro x hx; simp at hx; omega
      go_wp2_with fail
      have kt := Blk.new wo 101 #[.int .i64 s, .int .i64 q, .string tk, .string tv]
      have ownt := hown.alloc (.cells #[.int .i64 s, .int .i64 q, .string tk, .string tv] 101)
      have hbt : Below w.heap.size w (wo.alloc (.cells #[.int .i64 s, .int .i64 q, .string tk, .string tv] 101)) := hb.alloc hsz _
      generalize wo.alloc (.cells #[.int .i64 s, .int .i64 q, .string tk, .string tv] 101) = wt at kt ownt hbt ⊢
      obtain ⟨gt, hgt⟩ : ∃ gt, wo.heap.size = gt := ⟨_, rfl⟩
      rw [hgt] at kt ⊢
      have hsz' := hbt.size
      have k0 : wt.cell? ⟨gt, 0, none⟩ = some (.int .i64 s) := kt.at_ rfl
      have k1 : wt.cell? ⟨gt, 1, none⟩ = some (.int .i64 q) := kt.at_ rfl
      have k2 : wt.cell? ⟨gt, 2, none⟩ = some (.string tk) := kt.at_ rfl
      have k3 : wt.cell? ⟨gt, 3, none⟩ = some (.string tv) := kt.at_ rfl
      clear hown hb q0 q1 q2 q3 hgt
      go_region_held3 (fun w' => w'.cell? ⟨gt, 0, none⟩ = some (.int .i64 s) ∧ w'.cell? ⟨gt, 1, none⟩ = some (.int .i64 q) ∧ w'.cell? ⟨gt, 2, none⟩ = some (.string tk) ∧ w'.cell? ⟨gt, 3, none⟩ = some (.string tv))
        (first | exact tx_cells kt8 | exact tx_cells kt7 | exact tx_cells (kt7.alloc _) | exact tx_cells kt6 | exact tx_cells (kt6.alloc _) | go_keep)
        ((first
          | (go_at_call 91; refine (wire_Texts _ (xs := [s, q]) (Sl.two_int (by go_simp) (by go_simp)) (by omega) HX2.out).mono ?_; rintro e w6 ⟨v6, rfl, hown6, hb6⟩; obtain ⟨A6, c6, rfl⟩ := own_slice hown6; have own6 : w6.ownsRow w.heap.size 9 1 (.slice A5 ys.length c5) ys.length (strs ys) := own_later (by first | exact ownt.alloc _ | exact (ownt.alloc _).alloc _) hb6; have hbc : Below wt.heap.size wt w6 := Below.trans (by first | exact (((Below.refl _ _).alloc (Nat.le_refl _) _).drew) | exact ((((Below.refl _ _).alloc (Nat.le_refl _) _).alloc (by simp) _).drew)) (hb6.mono (by simp; try omega)); have kt6 := kt.later hbc; have hb6' := hbt.trans (hbc.mono hsz'); have hsz6 := hb6'.size)
          | (have _tok := hown7; refine step_append_any _ (by rfl) (.tmp 32) (.tmp 37) _ (by rfl) w.heap.size 9 i0 (.string ByteArray.empty) 1 16 Try.underlying95 hi hz0 hz1 hz2 (by rfl) (by omega) (.slice A7 (ys.length + 2) c7) (ys.length + 2) (strs ys ++ strs [numS s, numS q]) (by rfl) (by first | exact hown7 | exact hown7.alloc _) _ 2 2 (strs [tk, tv]) (by rfl) (by first | (refine Sl.two_str ?_ ?_ <;> (go_simp; done)) | (refine Sl.grown_old (Sl.below (Sl.two_str ?_ ?_) hb6) hg7 (B := wt.heap.size) ?_ (fun g hg' => (ownt.lt g hg').2) <;> first | (go_simp; done) | (intro b off e; injection e with e; injection e; omega)) | (refine Sl.grown_old (Sl.two_str ?_ ?_) hg7 (B := wt.heap.size) ?_ (fun g hg' => (ownt.lt g hg').2) <;> first | (go_simp; done) | (intro b off e; injection e with e; injection e; have := hbc.size; omega))) (strs_one _) (by unfold maxLen; omega) (by omega) (by first | exact hsz7 | (simp; omega)) ?_; intro v8 w8 hown8 hg8; have hb8 : Below w.heap.size w w8 := (by first | exact hb7.grown hg8 (by omega) (fun g hg' => (hown7.lt g hg').1) | exact (hb7.alloc hsz7 _).grown hg8 (by simp; omega) (fun g hg' => (hown7.lt g hg').1)); have kt8 : Blk w8 gt 101 #[.int .i64 s, .int .i64 q, .string tk, .string tv] := (by first | exact kt7.grown hg8 (Ne.symm (own_blk_ne hown7 kt7 (by decide))) | exact (kt7.alloc _).grown hg8 (Ne.symm (own_blk_ne hown7 kt7 (by decide)))))
          | (have _tok := hown6; refine step_append_any _ (by rfl) (.tmp 25) (.tmp 31) _ (by rfl) w.heap.size 9 i0 (.string ByteArray.empty) 1 16 Try.underlying95 hi hz0 hz1 hz2 (by rfl) (by omega) (.slice A5 ys.length c5) ys.length (strs ys) (by rfl) (by first | exact own6 | exact own6.alloc _) A6 2 c6 (strs [numS s, numS q]) (by rfl) (by first | exact Sl.of_own hown6 | exact (Sl.of_own hown6).alloc _) (strs_one _) (by unfold maxLen; omega) (by omega) (by first | exact hsz6 | (simp; omega)) ?_; intro v7 w7 hown7 hg7; obtain ⟨A7, c7, rfl⟩ := own_slice hown7; have hb7 : Below w.heap.size w w7 := (by first | exact hb6'.grown hg7 (by omega) (fun g hg' => (own6.lt g hg').1) | exact (hb6'.alloc hsz6 _).grown hg7 (by simp; omega) (fun g hg' => (own6.lt g hg').1)); have kt7 : Blk w7 gt 101 #[.int .i64 s, .int .i64 q, .string tk, .string tv] := (by first | exact kt6.grown hg7 (Ne.symm (own_blk_ne own6 kt6 (by decide))) | exact (kt6.alloc _).grown hg7 (Ne.symm (own_blk_ne own6 kt6 (by decide)))); have hsz7 := hb7.size)
          | fail))
      all_goals
        have own9 : w8.ownsRow w.heap.size 9 1 v8 (ys ++ txT ⟨s, q, tk, tv⟩).length (strs (ys ++ txT ⟨s, q, tk, tv⟩)) := by
          have e : strs (ys ++ txT ⟨s, q, tk, tv⟩) = strs ys ++ strs [numS s, numS q] ++ strs [tk, tv] := by simp [strs, txT]
          rw [e, List.length_append]; exact hown8
        have HY2 : Hid (ys ++ txT ⟨s, q, tk, tv⟩ = batchW :: numS a :: numS n :: (l.take (k + 1)).flatMap txT) := by
          rw [Hid, take_at HU.out, HY.out, List.flatMap_append]; simp
        have hyl2 : (ys ++ txT ⟨s, q, tk, tv⟩).length ≤ 3 + 4 * (k + 1) := by rw [List.length_append]; simp [txT]; omega
        clear hown8 hg8 kt8 hown7 hg7 kt7 own6 hown6 hb6 hbc kt6 hb6' hb7 kt ownt hbt k0 k1 k2 k3
        go_wp2_with fail
        go_roundw
        case rel => exact ⟨k + 1, _, by omega, by go_num, HY2, hyl2, own9, hb8⟩
        case measure => simp [intOf]; omega
    · obtain rfl : k = m := by omega
      have HF : Hid (ys = batchT a n l) := by
        have := HY.out
        rw [List.take_of_length_le (by rw [HL.out]; exact Nat.le_refl _)] at this
        exact this
      have hPB : (putB ys).length ≤ 1048576 := by rw [HF.out]; have := HSZ.out.2; rw [batchB] at this; omega
      go_wp2_with fail
      refine (wire_Put _ (Sl.of_own hown) (by omega) hPB).mono ?_
      rintro e w6 ⟨v6, rfl, hown6, hb6⟩
      have hb7 := below_then hb hb6
      have hown7 := own_mono hown6 hsz
      clear hown6 hb6 hown
      go_wp2_with fail
      go_ret2
      refine ⟨_, rfl, ?_, hb7⟩
      rw [batchB, ← HF.out]
      exact hown7
end Go.Proofs.Ytebaojcfmkobjaa
/-
  Conversions between bytes and texts, once more: with their bounds; over any program.
-/
namespace Go.Proofs.Ytebaojcfmkobjaa
open Go.RowKit

theorem conv_is {P : Program} {w : World} {src dst e : TypeId} (hs : P.underlying src = some (.slice e)) (he : P.underlying e = some (.int .u8)) (hd : P.underlying dst = some .string) {A : Option Addr} {n c : Nat} {bs : List UInt8}
    (hsl : Sl w 1 A n (bytes8 bs)) {s : ByteArray} (h : Hid (tx bs = s)) : (convert src dst (.slice A n c)).run P w = .ok (.string s) w := by
  rw [← h.out]; exact run_str_of_bytes w src dst e hs he hd hsl
end Go.Proofs.Ytebaojcfmkobjaa
/-
  Contracts: message.Check, message.lay, message.Encode.
-/
namespace Go.Proofs.Ytebaojcfmkobjaa
open Go.RowKit

end Go.Proofs.Ytebaojcfmkobjaa
/-
  Contracts: the batch that bytes are: the program's.
-/
namespace Go.Proofs.Ytebaojcfmkobjaa
open Go.RowKit
attribute [local go_sem ↓] Go.wp_at_zero Go.wp_at_succ

theorem below_of_grown {B : Nat} {w wa wb : World} {g : Nat} (hb : Below B w wa) (hg : wa.grownBy wb (some g)) (hB : B ≤ wa.heap.size) (h : B ≤ g) : Below B w wb := hb.grown hg hB (fun k hk => by injection hk with hk; omega)
end Go.Proofs.Ytebaojcfmkobjaa
/-
  Contracts: bytes that are no batch: the program's.
-/
namespace Go.Proofs.Ytebaojcfmkobjaa
open Go.RowKit
attribute [local go_sem ↓] Go.wp_at_zero Go.wp_at_succ

end Go.Proofs.Ytebaojcfmkobjaa
/-
  Contract: the header that bytes are: the program's.
-/
namespace Go.Proofs.Ytebaojcfmkobjaa
open Go.RowKit

/-- What a reader of headers answers. -/
def EndH (vok vno : Value) (t : TypeId) (r : Option HdD) (w : World) (e : Ending) (w' : World) : Prop :=
  match r with
  | some x => ∃ v1 v2, e = .returned (.tuple #[.agg #[.int .i64 x.a, .int .i64 x.r, v1, v2], vok]) ∧ w'.ownsRow w.heap.size t 1 v1 x.bs.length (ints x.bs) ∧ w'.ownsRow w.heap.size t 1 v2 x.ps.length (ints x.ps) ∧ (v1.ownBlock = none ∨ v1.ownBlock ≠ v2.ownBlock) ∧ Below w.heap.size w w'
  | none => e = .returned (.tuple #[.agg #[.int .i64 0, .int .i64 0, .slice none 0 0, .slice none 0 0], vno]) ∧ Below w.heap.size w w'
theorem EndH.no {vok vno : Value} {t : TypeId} {r : Option HdD} {w w' : World} (h : r = none) (hb : Below w.heap.size w w') : EndH vok vno t r w (.returned (.tuple #[.agg #[.int .i64 0, .int .i64 0, .slice none 0 0, .slice none 0 0], vno])) w' := by
  subst h; exact ⟨rfl, hb⟩
theorem EndH.yes {vok vno : Value} {t : TypeId} {r : Option HdD} {w w' : World} {a ra : Int} {bs ps : List Int} {v1 v2 : Value} (h : r = some ⟨a, ra, bs, ps⟩) (h1 : w'.ownsRow w.heap.size t 1 v1 bs.length (ints bs)) (h2 : w'.ownsRow w.heap.size t 1 v2 ps.length (ints ps)) (h3 : v1.ownBlock = none ∨ v1.ownBlock ≠ v2.ownBlock)
    (hb : Below w.heap.size w w') : EndH vok vno t r w (.returned (.tuple #[.agg #[.int .i64 a, .int .i64 ra, v1, v2], vok])) w' := by
  subst h; exact ⟨v1, v2, rfl, h1, h2, h3, hb⟩
end Go.Proofs.Ytebaojcfmkobjaa
/-
  Contracts: bytes.Equal, what parsing tells of a batch, a header, numbers (or nothing), as message.Decode takes it.
-/
namespace Go.Proofs.Ytebaojcfmkobjaa
open Go.RowKit

/-- A slice in new memory. -/
def NewA (B : Nat) (A : Option Addr) (n : Nat) : Prop := 0 < n → ∀ b off, A = some ⟨b, off, none⟩ → B ≤ b
theorem NewA.own {w : World} {B size n m c : Nat} {e : TypeId} {A : Option Addr} {xs : List Value} (h : w.ownsRow B e size (.slice A m c) n xs) : NewA B A m := fun _ b off e => by
  exact (h.lt b (by rw [e]; rfl)).1
theorem Sl.set_ {w : World} {size n : Nat} {A : Option Addr} {cs : List Value} {g i : Nat} (h : Sl w size A n cs) (ha : 0 < n → ∀ b off, A = some ⟨b, off, none⟩ → ¬ (b = g)) (u : Value) : Sl (w.setCell ⟨g, i, none⟩ u) size A n cs := by
  refine ⟨h.1, fun hn => ?_⟩
  obtain ⟨b, off, e, hb, hcell⟩ := h.2 hn
  refine ⟨b, off, e, by simpa [World.setCell] using hb, fun j v hv => ?_⟩
  rw [World.cell?_of_block (a := ⟨b, off + j, none⟩) (Below.heap_setCell w ⟨g, i, none⟩ u b (ha hn b off e))]
  exact hcell j v hv
/-- A message that was read, or the empty one. -/
def EndM (r : Option MsD) (w : World) (e : Ending) (w' : World) : Prop :=
  ∃ D u, e = .returned (.tuple #[.agg D, .int .i64 (formE r.isSome)]) ∧ Hid (D = msC (r.getD zM) u ∧ MsS w' (r.getD zM) u ∧ MsZ (r.getD zM) u) ∧ Below w.heap.size w w'
end Go.Proofs.Ytebaojcfmkobjaa
/-
  Contracts: message.Decode.
-/
namespace Go.Proofs.Ytebaojcfmkobjaa
open Go.RowKit

theorem EndM.no {r : Option MsD} {w w' : World} (h : r = none) (hb : Below w.heap.size w w') : EndM r w (.returned (.tuple #[.agg #[.int .i64 0, .int .i64 0, .int .i64 0, .int .i64 0, .int .i64 0, .int .i64 0, .slice none 0 0, .int .i64 0, .int .i64 0, .slice none 0 0, .slice none 0 0, .int .i64 0, .int .i64 0, .slice none 0 0, .slice none 0 0, .int .i64 0, .slice none 0 0, .slice none 0 0], .int .i64 1])) w' := by
  subst h
  exact ⟨_, zV, rfl, ⟨rfl, ⟨Sl.nil_, Sl.nil_, Sl.nil_, Sl.nil_, Sl.nil_, Sl.nil_, Sl.nil_⟩, ⟨(by intro t ht; simp [zM, zB] at ht), by simp [zV, nilV], by simp [zV, nilV], by simp [zV, nilV], by simp [zV, nilV], by simp [zV, nilV], by simp [zV, nilV], by simp [zV, nilV]⟩⟩, hb⟩
theorem EndM.yes {r : Option MsD} {x : MsD} {u : MsV} {D : Array Value} {w w' : World} (h : r = some x) (hD : D = msC x u) (h1 : MsS w' x u) (h2 : MsZ x u) (hb : Below w.heap.size w w') : EndM r w (.returned (.tuple #[.agg D, .int .i64 0])) w' := by
  subst h
  exact ⟨D, u, rfl, ⟨hD, h1, h2⟩, hb⟩
theorem run_load_blk {P : Program} {w : World} {ev : Operand → Value} {o : Oper} {ty : TypeId} {x : Operand} (ho : o.op = .load ty x) (g : Nat) (hx : ev x = .pointer (some ⟨g, 0, none⟩)) (t : TypeId) (cs : Array Value) (d : TypeDesc) (hg : Blk w g t cs)
    (hu : P.underlying ty = some d) (hd : (match d with | .struct _ | .array _ _ => true | _ => false) = true) (hi : (P.info? ty).map (·.size) = some cs.size) : (execOp ev o).run P w = .ok (.value (.agg cs)) w := by
  unfold execOp
  simp only [ho, hx, Instr.loadAt, Instr.sureAddr, Sem.run_bind, Sem.run_pure, Result.andThen_ok, run_loadVar_row w g t ty cs (0, 0) d hg hu hd hi]
theorem seg_call {P : Program} {ops : Array Oper} {Q : Exit → Act → World → Prop} {K : Act → World → Prop} {a : Act} {w : World} {rest : List Oper} {o : Oper} {n : Nat} {M : List (Nat × Value)} {d : Nat} {f : FuncId} {args : Array Value} {v : Value} {R : World → Prop} (hM : Frm a n M) (hd : o.dst = some d) (hn : d < n) (hg : o.guard = none)
    (hr : (execOp a.eval o).run P w = .ok (.enter f args) w) (hc : Calls P f args w fun e w' => e = .returned v ∧ R w')
    (h : ∀ a' w', Frm a' n ((d, v) :: M) → R w' → wpSeg P ops Q K rest a' w') : wpSeg P ops Q K (o :: rest) a w := by
  unfold wpSeg
  rw [if_pos (by simp [Region.wanted, hg])]
  refine .inl ?_
  unfold Oper.wp
  rw [hr, Oper.upon_enter]
  refine hc.mono ?_
  rintro e w' ⟨rfl, hR⟩
  simp only [hd]
  exact h _ _ (hM.put hn v) hR
end Go.Proofs.Ytebaojcfmkobjaa
/-
  Two transactions compared by Go's own words.
-/
namespace Go.Proofs.Ytebaojcfmkobjaa
open Go.RowKit
end Go.Proofs.Ytebaojcfmkobjaa
