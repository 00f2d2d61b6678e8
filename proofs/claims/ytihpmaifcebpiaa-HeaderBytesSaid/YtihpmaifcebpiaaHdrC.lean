/-
  Contracts: a header's bytes: the reference's.
-/
import Derived.Test.YtihpmaifcebpiaaHdrB
import Derived.Test.YtihpmaifcebpiaaWirG
import Derived.Test.YtihpmaifcebpiaaCon2
namespace Go.Proofs.Ytihpmaifcebpiaa
open Go.RowKit

set_option maxRecDepth 100000 in
set_option maxHeartbeats 4000000 in
theorem ref4_HeaderBytes {A1 A2 : Option Addr} {n1 c1 n2 c2 : Nat} (x : HdD) (w : World) (hs : Sl w 1 A1 n1 (ints x.bs)) (ht : Sl w 1 A2 n2 (ints x.ps)) (hr : Hid (formH 16 x = true)) :
    Calls Try.prog 31 #[hdV x.a x.r A1 n1 c1 A2 n2 c2] w fun e w' => ∃ v', e = .returned v' ∧ w'.ownsRow w.heap.size 5 1 v' (headerB x).length (bytes8 (headerB x)) ∧ Below w.heap.size w w' := by
  obtain ⟨h1, h2, h3, h4, h5, h6, h7⟩ := formH_iff.1 hr.out
  obtain ⟨z1, z2, z3, z4⟩ := header_size hr.out
  have hn1 : n1 ≤ 8 := by rw [← hs.ilen]; exact h3
  have hn2 : n2 ≤ 16 := by have := hs.ilen; have := ht.ilen; omega
  have HPB : Hid ((putB (headerT x)).length ≤ 1048576) := by have h : (headerB x).length ≤ 300 := z2; rw [headerB] at h; rw [Hid]; omega
  have D1 := hide (digs_ok h4)
  have D2 := hide (digs_ok h5)
  have L1 : Hid ((numsB x.bs).length ≤ 1048576) := by rw [Hid]; omega
  have L2 : Hid ((numsB x.ps).length ≤ 1048576) := by rw [Hid]; omega
  obtain ⟨S1, HS1⟩ : ∃ s, Hid (tx (numsB x.bs) = s) := ⟨_, rfl⟩
  obtain ⟨S2, HS2⟩ : ∃ s, Hid (tx (numsB x.ps) = s) := ⟨_, rfl⟩
  obtain ⟨S3, HS3⟩ : ∃ s, Hid (numS x.a = s) := ⟨_, rfl⟩
  obtain ⟨S4, HS4⟩ : ∃ s, Hid (numS x.r = s) := ⟨_, rfl⟩
  obtain ⟨⟨ha0, ha1⟩, ⟨hr0, hr1⟩⟩ := And.intro h1 h2
  clear h1 h2 h3 h4 h5 h6 h7 z1 z2 z3 z4
  have hb0 := below_alloc' w (.cells #[.int .i64 x.a, .int .i64 x.r, .slice A1 n1 c1, .slice A2 n2 c2] 49)
  have kx := Blk.new w 49 #[.int .i64 x.a, .int .i64 x.r, .slice A1 n1 c1, .slice A2 n2 c2]
  have s1 := hs.below hb0
  have s2 := ht.below hb0
  have HT : Hid (headerT x = [headerW, S3, S4, S1, S2]) := by rw [Hid, headerT, HS1.out, HS2.out, HS3.out, HS4.out]
  have HHB : Hid (headerB x = putB (headerT x)) := rfl
  obtain ⟨Tx, HTx⟩ : ∃ T, Hid (headerT x = T) := ⟨_, rfl⟩
  obtain ⟨Bx, HBx⟩ : ∃ T, Hid (headerB x = T) := ⟨_, rfl⟩
  rw [HTx.out] at HPB HT HHB
  rw [HBx.out] at HHB ⊢
  obtain ⟨a, ra, bs, ps⟩ := x
  simp only at hb0 kx s1 s2 D1 D2 L1 L2 HS1 HS2 HS3 HS4 ha0 ha1 hr0 hr1 ⊢
  clear hs ht hr HTx HBx
  unfold hdV
  go_enter Try.func31, Try.ntmps31
  go_wp2_with fail
  generalize w.alloc (.cells #[.int .i64 a, .int .i64 ra, .slice A1 n1 c1, .slice A2 n2 c2] 49) = w1 at hb0 kx s1 s2 ⊢
  obtain ⟨g, hg⟩ : ∃ g, w.heap.size = g := ⟨_, rfl⟩
  have HG := hide hg
  have hgw := kx.lt
  rw [hg] at kx hgw ⊢
  clear hg
  refine (ref2_Nums_yes _ s1 (by omega) D1.out L1.out).mono ?_
  rintro e w2 ⟨v2, rfl, o1, hb1⟩
  have kx2 := kx.later hb1
  have hbA := below_then hb0 hb1
  have t2 := s2.below hb1
  obtain ⟨A3, c3, rfl⟩ := own_slice o1
  have y3 : w2.cell? ⟨g, 3, none⟩ = some (.slice A2 n2 c2) := kx2.at_ rfl
  clear hb1 hb0 kx s1 s2
  go_wp2_with fail
  refine (ref2_Nums_yes _ t2 (by omega) D2.out L2.out).mono ?_
  rintro e w3 ⟨v3, rfl, o2, hb2⟩
  have kx3 := kx2.later hb2
  have hbB := below_then hbA hb2
  have o1b := own_later o1 hb2
  obtain ⟨A4, c4, rfl⟩ := own_slice o2
  have r1 := Sl.of_own o1b
  have r2 := Sl.of_own o2
  clear hb2 hbA kx2 t2 o1 o2 o1b y3
  go_wp2_with fail
  have q0 : w3.cell? ⟨g, 0, none⟩ = some (.int .i64 a) := kx3.at_ rfl
  have q1 : w3.cell? ⟨g, 1, none⟩ = some (.int .i64 ra) := kx3.at_ rfl
  have hbc := Below.refl w3.heap.size w3
  (first | (go_region_held3 (fun w' => w'.cell? ⟨g, 0, none⟩ = some (.int .i64 a) ∧ w'.cell? ⟨g, 1, none⟩ = some (.int .i64 ra) ∧ (convert 27 9 (.slice A3 (numsB bs).length c3)).run Try.prog w' = .ok (.string S1) w' ∧ (convert 27 9 (.slice A4 (numsB ps).length c4)).run Try.prog w' = .ok (.string S2) w')
    (first | exact ⟨(kx3.later (by first | exact hbc | exact hbc.drew | exact hbc.alloc hbc.size _ | exact (hbc.alloc hbc.size _).drew | exact ((hbc.alloc hbc.size _).alloc (by have := hbc.size; simp; try omega) _) | exact ((hbc.alloc hbc.size _).alloc (by have := hbc.size; simp; try omega) _).drew)).at_ rfl, (kx3.later (by first | exact hbc | exact hbc.drew | exact hbc.alloc hbc.size _ | exact (hbc.alloc hbc.size _).drew | exact ((hbc.alloc hbc.size _).alloc (by have := hbc.size; simp; try omega) _) | exact ((hbc.alloc hbc.size _).alloc (by have := hbc.size; simp; try omega) _).drew)).at_ rfl, conv_is Try.underlying27 Try.underlying5 Try.underlying9 (r1.below (by first | exact hbc | exact hbc.drew | exact hbc.alloc hbc.size _ | exact (hbc.alloc hbc.size _).drew | exact ((hbc.alloc hbc.size _).alloc (by have := hbc.size; simp; try omega) _) | exact ((hbc.alloc hbc.size _).alloc (by have := hbc.size; simp; try omega) _).drew)) HS1, conv_is Try.underlying27 Try.underlying5 Try.underlying9 (r2.below (by first | exact hbc | exact hbc.drew | exact hbc.alloc hbc.size _ | exact (hbc.alloc hbc.size _).drew | exact ((hbc.alloc hbc.size _).alloc (by have := hbc.size; simp; try omega) _) | exact ((hbc.alloc hbc.size _).alloc (by have := hbc.size; simp; try omega) _).drew)) HS2⟩ | go_keep)
    ((first
      | (go_at_call 53; ((with_reducible refine (ref4_num a _ (by omega) (by omega) HS3).mono ?_); rintro e w6 ⟨rfl, hb6⟩; have hbc := below_then (by first | exact hbc | exact hbc.drew | exact hbc.alloc hbc.size _ | exact (hbc.alloc hbc.size _).drew | exact ((hbc.alloc hbc.size _).alloc (by have := hbc.size; simp; try omega) _) | exact ((hbc.alloc hbc.size _).alloc (by have := hbc.size; simp; try omega) _).drew) hb6))
      | (go_at_call 53; ((with_reducible refine (ref4_num ra _ (by omega) (by omega) HS4).mono ?_); rintro e w6 ⟨rfl, hb6⟩; have hbc := below_then (by first | exact hbc | exact hbc.drew | exact hbc.alloc hbc.size _ | exact (hbc.alloc hbc.size _).drew | exact ((hbc.alloc hbc.size _).alloc (by have := hbc.size; simp; try omega) _) | exact ((hbc.alloc hbc.size _).alloc (by have := hbc.size; simp; try omega) _).drew) hb6))
      | (go_at_call 54; refine (ref2_Put _ (ls := [headerW, S3, S4, S1, S2]) (by first | exact Sl.of_blk (size := 1) (n := 5) (Blk.new _ 9 #[.string ⟨#[104, 101, 97, 100, 101, 114]⟩, .string S3, .string S4, .string S1, .string S2]) rfl | exact (Sl.of_blk (size := 1) (n := 5) (Blk.new _ 9 #[.string ⟨#[104, 101, 97, 100, 101, 114]⟩, .string S3, .string S4, .string S1, .string S2]) rfl).drew) (by omega) (by rw [← HT.out]; exact HPB.out)).mono ?_; rintro e w9 ⟨v9, rfl, own16, hb9⟩; have hz15 := Below.size (by first | exact hbc | exact hbc.drew | exact hbc.alloc hbc.size _ | exact (hbc.alloc hbc.size _).drew | exact ((hbc.alloc hbc.size _).alloc (by have := hbc.size; simp; try omega) _) | exact ((hbc.alloc hbc.size _).alloc (by have := hbc.size; simp; try omega) _).drew); have hbc := below_then (by first | exact hbc | exact hbc.drew | exact hbc.alloc hbc.size _ | exact (hbc.alloc hbc.size _).drew | exact ((hbc.alloc hbc.size _).alloc (by have := hbc.size; simp; try omega) _) | exact ((hbc.alloc hbc.size _).alloc (by have := hbc.size; simp; try omega) _).drew) hb9)
      | fail)))  | fail)
  all_goals
    have HBF := hide (below_then hbB hbc)
    have hz9 := hb9.size
    have hzB := hbB.size
    have hz10 := hbc.size
    rw [← HT.out, ← HHB.out] at own16
    have OWF := hide (own_mono (base' := w.heap.size) own16 (by have := Nat.le_trans hzB hz15; simp; omega))
    go_wp2_with fail
    go_ret
    exact ⟨_, rfl, OWF.out, HBF.out⟩
end Go.Proofs.Ytihpmaifcebpiaa
