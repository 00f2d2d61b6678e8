/-
  The walks of the laws of one kind of messages each: only, over RealExact's contract.
-/
import Derived.Test.YtebaojcfmkobjaaRealH
import Derived.Test.YtebaojcfmkobjaaSegZ
set_option linter.unusedVariables false
set_option linter.unusedSimpArgs false
namespace Go.Proofs.Ytebaojcfmkobjaa
open Go.RowKit

def sV (s : ScV) (l p : SlV) : ScV := ⟨s.li, l, p, s.wo, s.wi⟩
theorem set_l0 {N : Int} {s : ScV} {A : Option Addr} {n c : Nat} : (scC N s).setIfInBounds 2 (.slice A n c) = scC N (sV s ⟨A, n, c⟩ s.pu) := by kernel_rfl
theorem set_l {N : Int} {s : ScV} {l p : SlV} {A : Option Addr} {n c : Nat} : (scC N (sV s l p)).setIfInBounds 2 (.slice A n c) = scC N (sV s ⟨A, n, c⟩ p) := by kernel_rfl
theorem set_p {N : Int} {s : ScV} {l p : SlV} {A : Option Addr} {n c : Nat} : (scC N (sV s l p)).setIfInBounds 3 (.slice A n c) = scC N (sV s l ⟨A, n, c⟩) := by kernel_rfl
theorem scC_sz {N : Int} {s : ScV} : (scC N s).size = 6 := rfl
def zsV : ScV := ⟨⟨none, 0, 0⟩, ⟨none, 0, 0⟩, ⟨none, 0, 0⟩, ⟨none, 0, 0⟩, ⟨none, 0, 0⟩⟩
theorem alloc_scr (w : World) : (Instr.alloc 26 true (.tuple #[])).run Try.prog w = .ok (.pointer (some ⟨w.heap.size, 0, none⟩)) (w.alloc (.cells (scC 0 zsV) 26)) := by
  simp [go_sem, scC, zsV]
theorem one_scr {N : Int} {s : ScV} {C : Array Value} (h : C = scC N s) : ∀ z ∈ C.toList, z.oneCell' = true := by subst h; simp [scC, Value.oneCell']
theorem info_bool3 : (Try.prog.info? 4).map (fun i => (i.zero, i.size, i.bytes)) = some (some (.bool false), 1, 1) := by kernel_rfl
theorem bools_len (l : List Bool) : (bools l).length = l.length := by simp [bools]
theorem bools_snoc (l : List Bool) (b : Bool) : bools (l ++ [b]) = bools l ++ [.bool b] := by simp [bools]
theorem one_bool (b : Bool) : ∀ u ∈ [Value.bool b], u.oneCell' = true := by simp [Value.oneCell']
def OwnR (w : World) (B : Nat) (e : TypeId) (size : Nat) (v : Value) (n : Nat) (xs : List Value) : Prop := w.ownsRow B e size v n xs
theorem OwnR.below {w w' : World} {B n size : Nat} {e : TypeId} {v : Value} {xs : List Value} (h : OwnR w B e size v n xs) (hb : Below w.heap.size w w') : OwnR w' B e size v n xs := own_later h hb
structure ElI (W0 : World) (ys : List (MsD × MsV)) : Prop where
  all : ∀ p ∈ ys, MsS W0 p.1 p.2 ∧ MsL p.1 p.2 ∧ p.2.ds.n * 8 ≤ 140737488355328
theorem ElI.nil {W0 : World} : ElI W0 [] := ⟨fun p h => by simp at h⟩
theorem ElI.snoc {W0 : World} {ys : List (MsD × MsV)} {x : MsD} {v : MsV} (h : ElI W0 ys) (h1 : MsS W0 x v) (h2 : MsL x v) (h3 : v.ds.n * 8 ≤ 140737488355328) : ElI W0 (ys ++ [(x, v)]) := ⟨fun p hp => by
  rcases List.mem_append.1 hp with hp | hp
  · exact h.all p hp
  · obtain rfl : p = (x, v) := by simpa using hp
    exact ⟨h1, h2, h3⟩⟩
theorem Msgs.of_own {w : World} {B c : Nat} {A : Option Addr} {ys : List (MsD × MsV)} (ho : w.ownsRow B 42 18 (.slice A ys.length c) ys.length (flat ys)) (he : ∀ p ∈ ys, MsS w p.1 p.2 ∧ MsL p.1 p.2 ∧ p.2.ds.n * 8 ≤ 140737488355328) : Msgs w A ys.length ys := by
  refine ⟨rfl, fun k p hp => ?_⟩
  have hk := lt_of_at hp
  obtain ⟨gl, c', e, _, hlt⟩ := ho.form (by omega)
  injection e with e1 _ e2
  subst e1; subst e2
  obtain ⟨h1, h2, h3⟩ := he p (mem_of_at hp)
  refine ⟨⟨gl, 0, rfl, hlt, fun i z hz => ?_⟩, h1, h2, h3⟩
  have hi := msC_in hz
  rw [Nat.zero_add, ho.cellAt (k * 18 + i) (by omega)]
  exact flat_at hp i z hz
theorem scr_mk {W0 w : World} {s : ScV} {ls : List Int} {xs ys : List (MsD × MsV)} {pb qs : List Bool} {who wch : List Int} {AL AP : Option Addr} {cL cP B B' : Nat} (h : Scr W0 s ls xs pb who wch) (hb : Below W0.heap.size W0 w)
    (hl : w.ownsRow B 42 18 (.slice AL ys.length cL) ys.length (flat ys)) (he : ElI W0 ys) (hp : w.ownsRow B' 4 1 (.slice AP qs.length cP) qs.length (bools qs)) : Scr w (sV s ⟨AL, ys.length, cL⟩ ⟨AP, qs.length, cP⟩) ls ys qs who wch :=
  ⟨h.li.below hb, Msgs.of_own hl (fun p hp => ⟨(he.all p hp).1.below hb, (he.all p hp).2⟩), Sl.of_own hp, h.wo.below hb, h.wi.below hb⟩
theorem own_own_ne {w : World} {B1 B2 n1 n2 s1 s2 : Nat} {e1 e2 : TypeId} {v1 v2 : Value} {xs1 xs2 : List Value} (h1 : w.ownsRow B1 e1 s1 v1 n1 xs1) (h2 : w.ownsRow B2 e2 s2 v2 n2 xs2) (hne : e1 ≠ e2) {b : Nat} (hb : v1.ownBlock = some b) : v2.ownBlock ≠ some b := by
  intro hb2
  rcases h1.2 with ⟨rfl, _⟩ | ⟨g, c, cur, rfl, _, hg, _⟩
  · cases hb
  · rcases h2.2 with ⟨rfl, _⟩ | ⟨g2, c2, cur2, rfl, _, hg2, _⟩
    · cases hb2
    · injection hb with hb
      injection hb2 with hb2
      subst hb; subst hb2
      rw [hg] at hg2
      injection hg2 with hg2
      injection hg2 with _ e _
      exact hne e
theorem own_keep {w w' : World} {B n size : Nat} {e : TypeId} {v : Value} {xs : List Value} {row : Option Nat} (h : w.ownsRow B e size v n xs) (hg : w.grownBy w' row) (hne : ∀ b, row = some b → v.ownBlock ≠ some b) : w'.ownsRow B e size v n xs :=
  own_at h (fun b hb => (Chg.of_grown (F := fun q => row = some q) hg (fun q e => .inl e)).at_ (own_in h hb) (fun e => hne b e hb))
theorem below_grown_own {W0 w w' : World} {n size : Nat} {e : TypeId} {v : Value} {xs : List Value} (hb : Below W0.heap.size W0 w) (h : w.ownsRow W0.heap.size e size v n xs) (hg : w.grownBy w' v.ownBlock) : Below W0.heap.size W0 w' := hb.grown hg hb.size (fun b hb => (h.lt b hb).1)

set_option maxRecDepth 100000 in
set_option maxHeartbeats 4000000 in
theorem law8_only (kk : Int) (N : Int) (s : ScV) (ls : List Int) (xs : List (MsD × MsV)) (pb : List Bool) (who wch : List Int) (w : World) (HS : Hid (Scr w s ls xs pb who wch)) (HZ : Hid (ScZ s who wch)) {C : Array Value} (HC : Hid (C = scC N s)) :
    Calls Try.prog 33 #[.agg C, .int .i64 kk] w fun e w' => e = .returned (.bool true) ∧ Below w.heap.size w w' := by

  go_enter Try.func33, Try.ntmps33
  refine act_off 58 [(0, .agg C), (1, .int .i64 kk)] (Frm.start rfl (by intro p hp; simp only [List.mem_cons, List.not_mem_nil, or_false] at hp; rcases hp with rfl | rfl <;> rfl)) (fun a0 hM => ?_)
  have HB2 : Hid (Below w.heap.size w w) := Below.refl _ _
  refine region_then fun K3 QK3 hK3 => ?_
  refine s_alloc (e := 26) hM (.inl rfl) rfl rfl (V := fun g => .pointer (some ⟨g, 0, none⟩)) (ev_box hM rfl rfl) (fun g4 a10 w5 hM9 KB8_ hb6 hg7 => ?_)
  have KB8 := hide KB8_
  clear hM KB8_
  clear hg7
  have HB11 := hide (below_then HB2.out hb6)
  clear hb6 HB2
  have HB13 : Hid (Below w5.heap.size w5 w5) := Below.refl _ _
  refine s_val hM9 (.inl rfl) rfl rfl (ev_move (.inr rfl) rfl) (fun a15 hM14 => ?_)
  clear hM9
  refine seg_nil (hK3 _ _ ?_)
  clear hK3 K3 QK3
  have hM16 := hM14.cut2 (t1 := 1) (t2 := 2) rfl rfl
  clear hM14
  have HB00 := HB11
  have HS_ := hide (HS.out.below HB11.out)
  have KB17 := hide (KB8.out.on HB13.out)
  clear HS KB8 HB11 HB13
  have HS := HS_
  clear HS_
  have HB19 : Hid (Below w5.heap.size w5 w5) := Below.refl _ _
  refine region_then fun K20 QK20 hK20 => ?_
  refine s_val hM16 (.inl rfl) rfl rfl (ev_loadm rfl rfl (KB17.out.on HB19.out).rng Try.underlying26 rfl (by rw [HC.out]; exact info_scr)) (fun a22 hM21 => ?_)
  clear hM16
  refine s_new hM21 rfl rfl rfl rfl alloc_scr rfl rfl rfl rfl (by rw [HC.out]; exact info_scr) (by rw [HC.out]; rfl) (one_scr HC.out) (fun g23 a29 w24 hM28 KB27_ hb25 hg26 => ?_)
  have KB27 := hide KB27_
  clear hM21 KB27_
  have lo30 := hide (Nat.le_trans HB19.out.size hg26)
  clear hg26
  have HB31 := hide (below_then HB19.out hb25)
  clear hb25 HB19
  have HB33 : Hid (Below w24.heap.size w24 w24) := Below.refl _ _
  have HG5 := lo30
  refine seg_nil (hK20 _ _ ?_)
  clear hK20 K20 QK20
  have hM34 := hM28.cut3 (t1 := 1) (t2 := 2) (t3 := 5) rfl rfl rfl
  clear hM28
  refine region_then fun K35 QK35 hK35 => ?_
  refine s_val hM34 (.inl rfl) rfl rfl (ev_fldw (m := 2) rfl rfl (fun w => by simp [go_sem])) (fun a37 hM36 => ?_)
  clear hM34
  refine s_put hM36 rfl rfl rfl rfl rfl (KB27.out.on HB33.out) (by rw [HC.out, scC_sz]; decide) (st_slice Try.underlying23 (by kernel_rfl)) (fun w38 KB39_ hg40 => ?_)
  have KB39 : Hid (Blk w38 g23 26 (scC N (sV s ⟨none, 0, 0⟩ s.pu))) := by have h := KB39_; rw [HC.out, set_l0] at h; exact h
  clear KB39_
  have HB41 := hide (below_of_grown HB31.out hg40 HB31.out.size lo30.out)
  clear HB31 HB33 hg40
  have HB43 : Hid (Below w38.heap.size w38 w38) := Below.refl _ _
  refine seg_nil (hK35 _ _ ?_)
  clear hK35 K35 QK35
  have hM44 := hM36.cut3 (t1 := 1) (t2 := 2) (t3 := 5) rfl rfl rfl
  clear hM36
  refine region_then fun K45 QK45 hK45 => ?_
  refine s_val hM44 (.inl rfl) rfl rfl (ev_fldw (m := 3) rfl rfl (fun w => by simp [go_sem])) (fun a47 hM46 => ?_)
  clear hM44
  refine s_put hM46 rfl rfl rfl rfl rfl (KB39.out.on HB43.out) (by rw [scC_sz]; decide) (st_slice Try.underlying24 (by kernel_rfl)) (fun w48 KB49_ hg50 => ?_)
  have KB49 : Hid (Blk w48 g23 26 (scC N (sV s ⟨none, 0, 0⟩ ⟨none, 0, 0⟩))) := by have h := KB49_; rw [set_p] at h; exact h
  clear KB49_
  have HB51 := hide (below_of_grown HB41.out hg50 HB41.out.size lo30.out)
  clear HB41 HB43 hg50
  have HB53 : Hid (Below w48.heap.size w48 w48) := Below.refl _ _
  refine seg_nil (hK45 _ _ ?_)
  clear hK45 K45 QK45
  have hM54 := hM46.cut3 (t1 := 1) (t2 := 2) (t3 := 5) rfl rfl rfl
  clear hM46
  refine wp_seq_k fun K55 hK55 => ?_
  refine region_then fun K56 QK56 hK56 => ?_
  refine s_val hM54 (.inl rfl) rfl rfl (ev_move (.inr rfl) rfl) (fun a58 hM57 => ?_)
  clear hM54
  refine seg_nil (hK56 _ _ ?_)
  clear hK56 K56 QK56
  have hM59 := hM57.cut4 (t1 := 1) (t2 := 2) (t3 := 5) (t4 := 6) rfl rfl rfl rfl
  clear hM57
  have HOL : Hid (OwnR w48 w5.heap.size 42 18 (.slice none 0 0) 0 (flat [])) := World.ownsRow_nil _ _ _ _
  have HOP : Hid (OwnR w48 w5.heap.size 4 1 (.slice none 0 0) 0 (bools [])) := World.ownsRow_nil _ _ _ _
  have HEL := hide (ElI.nil (W0 := w5))
  have HLN : Hid (([] : List (MsD × MsV)).length ≤ 0 ∧ ([] : List Bool).length ≤ 0 ∧ 0 ≤ 12) := ⟨Nat.le_refl _, Nat.le_refl _, by omega⟩
  have HK5 := hide (KB49.out.on HB53.out)
  have hM60 := hM59.cut4 (t1 := 6) (t2 := 1) (t3 := 2) (t4 := 5) rfl rfl rfl rfl
  clear hM59
  refine wp_join (fun a w' => ∃ (j : Nat) (AL : Option Addr) (cL : Nat) (ys : List (MsD × MsV)) (AP : Option Addr) (cP : Nat) (qs : List Bool), Frm a 58 [(1, .int .i64 kk), (2, .pointer (some ⟨g4, 0, none⟩)), (5, .pointer (some ⟨g23, 0, none⟩))] ∧ Hid (Below w5.heap.size w5 w') ∧ Hid (Blk w' g23 26 (scC N (sV s ⟨AL, ys.length, cL⟩ ⟨AP, qs.length, cP⟩))) ∧ Hid (OwnR w' w5.heap.size 42 18 (.slice AL ys.length cL) ys.length (flat ys)) ∧ Hid (OwnR w' w5.heap.size 4 1 (.slice AP qs.length cP) qs.length (bools qs)) ∧ Hid (ElI w5 ys) ∧ Hid (ys.length ≤ j ∧ qs.length ≤ j ∧ j ≤ 12)) ?_ ?_
  ·
    refine wp_block ?_
    refine wp_loop_ghost (fun m a w' => ∃ (j : Nat) (AL : Option Addr) (cL : Nat) (ys : List (MsD × MsV)) (AP : Option Addr) (cP : Nat) (qs : List Bool), m = s.l.n - j ∧ Frm a 58 [(6, .int .i64 (j : Int)), (1, .int .i64 kk), (2, .pointer (some ⟨g4, 0, none⟩)), (5, .pointer (some ⟨g23, 0, none⟩))] ∧ Hid (Below w5.heap.size w5 w') ∧ Hid (Blk w' g23 26 (scC N (sV s ⟨AL, ys.length, cL⟩ ⟨AP, qs.length, cP⟩))) ∧ Hid (OwnR w' w5.heap.size 42 18 (.slice AL ys.length cL) ys.length (flat ys)) ∧ Hid (OwnR w' w5.heap.size 4 1 (.slice AP qs.length cP) qs.length (bools qs)) ∧ Hid (ElI w5 ys) ∧ Hid (ys.length ≤ j ∧ qs.length ≤ j ∧ j ≤ 12)) s.l.n ⟨0, none, 0, [], none, 0, [],  by omega, hM60, HB51, HK5, HOL, HOP, HEL, HLN⟩ ?_
    clear HB51 HB53 hM60 HOL HOP HEL HLN HK5
    rintro m65 a62 w61 ⟨j, AL, cL, ys, AP, cP, qs, rfl, hM63, HB64, HK5, HOL, HOP, HEL, HLN⟩
    have HB67 : Hid (Below w61.heap.size w61 w61) := Below.refl _ _
    refine wp_seq_k fun K68 hK68 => ?_
    by_cases hlt : j < s.l.n
    case neg =>
      refine region_then fun K69 QK69 hK69 => ?_
      refine s_val hM63 (.inl rfl) rfl rfl (ev_move (.inl rfl) rfl) (fun a71 hM70 => ?_)
      clear hM63
      refine s_val hM70 (.inl rfl) rfl rfl (ev_fldw (m := 2) rfl rfl (fun w => by simp [go_sem])) (fun a73 hM72 => ?_)
      clear hM70
      refine s_val hM72 (.inl rfl) rfl rfl (ev_load1 (v := .slice (s.l.A) (s.l.n) (s.l.c)) rfl rfl ((KB17.out.on HB64.out).rng.at_ (m := 2) (by rw [HC.out]; rfl)) (isAgg_no Try.underlying23 rfl)) (fun a75 hM74 => ?_)
      clear hM72
      refine s_val hM74 (.inl rfl) rfl rfl (ev_len rfl rfl Try.underlying23) (fun a77 hM76 => ?_)
      clear hM74
      refine s_val hM76 (.inl rfl) rfl rfl (ev_bin rfl rfl rfl g_int (b_lss (b := false) (by rw [decide_eq_false_iff_not]; omega))) (fun a79 hM78 => ?_)
      clear hM76
      refine s_val hM78 (.inl rfl) rfl rfl (ev_move (.inl rfl) rfl) (fun a81 hM80 => ?_)
      clear hM78
      refine s_skip hM80 rfl rfl rfl rfl rfl rfl (fun a83 hM82 => ?_)
      clear hM80
      refine s_skip hM82 rfl rfl rfl rfl rfl rfl (fun a85 hM84 => ?_)
      clear hM82
      refine s_val hM84 (.inl rfl) rfl rfl (ev_pick rfl rfl rfl) (fun a87 hM86 => ?_)
      clear hM84
      refine seg_nil (hK69 _ _ ?_)
      clear hK69 K69 QK69
      have hM88 := hM86.cut5 (t1 := 1) (t2 := 2) (t3 := 5) (t4 := 6) (t5 := 18) rfl rfl rfl rfl rfl
      clear hM86
      refine wp_cond_false (hM88.ev (t := 18) rfl) ?_
      refine wp_exit ?_
      repeat (with_reducible refine th_e ?_)
      refine inb_e ?_
      have hM89 := hM88.cut3 (t1 := 1) (t2 := 2) (t3 := 5) rfl rfl rfl
      clear hM88
      exact jq_n ⟨j, AL, cL, ys, AP, cP, qs, hM89, HB64, hide (HK5.out.on HB67.out), (hide (HOL.out.below HB67.out)), (hide (HOP.out.below HB67.out)), HEL, HLN⟩
    case pos =>
      by_cases hlt2 : j < 12
      case neg =>
        refine region_then fun K90 QK90 hK90 => ?_
        refine s_val hM63 (.inl rfl) rfl rfl (ev_move (.inl rfl) rfl) (fun a92 hM91 => ?_)
        clear hM63
        refine s_val hM91 (.inl rfl) rfl rfl (ev_fldw (m := 2) rfl rfl (fun w => by simp [go_sem])) (fun a94 hM93 => ?_)
        clear hM91
        refine s_val hM93 (.inl rfl) rfl rfl (ev_load1 (v := .slice (s.l.A) (s.l.n) (s.l.c)) rfl rfl ((KB17.out.on HB64.out).rng.at_ (m := 2) (by rw [HC.out]; rfl)) (isAgg_no Try.underlying23 rfl)) (fun a96 hM95 => ?_)
        clear hM93
        refine s_val hM95 (.inl rfl) rfl rfl (ev_len rfl rfl Try.underlying23) (fun a98 hM97 => ?_)
        clear hM95
        refine s_val hM97 (.inl rfl) rfl rfl (ev_bin rfl rfl rfl g_int (b_lss (b := true) (by rw [decide_eq_true_eq]; omega))) (fun a100 hM99 => ?_)
        clear hM97
        refine s_val hM99 (.inl rfl) rfl rfl (ev_move (.inl rfl) rfl) (fun a102 hM101 => ?_)
        clear hM99
        refine s_val hM101 (.inr ⟨_, _, _, rfl, rfl, rfl⟩) rfl rfl (ev_move (.inl rfl) rfl) (fun a104 hM103 => ?_)
        clear hM101
        refine s_val hM103 (.inr ⟨_, _, _, rfl, rfl, rfl⟩) rfl rfl (ev_bin rfl rfl rfl g_int (b_lss (b := false) (by rw [decide_eq_false_iff_not]; omega))) (fun a106 hM105 => ?_)
        clear hM103
        refine s_val hM105 (.inl rfl) rfl rfl (ev_pick rfl rfl rfl) (fun a108 hM107 => ?_)
        clear hM105
        refine seg_nil (hK90 _ _ ?_)
        clear hK90 K90 QK90
        have hM109 := hM107.cut5 (t1 := 1) (t2 := 2) (t3 := 5) (t4 := 6) (t5 := 18) rfl rfl rfl rfl rfl
        clear hM107
        refine wp_cond_false (hM109.ev (t := 18) rfl) ?_
        refine wp_exit ?_
        repeat (with_reducible refine th_e ?_)
        refine inb_e ?_
        have hM110 := hM109.cut3 (t1 := 1) (t2 := 2) (t3 := 5) rfl rfl rfl
        clear hM109
        exact jq_n ⟨j, AL, cL, ys, AP, cP, qs, hM110, HB64, hide (HK5.out.on HB67.out), (hide (HOL.out.below HB67.out)), (hide (HOP.out.below HB67.out)), HEL, HLN⟩
      case pos =>
        have HLN3 : Hid (ys.length ≤ j + 1 ∧ qs.length ≤ j + 1 ∧ j + 1 ≤ 12) := ⟨Nat.le_succ_of_le HLN.out.1, Nat.le_succ_of_le HLN.out.2.1, by omega⟩
        refine region_then fun K111 QK111 hK111 => ?_
        refine s_val hM63 (.inl rfl) rfl rfl (ev_move (.inl rfl) rfl) (fun a113 hM112 => ?_)
        clear hM63
        refine s_val hM112 (.inl rfl) rfl rfl (ev_fldw (m := 2) rfl rfl (fun w => by simp [go_sem])) (fun a115 hM114 => ?_)
        clear hM112
        refine s_val hM114 (.inl rfl) rfl rfl (ev_load1 (v := .slice (s.l.A) (s.l.n) (s.l.c)) rfl rfl ((KB17.out.on HB64.out).rng.at_ (m := 2) (by rw [HC.out]; rfl)) (isAgg_no Try.underlying23 rfl)) (fun a117 hM116 => ?_)
        clear hM114
        refine s_val hM116 (.inl rfl) rfl rfl (ev_len rfl rfl Try.underlying23) (fun a119 hM118 => ?_)
        clear hM116
        refine s_val hM118 (.inl rfl) rfl rfl (ev_bin rfl rfl rfl g_int (b_lss (b := true) (by rw [decide_eq_true_eq]; omega))) (fun a121 hM120 => ?_)
        clear hM118
        refine s_val hM120 (.inl rfl) rfl rfl (ev_move (.inl rfl) rfl) (fun a123 hM122 => ?_)
        clear hM120
        refine s_val hM122 (.inr ⟨_, _, _, rfl, rfl, rfl⟩) rfl rfl (ev_move (.inl rfl) rfl) (fun a125 hM124 => ?_)
        clear hM122
        refine s_val hM124 (.inr ⟨_, _, _, rfl, rfl, rfl⟩) rfl rfl (ev_bin rfl rfl rfl g_int (b_lss (b := true) (by rw [decide_eq_true_eq]; omega))) (fun a127 hM126 => ?_)
        clear hM124
        refine s_val hM126 (.inl rfl) rfl rfl (ev_pick rfl rfl rfl) (fun a129 hM128 => ?_)
        clear hM126
        refine seg_nil (hK111 _ _ ?_)
        clear hK111 K111 QK111
        have hM130 := hM128.cut5 (t1 := 1) (t2 := 2) (t3 := 5) (t4 := 6) (t5 := 18) rfl rfl rfl rfl rfl
        clear hM128
        refine wp_cond_true (hM130.ev (t := 18) rfl) ?_
        refine wp_skip ?_
        refine hK68 _ _ ?_
        refine wp_seq_k fun K131 hK131 => ?_
        refine wp_block ?_
        refine wp_seq_k fun K132 hK132 => ?_
        obtain ⟨x, v, hxv_⟩ : ∃ x v, xs[j]? = some (x, v) := ⟨_, _, List.getElem?_eq_getElem (by rw [HS.out.l.1]; omega)⟩
        have hxv := hide hxv_
        clear hxv_
        have HMA := hide (HS.out.l.2 j (x, v) hxv.out)
        obtain ⟨bb, off, hA, hbl, hc⟩ := HMA.out.at_
        obtain ⟨MC, HMC⟩ : ∃ C : Array Value, Hid (C = msC x v) := ⟨_, rfl⟩
        have HRMC : Hid (Rng w5 bb (off + j * 18) MC) := ⟨hbl, by rw [HMC.out]; exact hc⟩
        have HMS := hide HMA.out.s
        have HML := hide HMA.out.l
        have HMD := hide HMA.out.d
        clear hc hbl HMA
        by_cases hkk : x.k = kk
        case neg =>
          refine region_then fun K133 QK133 hK133 => ?_
          refine s_val hM130 (.inl rfl) rfl rfl (ev_fldw (m := 2) rfl rfl (fun w => by simp [go_sem])) (fun a135 hM134 => ?_)
          clear hM130
          refine s_val hM134 (.inl rfl) rfl rfl (ev_load1 (v := .slice (s.l.A) (s.l.n) (s.l.c)) rfl rfl ((KB17.out.on HB64.out).rng.at_ (m := 2) (by rw [HC.out]; rfl)) (isAgg_no Try.underlying23 rfl)) (fun a137 hM136 => ?_)
          clear hM134
          refine s_val hM136 (.inl rfl) rfl rfl (ev_move (.inl rfl) rfl) (fun a139 hM138 => ?_)
          clear hM136
          refine s_val hM138 (.inl rfl) rfl rfl (ev_idx (b := bb) (k := j) (sz := 18) (p := off + j * 18) rfl (by rw [← hA]; rfl) rfl Try.underlying23 (by kernel_rfl) hlt (by omega)) (fun a141 hM140 => ?_)
          clear hM138
          refine s_val hM140 (.inl rfl) rfl rfl (ev_fldw (m := off + j * 18) rfl rfl (fun w => by simp [go_sem])) (fun a143 hM142 => ?_)
          clear hM140
          refine s_val hM142 (.inl rfl) rfl rfl (ev_load1 (v := .int .i64 (x.k)) rfl rfl ((HRMC.out.below HB64.out).at_ (m := 0) (by rw [HMC.out]; rfl)) (isAgg_no Try.underlying3 rfl)) (fun a145 hM144 => ?_)
          clear hM142
          refine s_val hM144 (.inl rfl) rfl rfl (ev_move (.inl rfl) rfl) (fun a147 hM146 => ?_)
          clear hM144
          refine s_val hM146 (.inl rfl) rfl rfl (ev_bin rfl rfl rfl g_int (b_neq (b := true) (decide_eq_true hkk))) (fun a149 hM148 => ?_)
          clear hM146
          refine seg_nil (hK133 _ _ ?_)
          clear hK133 K133 QK133
          have hM150 := hM148.cut5 (t1 := 1) (t2 := 2) (t3 := 5) (t4 := 6) (t5 := 28) rfl rfl rfl rfl rfl
          clear hM148
          refine wp_cond_true (hM150.ev (t := 28) rfl) ?_
          refine wp_exit ?_
          repeat (with_reducible refine th_e ?_)
          refine inb_e ?_
          refine hK131 _ _ ?_
          refine region_last fun K151 QK151 hK151 => ?_
          refine s_val hM150 (.inl rfl) rfl rfl (ev_move (.inl rfl) rfl) (fun a153 hM152 => ?_)
          clear hM150
          refine s_val hM152 (.inl rfl) rfl rfl (ev_bin rfl rfl rfl g_int (b_add (r := ((j + 1 : Nat) : Int)) (by omega) (by omega))) (fun a155 hM154 => ?_)
          clear hM152
          refine s_val hM154 (.inl rfl) rfl rfl (ev_move (.inr rfl) rfl) (fun a157 hM156 => ?_)
          clear hM154
          refine seg_nil (hK151 _ _ ?_)
          clear hK151 K151 QK151
          have hM158 := hM156.cut4 (t1 := 1) (t2 := 2) (t3 := 5) (t4 := 6) rfl rfl rfl rfl
          clear hM156
          have hM159 := hM158.cut4 (t1 := 6) (t2 := 1) (t3 := 2) (t4 := 5) rfl rfl rfl rfl
          clear hM158
          exact ⟨s.l.n - (j + 1), by omega, j + 1, AL, cL, ys, AP, cP, qs, rfl, hM159, HB64, (hide (HK5.out.on HB67.out)), (hide (HOL.out.below HB67.out)), (hide (HOP.out.below HB67.out)), HEL, HLN3⟩
        case pos =>
          refine region_then fun K160 QK160 hK160 => ?_
          refine s_val hM130 (.inl rfl) rfl rfl (ev_fldw (m := 2) rfl rfl (fun w => by simp [go_sem])) (fun a162 hM161 => ?_)
          clear hM130
          refine s_val hM161 (.inl rfl) rfl rfl (ev_load1 (v := .slice (s.l.A) (s.l.n) (s.l.c)) rfl rfl ((KB17.out.on HB64.out).rng.at_ (m := 2) (by rw [HC.out]; rfl)) (isAgg_no Try.underlying23 rfl)) (fun a164 hM163 => ?_)
          clear hM161
          refine s_val hM163 (.inl rfl) rfl rfl (ev_move (.inl rfl) rfl) (fun a166 hM165 => ?_)
          clear hM163
          refine s_val hM165 (.inl rfl) rfl rfl (ev_idx (b := bb) (k := j) (sz := 18) (p := off + j * 18) rfl (by rw [← hA]; rfl) rfl Try.underlying23 (by kernel_rfl) hlt (by omega)) (fun a168 hM167 => ?_)
          clear hM165
          refine s_val hM167 (.inl rfl) rfl rfl (ev_fldw (m := off + j * 18) rfl rfl (fun w => by simp [go_sem])) (fun a170 hM169 => ?_)
          clear hM167
          refine s_val hM169 (.inl rfl) rfl rfl (ev_load1 (v := .int .i64 (x.k)) rfl rfl ((HRMC.out.below HB64.out).at_ (m := 0) (by rw [HMC.out]; rfl)) (isAgg_no Try.underlying3 rfl)) (fun a172 hM171 => ?_)
          clear hM169
          refine s_val hM171 (.inl rfl) rfl rfl (ev_move (.inl rfl) rfl) (fun a174 hM173 => ?_)
          clear hM171
          refine s_val hM173 (.inl rfl) rfl rfl (ev_bin rfl rfl rfl g_int (b_neq (b := false) (by simp [hkk]))) (fun a176 hM175 => ?_)
          clear hM173
          refine seg_nil (hK160 _ _ ?_)
          clear hK160 K160 QK160
          have hM177 := hM175.cut5 (t1 := 1) (t2 := 2) (t3 := 5) (t4 := 6) (t5 := 28) rfl rfl rfl rfl rfl
          clear hM175
          refine wp_cond_false (hM177.ev (t := 28) rfl) ?_
          refine wp_skip ?_
          refine hK132 _ _ ?_
          refine z_open 11 10 rfl (by kernel_rfl) (fun w' => Below w5.heap.size w5 w' ∧ Blk w' g23 26 (scC N (sV s ⟨AL, ys.length, cL⟩ ⟨AP, qs.length, cP⟩))) fun K178 w179 hb180 hK178 => ?_
          have HB182 := hide (below_then HB64.out hb180)
          have HB183 := hide (below_then HB67.out hb180)
          clear hb180 HB64 HB67
          have hS181 := And.intro HB182.out (HK5.out.on HB183.out)
          refine z_val 0 rfl rfl (by kernel_rfl) (by kernel_rfl) (by kernel_rfl) (by kernel_rfl) (by kernel_rfl) hM177 (.inl rfl) rfl rfl hS181 (fun w' hr => (ev_fldw (m := 2) rfl rfl (fun w => by simp [go_sem]))) (fun a185 hM184 => ?_)
          clear hM177
          refine z_val 1 rfl rfl (by kernel_rfl) (by kernel_rfl) (by kernel_rfl) (by kernel_rfl) (by kernel_rfl) hM184 (.inl rfl) rfl rfl hS181 (fun w' hr => (ev_load1 (v := .slice AL (ys.length) cL) rfl rfl (hr.2.rng.at_ (m := 2) rfl) (isAgg_no Try.underlying23 rfl))) (fun a187 hM186 => ?_)
          clear hM184
          refine z_val 2 rfl rfl (by kernel_rfl) (by kernel_rfl) (by kernel_rfl) (by kernel_rfl) (by kernel_rfl) hM186 (.inl rfl) rfl rfl hS181 (fun w' hr => (ev_fldw (m := 2) rfl rfl (fun w => by simp [go_sem]))) (fun a189 hM188 => ?_)
          clear hM186
          refine z_val 3 rfl rfl (by kernel_rfl) (by kernel_rfl) (by kernel_rfl) (by kernel_rfl) (by kernel_rfl) hM188 (.inl rfl) rfl rfl hS181 (fun w' hr => (ev_load1 (v := .slice (s.l.A) (s.l.n) (s.l.c)) rfl rfl ((KB17.out.on hr.1).rng.at_ (m := 2) (by rw [HC.out]; rfl)) (isAgg_no Try.underlying23 rfl))) (fun a191 hM190 => ?_)
          clear hM188
          refine z_val 4 rfl rfl (by kernel_rfl) (by kernel_rfl) (by kernel_rfl) (by kernel_rfl) (by kernel_rfl) hM190 (.inl rfl) rfl rfl hS181 (fun w' hr => (ev_move (.inl rfl) rfl)) (fun a193 hM192 => ?_)
          clear hM190
          refine z_val 5 rfl rfl (by kernel_rfl) (by kernel_rfl) (by kernel_rfl) (by kernel_rfl) (by kernel_rfl) hM192 (.inl rfl) rfl rfl hS181 (fun w' hr => (ev_idx (b := bb) (k := j) (sz := 18) (p := off + j * 18) rfl (by rw [← hA]; rfl) rfl Try.underlying23 (by kernel_rfl) hlt (by omega))) (fun a195 hM194 => ?_)
          clear hM192
          refine z_val 6 rfl rfl (by kernel_rfl) (by kernel_rfl) (by kernel_rfl) (by kernel_rfl) (by kernel_rfl) hM194 (.inl rfl) rfl rfl hS181 (fun w' hr => (ev_loadm rfl rfl (HRMC.out.below hr.1) Try.underlying42 rfl (by rw [HMC.out]; exact Try.infoMsg))) (fun a197 hM196 => ?_)
          clear hM194
          refine z_alloc (e := 42) 7 rfl (by kernel_rfl) hM196 (.inl rfl) rfl rfl (V := fun g => .slice (some ⟨g, 0, none⟩) 1 1) (ev_bsg (C := MC) hM196 rfl rfl (fun w => by rw [HMC.out]; kernel_rfl)) (fun g198 a204 w199 hM203 KB202 hb200 hg201 => ?_)
          have hS205 := And.intro (below_then hS181.1 hb200) (hS181.2.on hb200)
          refine ⟨hS205, ?_⟩
          have KB202 := hide KB202
          clear hM196 hg201
          have HB206 := hide (below_then HB182.out hb200)
          have HB207 := hide (below_then HB183.out hb200)
          clear hb200 HB182 HB183
          have HB209 : Hid (Below w199.heap.size w199 w199) := Below.refl _ _
          obtain ⟨i0, hi, hz0, hz1, hz2⟩ := info_parts info_msg3
          have hO := (HOL.out.below HB207.out)
          have hP := (HOP.out.below HB207.out)
          have hK5 := hS205.2
          refine z_append 8 rfl (by kernel_rfl) hM203 (.inl rfl) rfl rfl rfl w5.heap.size 42 i0 (.agg (msC zM zV)) 18 256 Try.underlying23 hi hz0 hz1 hz2 rfl (by decide) ys.length (flat ys) rfl hO ⟨g198, 0, none⟩ 1 1 MC.toList rfl (by rw [HMC.out]; rfl) (news_row (KB202.out.on HB209.out)) (one_msg HMC.out) (by have := HLN.out; unfold maxLen; omega) (by have := HLN.out; omega) hS205.1.size (fun V2 a211 w212 hM210 ho hgr hat => ?_)
          obtain ⟨AL2, cL2, rfl⟩ := own_slice ho
          rw [HMC.out] at ho
          have HO2 : Hid (OwnR w212 w5.heap.size 42 18 (.slice AL2 (ys ++ [(x, v)]).length cL2) (ys ++ [(x, v)]).length (flat (ys ++ [(x, v)]))) := by rw [flat_snoc, List.length_append]; exact ho
          have HP2 := hide (show OwnR _ _ _ _ _ _ _ from own_keep hP hgr (fun b hb => own_own_ne hO hP (by decide) hb))
          have hS213 := And.intro (below_grown_own hS205.1 hO hgr) (hK5.grown hgr (Ne.symm (own_blk_ne hO hK5 (by decide))))
          refine ⟨hS213, ?_⟩
          have HB214 := hide hS213.1
          have KB215 := hide hS213.2
          clear hO hP hK5 ho hgr hat hM203 HOL HOP HB206 HB207 HB209
          have HOL := HO2
          have HOP := HP2
          clear HO2 HP2
          have HB217 : Hid (Below w212.heap.size w212 w212) := Below.refl _ _
          refine z_val 9 rfl rfl (by kernel_rfl) (by kernel_rfl) (by kernel_rfl) (by kernel_rfl) (by kernel_rfl) hM210 (.inl rfl) rfl rfl hS213 (fun w' hr => (ev_fldw (m := 2) rfl rfl (fun w => by simp [go_sem]))) (fun a219 hM218 => ?_)
          clear hM210
          refine z_put (v := .slice AL2 ((ys.length + 1)) cL2) rfl (by kernel_rfl) hM218 rfl rfl rfl rfl rfl hS213.2 (by rw [scC_sz]; decide) (st_slice Try.underlying23 (by kernel_rfl)) (by kernel_rfl) (fun w220 kd hg => hK178 _ _ ?_)
          have KB221 : Hid (Blk w220 g23 26 (scC N (sV s ⟨AL2, (ys ++ [(x, v)]).length, cL2⟩ ⟨AP, qs.length, cP⟩))) := by
            have h := kd
            have e : (ys ++ [(x, v)]).length = ys.length + 1 := List.length_append
            rw [set_l] at h
            rw [e]
            exact h
          have hO := (HOL.out.below HB217.out)
          have hP := (HOP.out.below HB217.out)
          have HO2 := hide (show OwnR _ _ _ _ _ _ _ from own_keep hO hg (fun b hb => by injection hb with hb; subst hb; exact own_blk_ne hO hS213.2 (by decide)))
          have HP2 := hide (show OwnR _ _ _ _ _ _ _ from own_keep hP hg (fun b hb => by injection hb with hb; subst hb; exact own_blk_ne hP hS213.2 (by decide)))
          have HB222 := hide (hS213.1.grown hg hS213.1.size (fun b hb => by injection hb with hb; subst hb; exact HG5.out))
          clear kd hO hP hg HOL HOP hS213 HB214 HB217 KB215 hK178 K178
          have HOL := HO2
          have HOP := HP2
          clear HO2 HP2
          have HB224 : Hid (Below w220.heap.size w220 w220) := Below.refl _ _
          have hM225 := hM218.cut4 (t1 := 1) (t2 := 2) (t3 := 5) (t4 := 6) rfl rfl rfl rfl
          clear hM218
          have HEL2 := hide (HEL.out.snoc HMS.out HML.out HMD.out)
          by_cases hpu : j < s.pu.n
          case neg =>
            have HLN2 : Hid ((ys ++ [(x, v)]).length ≤ j + 1 ∧ (qs ++ [true]).length ≤ j + 1 ∧ j + 1 ≤ 12) := ⟨by rw [List.length_append]; exact Nat.succ_le_succ HLN.out.1, by rw [List.length_append]; exact Nat.succ_le_succ HLN.out.2.1, by omega⟩
            refine z_open_end 18 17 rfl (by kernel_rfl) (fun w' => Below w5.heap.size w5 w' ∧ Blk w' g23 26 (scC N (sV s ⟨AL2, (ys ++ [(x, v)]).length, cL2⟩ ⟨AP, qs.length, cP⟩))) fun K226 w227 hb228 hK226 => ?_
            have HB230 := hide (below_then HB222.out hb228)
            have HB231 := hide (below_then HB224.out hb228)
            clear hb228 HB222 HB224
            have hS229 := And.intro HB230.out (KB221.out.on HB231.out)
            refine z_val 0 rfl rfl (by kernel_rfl) (by kernel_rfl) (by kernel_rfl) (by kernel_rfl) (by kernel_rfl) hM225 (.inl rfl) rfl rfl hS229 (fun w' hr => (ev_fldw (m := 3) rfl rfl (fun w => by simp [go_sem]))) (fun a233 hM232 => ?_)
            clear hM225
            refine z_val 1 rfl rfl (by kernel_rfl) (by kernel_rfl) (by kernel_rfl) (by kernel_rfl) (by kernel_rfl) hM232 (.inl rfl) rfl rfl hS229 (fun w' hr => (ev_load1 (v := .slice AP (qs.length) cP) rfl rfl (hr.2.rng.at_ (m := 3) rfl) (isAgg_no Try.underlying24 rfl))) (fun a235 hM234 => ?_)
            clear hM232
            refine z_val 2 rfl rfl (by kernel_rfl) (by kernel_rfl) (by kernel_rfl) (by kernel_rfl) (by kernel_rfl) hM234 (.inl rfl) rfl rfl hS229 (fun w' hr => (ev_move (.inl rfl) rfl)) (fun a237 hM236 => ?_)
            clear hM234
            refine z_val 3 rfl rfl (by kernel_rfl) (by kernel_rfl) (by kernel_rfl) (by kernel_rfl) (by kernel_rfl) hM236 (.inl rfl) rfl rfl hS229 (fun w' hr => (ev_fldw (m := 3) rfl rfl (fun w => by simp [go_sem]))) (fun a239 hM238 => ?_)
            clear hM236
            refine z_val 4 rfl rfl (by kernel_rfl) (by kernel_rfl) (by kernel_rfl) (by kernel_rfl) (by kernel_rfl) hM238 (.inl rfl) rfl rfl hS229 (fun w' hr => (ev_load1 (v := .slice (s.pu.A) (s.pu.n) (s.pu.c)) rfl rfl ((KB17.out.on hr.1).rng.at_ (m := 3) (by rw [HC.out]; rfl)) (isAgg_no Try.underlying24 rfl))) (fun a241 hM240 => ?_)
            clear hM238
            refine z_val 5 rfl rfl (by kernel_rfl) (by kernel_rfl) (by kernel_rfl) (by kernel_rfl) (by kernel_rfl) hM240 (.inl rfl) rfl rfl hS229 (fun w' hr => (ev_len rfl rfl Try.underlying24)) (fun a243 hM242 => ?_)
            clear hM240
            refine z_val 6 rfl rfl (by kernel_rfl) (by kernel_rfl) (by kernel_rfl) (by kernel_rfl) (by kernel_rfl) hM242 (.inl rfl) rfl rfl hS229 (fun w' hr => (ev_bin rfl rfl rfl g_int (b_geq (b := true) (by rw [decide_eq_true_eq]; omega)))) (fun a245 hM244 => ?_)
            clear hM242
            refine z_val 7 rfl rfl (by kernel_rfl) (by kernel_rfl) (by kernel_rfl) (by kernel_rfl) (by kernel_rfl) hM244 (.inl rfl) rfl rfl hS229 (fun w' hr => (ev_move (.inl rfl) rfl)) (fun a247 hM246 => ?_)
            clear hM244
            refine z_skip 8 rfl rfl (by kernel_rfl) (by kernel_rfl) (by kernel_rfl) (by kernel_rfl) (by kernel_rfl) hM246 rfl rfl rfl rfl rfl rfl hS229 (fun a249 hM248 => ?_)
            clear hM246
            refine z_skip 9 rfl rfl (by kernel_rfl) (by kernel_rfl) (by kernel_rfl) (by kernel_rfl) (by kernel_rfl) hM248 rfl rfl rfl rfl rfl rfl hS229 (fun a251 hM250 => ?_)
            clear hM248
            refine z_skip 10 rfl rfl (by kernel_rfl) (by kernel_rfl) (by kernel_rfl) (by kernel_rfl) (by kernel_rfl) hM250 rfl rfl rfl rfl rfl rfl hS229 (fun a253 hM252 => ?_)
            clear hM250
            refine z_skip 11 rfl rfl (by kernel_rfl) (by kernel_rfl) (by kernel_rfl) (by kernel_rfl) (by kernel_rfl) hM252 rfl rfl rfl rfl rfl rfl hS229 (fun a255 hM254 => ?_)
            clear hM252
            refine z_skip 12 rfl rfl (by kernel_rfl) (by kernel_rfl) (by kernel_rfl) (by kernel_rfl) (by kernel_rfl) hM254 rfl rfl rfl rfl rfl rfl hS229 (fun a257 hM256 => ?_)
            clear hM254
            refine z_val 13 rfl rfl (by kernel_rfl) (by kernel_rfl) (by kernel_rfl) (by kernel_rfl) (by kernel_rfl) hM256 (.inl rfl) rfl rfl hS229 (fun w' hr => (ev_pick rfl rfl rfl)) (fun a259 hM258 => ?_)
            clear hM256
            refine z_alloc (e := 4) 14 rfl (by kernel_rfl) hM258 (.inl rfl) rfl rfl (V := fun g => .slice (some ⟨g, 0, none⟩) 1 1) (ev_bsg (C := #[.bool true]) hM258 rfl rfl (fun w => by kernel_rfl)) (fun g260 a266 w261 hM265 KB264 hb262 hg263 => ?_)
            have hS267 := And.intro (below_then hS229.1 hb262) (hS229.2.on hb262)
            refine ⟨hS267, ?_⟩
            have KB264 := hide KB264
            clear hM258 hg263
            have HB268 := hide (below_then HB230.out hb262)
            have HB269 := hide (below_then HB231.out hb262)
            clear hb262 HB230 HB231
            have HB271 : Hid (Below w261.heap.size w261 w261) := Below.refl _ _
            obtain ⟨i0, hi, hz0, hz1, hz2⟩ := info_parts info_bool3
            have hO := (HOP.out.below HB269.out)
            have hP := (HOL.out.below HB269.out)
            have hK5 := hS267.2
            refine z_append 15 rfl (by kernel_rfl) hM265 (.inl rfl) rfl rfl rfl w5.heap.size 4 i0 (.bool false) 1 1 Try.underlying24 hi hz0 hz1 hz2 rfl (by decide) qs.length (bools qs) rfl hO ⟨g260, 0, none⟩ 1 1 [.bool true] rfl rfl (news_blk (KB264.out.on HB271.out)) (one_bool _) (by have := HLN.out; unfold maxLen; omega) (by have := HLN.out; omega) hS267.1.size (fun V2 a273 w274 hM272 ho hgr hat => ?_)
            obtain ⟨AP2, cP2, rfl⟩ := own_slice ho
            have HO2 : Hid (OwnR w274 w5.heap.size 4 1 (.slice AP2 (qs ++ [true]).length cP2) (qs ++ [true]).length (bools (qs ++ [true]))) := by rw [bools_snoc, List.length_append]; exact ho
            have HP2 := hide (show OwnR _ _ _ _ _ _ _ from own_keep hP hgr (fun b hb => own_own_ne hO hP (by decide) hb))
            have hS275 := And.intro (below_grown_own hS267.1 hO hgr) (hK5.grown hgr (Ne.symm (own_blk_ne hO hK5 (by decide))))
            refine ⟨hS275, ?_⟩
            have HB276 := hide hS275.1
            have KB277 := hide hS275.2
            clear hO hP hK5 ho hgr hat hM265 HOP HOL HB268 HB269 HB271
            have HOP := HO2
            have HOL := HP2
            clear HO2 HP2
            have HB279 : Hid (Below w274.heap.size w274 w274) := Below.refl _ _
            refine z_val 16 rfl rfl (by kernel_rfl) (by kernel_rfl) (by kernel_rfl) (by kernel_rfl) (by kernel_rfl) hM272 (.inl rfl) rfl rfl hS275 (fun w' hr => (ev_fldw (m := 3) rfl rfl (fun w => by simp [go_sem]))) (fun a281 hM280 => ?_)
            clear hM272
            refine z_put (v := .slice AP2 ((qs.length + 1)) cP2) rfl (by kernel_rfl) hM280 rfl rfl rfl rfl rfl hS275.2 (by rw [scC_sz]; decide) (st_slice Try.underlying24 (by kernel_rfl)) (by kernel_rfl) (fun w282 kd hg => hK226 _ _ ?_)
            have KB283 : Hid (Blk w282 g23 26 (scC N (sV s ⟨AL2, (ys ++ [(x, v)]).length, cL2⟩ ⟨AP2, (qs ++ [true]).length, cP2⟩))) := by
              have h := kd
              have e : (qs ++ [true]).length = qs.length + 1 := List.length_append
              rw [set_p] at h
              rw [e]
              exact h
            have hO := (HOL.out.below HB279.out)
            have hP := (HOP.out.below HB279.out)
            have HO2 := hide (show OwnR _ _ _ _ _ _ _ from own_keep hO hg (fun b hb => by injection hb with hb; subst hb; exact own_blk_ne hO hS275.2 (by decide)))
            have HP2 := hide (show OwnR _ _ _ _ _ _ _ from own_keep hP hg (fun b hb => by injection hb with hb; subst hb; exact own_blk_ne hP hS275.2 (by decide)))
            have HB284 := hide (hS275.1.grown hg hS275.1.size (fun b hb => by injection hb with hb; subst hb; exact HG5.out))
            clear kd hO hP hg HOL HOP hS275 HB276 HB279 KB277 hK226 K226
            have HOL := HO2
            have HOP := HP2
            clear HO2 HP2
            have HB286 : Hid (Below w282.heap.size w282 w282) := Below.refl _ _
            have hM287 := hM280.cut4 (t1 := 1) (t2 := 2) (t3 := 5) (t4 := 6) rfl rfl rfl rfl
            clear hM280
            refine inb_n ?_
            refine hK131 _ _ ?_
            refine region_last fun K288 QK288 hK288 => ?_
            refine s_val hM287 (.inl rfl) rfl rfl (ev_move (.inl rfl) rfl) (fun a290 hM289 => ?_)
            clear hM287
            refine s_val hM289 (.inl rfl) rfl rfl (ev_bin rfl rfl rfl g_int (b_add (r := ((j + 1 : Nat) : Int)) (by omega) (by omega))) (fun a292 hM291 => ?_)
            clear hM289
            refine s_val hM291 (.inl rfl) rfl rfl (ev_move (.inr rfl) rfl) (fun a294 hM293 => ?_)
            clear hM291
            refine seg_nil (hK288 _ _ ?_)
            clear hK288 K288 QK288
            have hM295 := hM293.cut4 (t1 := 1) (t2 := 2) (t3 := 5) (t4 := 6) rfl rfl rfl rfl
            clear hM293
            have hM296 := hM295.cut4 (t1 := 6) (t2 := 1) (t3 := 2) (t4 := 5) rfl rfl rfl rfl
            clear hM295
            exact ⟨s.l.n - (j + 1), by omega, j + 1, AL2, cL2, (ys ++ [(x, v)]), AP2, cP2, (qs ++ [true]), rfl, hM296, HB284, (hide (KB283.out.on HB286.out)), (hide (HOL.out.below HB286.out)), (hide (HOP.out.below HB286.out)), HEL2, HLN2⟩
          case pos =>
            obtain ⟨bp, offp, pv, hAp, hcp, -⟩ := HS.out.pu.bool hpu
            have HCP := hide (CellAt.of hcp)
            clear hcp
            have HLN2 : Hid ((ys ++ [(x, v)]).length ≤ j + 1 ∧ (qs ++ [pv]).length ≤ j + 1 ∧ j + 1 ≤ 12) := ⟨by rw [List.length_append]; exact Nat.succ_le_succ HLN.out.1, by rw [List.length_append]; exact Nat.succ_le_succ HLN.out.2.1, by omega⟩
            refine z_open_end 18 17 rfl (by kernel_rfl) (fun w' => Below w5.heap.size w5 w' ∧ Blk w' g23 26 (scC N (sV s ⟨AL2, (ys ++ [(x, v)]).length, cL2⟩ ⟨AP, qs.length, cP⟩))) fun K297 w298 hb299 hK297 => ?_
            have HB301 := hide (below_then HB222.out hb299)
            have HB302 := hide (below_then HB224.out hb299)
            clear hb299 HB222 HB224
            have hS300 := And.intro HB301.out (KB221.out.on HB302.out)
            refine z_val 0 rfl rfl (by kernel_rfl) (by kernel_rfl) (by kernel_rfl) (by kernel_rfl) (by kernel_rfl) hM225 (.inl rfl) rfl rfl hS300 (fun w' hr => (ev_fldw (m := 3) rfl rfl (fun w => by simp [go_sem]))) (fun a304 hM303 => ?_)
            clear hM225
            refine z_val 1 rfl rfl (by kernel_rfl) (by kernel_rfl) (by kernel_rfl) (by kernel_rfl) (by kernel_rfl) hM303 (.inl rfl) rfl rfl hS300 (fun w' hr => (ev_load1 (v := .slice AP (qs.length) cP) rfl rfl (hr.2.rng.at_ (m := 3) rfl) (isAgg_no Try.underlying24 rfl))) (fun a306 hM305 => ?_)
            clear hM303
            refine z_val 2 rfl rfl (by kernel_rfl) (by kernel_rfl) (by kernel_rfl) (by kernel_rfl) (by kernel_rfl) hM305 (.inl rfl) rfl rfl hS300 (fun w' hr => (ev_move (.inl rfl) rfl)) (fun a308 hM307 => ?_)
            clear hM305
            refine z_val 3 rfl rfl (by kernel_rfl) (by kernel_rfl) (by kernel_rfl) (by kernel_rfl) (by kernel_rfl) hM307 (.inl rfl) rfl rfl hS300 (fun w' hr => (ev_fldw (m := 3) rfl rfl (fun w => by simp [go_sem]))) (fun a310 hM309 => ?_)
            clear hM307
            refine z_val 4 rfl rfl (by kernel_rfl) (by kernel_rfl) (by kernel_rfl) (by kernel_rfl) (by kernel_rfl) hM309 (.inl rfl) rfl rfl hS300 (fun w' hr => (ev_load1 (v := .slice (s.pu.A) (s.pu.n) (s.pu.c)) rfl rfl ((KB17.out.on hr.1).rng.at_ (m := 3) (by rw [HC.out]; rfl)) (isAgg_no Try.underlying24 rfl))) (fun a312 hM311 => ?_)
            clear hM309
            refine z_val 5 rfl rfl (by kernel_rfl) (by kernel_rfl) (by kernel_rfl) (by kernel_rfl) (by kernel_rfl) hM311 (.inl rfl) rfl rfl hS300 (fun w' hr => (ev_len rfl rfl Try.underlying24)) (fun a314 hM313 => ?_)
            clear hM311
            refine z_val 6 rfl rfl (by kernel_rfl) (by kernel_rfl) (by kernel_rfl) (by kernel_rfl) (by kernel_rfl) hM313 (.inl rfl) rfl rfl hS300 (fun w' hr => (ev_bin rfl rfl rfl g_int (b_geq (b := false) (by rw [decide_eq_false_iff_not]; omega)))) (fun a316 hM315 => ?_)
            clear hM313
            refine z_val 7 rfl rfl (by kernel_rfl) (by kernel_rfl) (by kernel_rfl) (by kernel_rfl) (by kernel_rfl) hM315 (.inl rfl) rfl rfl hS300 (fun w' hr => (ev_move (.inl rfl) rfl)) (fun a318 hM317 => ?_)
            clear hM315
            refine z_val 8 rfl rfl (by kernel_rfl) (by kernel_rfl) (by kernel_rfl) (by kernel_rfl) (by kernel_rfl) hM317 (.inr ⟨_, _, _, rfl, rfl, rfl⟩) rfl rfl hS300 (fun w' hr => (ev_fldw (m := 3) rfl rfl (fun w => by simp [go_sem]))) (fun a320 hM319 => ?_)
            clear hM317
            refine z_val 9 rfl rfl (by kernel_rfl) (by kernel_rfl) (by kernel_rfl) (by kernel_rfl) (by kernel_rfl) hM319 (.inr ⟨_, _, _, rfl, rfl, rfl⟩) rfl rfl hS300 (fun w' hr => (ev_load1 (v := .slice (s.pu.A) (s.pu.n) (s.pu.c)) rfl rfl ((KB17.out.on hr.1).rng.at_ (m := 3) (by rw [HC.out]; rfl)) (isAgg_no Try.underlying24 rfl))) (fun a322 hM321 => ?_)
            clear hM319
            refine z_val 10 rfl rfl (by kernel_rfl) (by kernel_rfl) (by kernel_rfl) (by kernel_rfl) (by kernel_rfl) hM321 (.inr ⟨_, _, _, rfl, rfl, rfl⟩) rfl rfl hS300 (fun w' hr => (ev_move (.inl rfl) rfl)) (fun a324 hM323 => ?_)
            clear hM321
            refine z_val 11 rfl rfl (by kernel_rfl) (by kernel_rfl) (by kernel_rfl) (by kernel_rfl) (by kernel_rfl) hM323 (.inr ⟨_, _, _, rfl, rfl, rfl⟩) rfl rfl hS300 (fun w' hr => (ev_idx (b := bp) (k := j) (sz := 1) (p := offp + j) rfl (by rw [← hAp]; rfl) rfl Try.underlying24 (by kernel_rfl) hpu (by omega))) (fun a326 hM325 => ?_)
            clear hM323
            refine z_val 12 rfl rfl (by kernel_rfl) (by kernel_rfl) (by kernel_rfl) (by kernel_rfl) (by kernel_rfl) hM325 (.inr ⟨_, _, _, rfl, rfl, rfl⟩) rfl rfl hS300 (fun w' hr => (ev_load1 (v := .bool pv) rfl rfl ((HCP.out.below hr.1)).2 (isAgg_no Try.underlying4 rfl))) (fun a328 hM327 => ?_)
            clear hM325
            refine z_val 13 rfl rfl (by kernel_rfl) (by kernel_rfl) (by kernel_rfl) (by kernel_rfl) (by kernel_rfl) hM327 (.inl rfl) rfl rfl hS300 (fun w' hr => (ev_pick rfl rfl rfl)) (fun a330 hM329 => ?_)
            clear hM327
            refine z_alloc (e := 4) 14 rfl (by kernel_rfl) hM329 (.inl rfl) rfl rfl (V := fun g => .slice (some ⟨g, 0, none⟩) 1 1) (ev_bsg (C := #[.bool pv]) hM329 rfl rfl (fun w => by kernel_rfl)) (fun g331 a337 w332 hM336 KB335 hb333 hg334 => ?_)
            have hS338 := And.intro (below_then hS300.1 hb333) (hS300.2.on hb333)
            refine ⟨hS338, ?_⟩
            have KB335 := hide KB335
            clear hM329 hg334
            have HB339 := hide (below_then HB301.out hb333)
            have HB340 := hide (below_then HB302.out hb333)
            clear hb333 HB301 HB302
            have HB342 : Hid (Below w332.heap.size w332 w332) := Below.refl _ _
            obtain ⟨i0, hi, hz0, hz1, hz2⟩ := info_parts info_bool3
            have hO := (HOP.out.below HB340.out)
            have hP := (HOL.out.below HB340.out)
            have hK5 := hS338.2
            refine z_append 15 rfl (by kernel_rfl) hM336 (.inl rfl) rfl rfl rfl w5.heap.size 4 i0 (.bool false) 1 1 Try.underlying24 hi hz0 hz1 hz2 rfl (by decide) qs.length (bools qs) rfl hO ⟨g331, 0, none⟩ 1 1 [.bool pv] rfl rfl (news_blk (KB335.out.on HB342.out)) (one_bool _) (by have := HLN.out; unfold maxLen; omega) (by have := HLN.out; omega) hS338.1.size (fun V2 a344 w345 hM343 ho hgr hat => ?_)
            obtain ⟨AP2, cP2, rfl⟩ := own_slice ho
            have HO2 : Hid (OwnR w345 w5.heap.size 4 1 (.slice AP2 (qs ++ [pv]).length cP2) (qs ++ [pv]).length (bools (qs ++ [pv]))) := by rw [bools_snoc, List.length_append]; exact ho
            have HP2 := hide (show OwnR _ _ _ _ _ _ _ from own_keep hP hgr (fun b hb => own_own_ne hO hP (by decide) hb))
            have hS346 := And.intro (below_grown_own hS338.1 hO hgr) (hK5.grown hgr (Ne.symm (own_blk_ne hO hK5 (by decide))))
            refine ⟨hS346, ?_⟩
            have HB347 := hide hS346.1
            have KB348 := hide hS346.2
            clear hO hP hK5 ho hgr hat hM336 HOP HOL HB339 HB340 HB342
            have HOP := HO2
            have HOL := HP2
            clear HO2 HP2
            have HB350 : Hid (Below w345.heap.size w345 w345) := Below.refl _ _
            refine z_val 16 rfl rfl (by kernel_rfl) (by kernel_rfl) (by kernel_rfl) (by kernel_rfl) (by kernel_rfl) hM343 (.inl rfl) rfl rfl hS346 (fun w' hr => (ev_fldw (m := 3) rfl rfl (fun w => by simp [go_sem]))) (fun a352 hM351 => ?_)
            clear hM343
            refine z_put (v := .slice AP2 ((qs.length + 1)) cP2) rfl (by kernel_rfl) hM351 rfl rfl rfl rfl rfl hS346.2 (by rw [scC_sz]; decide) (st_slice Try.underlying24 (by kernel_rfl)) (by kernel_rfl) (fun w353 kd hg => hK297 _ _ ?_)
            have KB354 : Hid (Blk w353 g23 26 (scC N (sV s ⟨AL2, (ys ++ [(x, v)]).length, cL2⟩ ⟨AP2, (qs ++ [pv]).length, cP2⟩))) := by
              have h := kd
              have e : (qs ++ [pv]).length = qs.length + 1 := List.length_append
              rw [set_p] at h
              rw [e]
              exact h
            have hO := (HOL.out.below HB350.out)
            have hP := (HOP.out.below HB350.out)
            have HO2 := hide (show OwnR _ _ _ _ _ _ _ from own_keep hO hg (fun b hb => by injection hb with hb; subst hb; exact own_blk_ne hO hS346.2 (by decide)))
            have HP2 := hide (show OwnR _ _ _ _ _ _ _ from own_keep hP hg (fun b hb => by injection hb with hb; subst hb; exact own_blk_ne hP hS346.2 (by decide)))
            have HB355 := hide (hS346.1.grown hg hS346.1.size (fun b hb => by injection hb with hb; subst hb; exact HG5.out))
            clear kd hO hP hg HOL HOP hS346 HB347 HB350 KB348 hK297 K297
            have HOL := HO2
            have HOP := HP2
            clear HO2 HP2
            have HB357 : Hid (Below w353.heap.size w353 w353) := Below.refl _ _
            have hM358 := hM351.cut4 (t1 := 1) (t2 := 2) (t3 := 5) (t4 := 6) rfl rfl rfl rfl
            clear hM351
            refine inb_n ?_
            refine hK131 _ _ ?_
            refine region_last fun K359 QK359 hK359 => ?_
            refine s_val hM358 (.inl rfl) rfl rfl (ev_move (.inl rfl) rfl) (fun a361 hM360 => ?_)
            clear hM358
            refine s_val hM360 (.inl rfl) rfl rfl (ev_bin rfl rfl rfl g_int (b_add (r := ((j + 1 : Nat) : Int)) (by omega) (by omega))) (fun a363 hM362 => ?_)
            clear hM360
            refine s_val hM362 (.inl rfl) rfl rfl (ev_move (.inr rfl) rfl) (fun a365 hM364 => ?_)
            clear hM362
            refine seg_nil (hK359 _ _ ?_)
            clear hK359 K359 QK359
            have hM366 := hM364.cut4 (t1 := 1) (t2 := 2) (t3 := 5) (t4 := 6) rfl rfl rfl rfl
            clear hM364
            have hM367 := hM366.cut4 (t1 := 6) (t2 := 1) (t3 := 2) (t4 := 5) rfl rfl rfl rfl
            clear hM366
            exact ⟨s.l.n - (j + 1), by omega, j + 1, AL2, cL2, (ys ++ [(x, v)]), AP2, cP2, (qs ++ [pv]), rfl, hM367, HB355, (hide (KB354.out.on HB357.out)), (hide (HOL.out.below HB357.out)), (hide (HOP.out.below HB357.out)), HEL2, HLN2⟩
  ·
    clear HB51 HB53 hM60 HOL HOP HEL HLN HK5
    rintro a370 w368 ⟨j, AL, cL, ys, AP, cP, qs, hM369, HB371, HK5, HOL, HOP, HEL, HLN⟩
    have HB373 : Hid (Below w368.heap.size w368 w368) := Below.refl _ _
    refine hK55 _ _ ?_
    refine region_then fun K374 QK374 hK374 => ?_
    refine s_val hM369 (.inl rfl) rfl rfl (ev_loadm rfl rfl (HK5.out.on HB373.out).rng Try.underlying26 rfl info_scr) (fun a376 hM375 => ?_)
    clear hM369
    refine s_call hM375 (.inl rfl) rfl rfl (f := 3) (args := #[.agg ((scC N (sV s ⟨AL, ys.length, cL⟩ ⟨AP, qs.length, cP⟩)))]) (ev_call hM375 rfl rfl rfl (fun w => by simp [go_sem]) _) (real_exact N (sV s ⟨AL, ys.length, cL⟩ ⟨AP, qs.length, cP⟩) ls ys qs who wch _ (hide (scr_mk HS.out HB371.out (HOL.out.below HB373.out) HEL.out (HOP.out.below HB373.out))) (hide ⟨HZ.out.li, (by have h := HLN.out; show ys.length ≤ 9223372036854775807; omega), (by have h := HLN.out; show qs.length ≤ 9223372036854775807; omega), HZ.out.wo, HZ.out.wi, HZ.out.zo, HZ.out.zi⟩) (hide rfl)) (fun e w377 hp => ?_)
    obtain ⟨rfl, hb378⟩ := hp
    refine ⟨_, rfl, fun a380 hM379 => ?_⟩
    clear hM375
    have HB381 := hide (below_then HB371.out hb378)
    have HB382 := hide (below_then HB373.out hb378)
    clear hb378 HB371 HB373
    refine s_val hM379 (.inl rfl) rfl rfl (ev_move (.inr rfl) rfl) (fun a384 hM383 => ?_)
    clear hM379
    refine seg_nil (hK374 _ _ ?_)
    clear hK374 K374 QK374
    have hM385 := hM383.cut1 (t1 := 4) rfl
    clear hM383
    refine wp_ret ?_
    repeat (with_reducible first | refine th_r ?_ | refine inb_r ?_ | refine js_r ?_ | refine jq_r ?_)
    refine ret_of (t := 4) rfl hM385 rfl ?_
    exact ⟨rfl, below_then HB00.out HB381.out⟩
end Go.Proofs.Ytebaojcfmkobjaa
