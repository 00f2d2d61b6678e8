/-
  The walk of RealOne: whatever the script, the call answers true and changes nothing that was there.
-/
import Derived.Test.YtebaojcfmkobjaaRealR
set_option linter.unusedVariables false
set_option linter.unusedSimpArgs false
namespace Go.Proofs.Ytebaojcfmkobjaa
open Go.RowKit

def OwnR (w : World) (B : Nat) (e : TypeId) (size : Nat) (v : Value) (n : Nat) (xs : List Value) : Prop := w.ownsRow B e size v n xs
theorem OwnR.below {w w' : World} {B n size : Nat} {e : TypeId} {v : Value} {xs : List Value} (h : OwnR w B e size v n xs) (hb : Below w.heap.size w w') : OwnR w' B e size v n xs := own_later h hb
theorem own_keep {w w' : World} {B n size : Nat} {e : TypeId} {v : Value} {xs : List Value} {row : Option Nat} (h : w.ownsRow B e size v n xs) (hg : w.grownBy w' row) (hne : ∀ b, row = some b → v.ownBlock ≠ some b) : w'.ownsRow B e size v n xs :=
  own_at h (fun b hb => (Chg.of_grown (F := fun q => row = some q) hg (fun q e => .inl e)).at_ (own_in h hb) (fun e => hne b e hb))
theorem below_grown_own {W0 w w' : World} {n size : Nat} {e : TypeId} {v : Value} {xs : List Value} (hb : Below W0.heap.size W0 w) (h : w.ownsRow W0.heap.size e size v n xs) (hg : w.grownBy w' v.ownBlock) : Below W0.heap.size W0 w' := hb.grown hg hb.size (fun b hb => (h.lt b hb).1)
theorem BkK.store {w0 w w' : World} {G : Nat → Prop} {g q : Nat} {L : List (List UInt8)} {sg : Int × Int → Bool} (h : BkK w0 G w g L sg) (hg : w.grownBy w' (some q)) (hn : ¬ G q) (h3 : w0.heap.size ≤ q) : BkK w0 G w' g L sg :=
  ⟨h.bw.bk.keep (grown_chg hg) (fun b hb e => hn (by have e : b = q := e; rw [← e]; exact hb)), h.bw.lo, h.bw.below.trans ((grown_chg hg).to_below (fun b e => by have e : b = q := e; rw [e]; exact h3) h.bw.below.size)⟩
theorem two_at {k : Nat} (h : k < 2) : (#[.int .i64 1, .int .i64 2] : Array Value)[k]? = some (.int .i64 ((k + 1 : Nat) : Int)) := by
  match k, h with
  | 0, _ => rfl
  | 1, _ => rfl
theorem sgr_one {i k : Nat} (h1 : i < 4) (h2 : k < 2) : sgR hdL.length ((i + 1 : Nat) : Int) ((k + 1 : Nat) : Int) = 0 := by
  unfold sgR
  rw [if_pos (by omega), if_pos (by show _ ∧ _ ≤ ((2 : Nat) : Int); omega)]
theorem one_hdr {A B : Option Addr} {n m c d : Nat} {x y : Int} {C : Array Value} (h : C = #[.int .i64 x, .int .i64 y, .slice A n c, .slice B m d]) : ∀ z ∈ C.toList, z.oneCell' = true := by subst h; simp [Value.oneCell']
theorem one_crt {A B : Option Addr} {n m c d : Nat} {x : Int} {C : Array Value} (h : C = crtC (.slice A n c) x (.slice B m d)) : ∀ z ∈ C.toList, z.oneCell' = true := by subst h; simp [crtC, Value.oneCell']
theorem cm_s {w : World} {h : HdD} {d : Int} {S : List Int} {b c : SlV} (hb : Sl w 1 b.A b.n (ints h.bs)) (hp : h.ps = []) (hc : Sl w 1 c.A c.n (ints S)) : MsS w (cmM h d S) (cmV b c) :=
  ⟨(zM_s w).tx, (zM_s w).hb, (zM_s w).hp, hb, by show Sl w 1 none 0 (ints h.ps); rw [hp]; exact sl_nil, hc, (zM_s w).ds⟩
theorem cm_z {h : HdD} {d : Int} {S : List Int} {b c : SlV} (hb : b.n ≤ 9223372036854775807) (hc : c.n ≤ 9223372036854775807) : MsZ (cmM h d S) (cmV b c) :=
  ⟨zM_z.txz, zM_z.tx, zM_z.hb, zM_z.hp, hb, zM_z.cp, hc, zM_z.ds⟩

set_option maxRecDepth 100000 in
set_option maxHeartbeats 4000000 in
theorem real_one (N : Int) (s : ScV) (ls : List Int) (xs : List (MsD × MsV)) (pb : List Bool) (who wch : List Int) (w : World) (HS : Hid (Scr w s ls xs pb who wch)) (HZ : Hid (ScZ s who wch)) {C : Array Value} (HC : Hid (C = scC N s)) :
    Calls Try.prog 5 #[.agg C] w fun e w' => e = .returned (.bool true) ∧ Below w.heap.size w w' := by
  obtain ⟨HX, HHX⟩ : ∃ C : Array Value, Hid (C = #[.int .i64 1, .int .i64 1, .slice none 0 0, .slice none 0 0]) := ⟨_, rfl⟩
  go_enter Try.func5, Try.ntmps5
  refine act_off 159 [(0, .agg C)] (Frm.start rfl (by intro p hp; simp only [List.mem_cons, List.not_mem_nil, or_false] at hp; subst hp; rfl)) (fun a0 hM => ?_)
  have HB2 : Hid (Below w.heap.size w w) := Below.refl _ _
  refine region_then fun K3 QK3 hK3 => ?_
  refine s_alloc (e := 26) hM (.inl rfl) rfl rfl (V := fun g => .pointer (some ⟨g, 0, none⟩)) (ev_box hM rfl rfl) (fun g4 a10 w5 hM9 KB8_ hb6 hg7 => ?_)
  have KB8 := hide KB8_
  clear hM KB8_
  clear hg7
  have HB11 := hide (below_then HB2.out hb6)
  clear hb6 HB2
  have HB13 : Hid (Below w5.heap.size w5 w5) := Below.refl _ _
  refine s_val hM9 (.inl rfl) rfl rfl (ev_move (.inr rfl) rfl) (fun a15 hM14 => ?_)
  clear hM9
  refine seg_nil (hK3 _ _ ?_)
  clear hK3 K3 QK3
  have hM16 := hM14.cut1 (t1 := 1) rfl
  clear hM14
  refine wp_seq_k fun K17 hK17 => ?_
  refine region_then fun K18 QK18 hK18 => ?_
  refine s_val hM16 (.inl rfl) rfl rfl (ev_loadm rfl rfl (KB8.out.on HB13.out).rng Try.underlying26 rfl (by rw [HC.out]; exact info_scr)) (fun a20 hM19 => ?_)
  clear hM16
  refine s_call hM19 (.inl rfl) rfl rfl (f := 15) (args := #[.agg C]) (ev_call hM19 rfl rfl rfl (fun w => by simp [go_sem]) _) (law8_heavy N s ls xs pb who wch _ (hide (HS.out.below HB11.out)) HZ HC) (fun e w21 hp => ?_)
  obtain ⟨⟨qh, rfl, hq⟩, hb22⟩ := hp
  refine ⟨_, rfl, fun a24 hM23 => ?_⟩
  clear hM19
  have HB25 := hide (below_then HB11.out hb22)
  have HB26 := hide (below_then HB13.out hb22)
  clear hb22 HB11 HB13
  refine seg_nil (hK18 _ _ ?_)
  clear hK18 K18 QK18
  have hM27 := hM23.cut2 (t1 := 1) (t2 := 21) rfl rfl
  clear hM23
  cases qh
  case true =>
    refine wp_cond_true (hM27.ev (t := 21) rfl) ?_
    refine region_then fun K28 QK28 hK28 => ?_
    refine s_val hM27 (.inl rfl) rfl rfl (ev_move (.inr rfl) rfl) (fun a30 hM29 => ?_)
    clear hM27
    refine seg_nil (hK28 _ _ ?_)
    clear hK28 K28 QK28
    have hM31 := hM29.cut1 (t1 := 2) rfl
    clear hM29
    refine wp_ret ?_
    repeat (with_reducible first | refine th_r ?_ | refine inb_r ?_ | refine js_r ?_ | refine jq_r ?_)
    refine ret_of (t := 2) rfl hM31 rfl ?_
    exact ⟨rfl, HB25.out⟩
  case false =>
    have HLT := hide (hq rfl)
    clear hq
    have HB00 := HB25
    have HS_ := hide (HS.out.below HB25.out)
    have KB32 := hide (KB8.out.on HB26.out)
    clear HS KB8 HB25 HB26
    have HS := HS_
    clear HS_
    have HB34 : Hid (Below w21.heap.size w21 w21) := Below.refl _ _
    refine wp_cond_false (hM27.ev (t := 21) rfl) ?_
    refine wp_skip ?_
    refine hK17 _ _ ?_
    refine region_then fun K35 QK35 hK35 => ?_
    have HNW := HB34
    refine s_call hM27 (.inl rfl) rfl rfl (f := 16) (args := #[]) (ev_call hM27 rfl rfl rfl (fun w => by simp [go_sem]) _) (book_New _) (fun e w36 hp => ?_)
    obtain ⟨g, G1, rfl, hB, hlo, hb37⟩ := hp
    have HBK := hide (show BkK w21 G1 w36 g [] (fun _ => false) from ⟨hB, hlo, hb37⟩)
    have H0 : Hid (w21.heap.size ≤ w36.heap.size) := hb37.size
    clear hB hlo
    refine ⟨_, rfl, fun a39 hM38 => ?_⟩
    clear hM27
    have HB40 := hide (below_then HB34.out hb37)
    clear hb37 HB34
    have HB42 : Hid (Below w36.heap.size w36 w36) := Below.refl _ _
    refine s_val hM38 (.inl rfl) rfl rfl (ev_move (.inr rfl) rfl) (fun a44 hM43 => ?_)
    clear hM38
    refine seg_nil (hK35 _ _ ?_)
    clear hK35 K35 QK35
    have hM45 := hM43.cut2 (t1 := 1) (t2 := 3) rfl rfl
    clear hM43
    refine wp_seq_k fun K46 hK46 => ?_
    refine region_then fun K47 QK47 hK47 => ?_
    refine s_val hM45 (.inl rfl) rfl rfl (ev_move (.inl rfl) rfl) (fun a49 hM48 => ?_)
    clear hM45
    refine s_val hM48 (.inl rfl) rfl rfl (ev_ptrnil rfl rfl (u_ptr (by kernel_rfl)) g_ptr) (fun a51 hM50 => ?_)
    clear hM48
    refine seg_nil (hK47 _ _ ?_)
    clear hK47 K47 QK47
    have hM52 := hM50.cut3 (t1 := 1) (t2 := 3) (t3 := 24) rfl rfl rfl
    clear hM50
    refine wp_cond_false (hM52.ev (t := 24) rfl) ?_
    refine wp_skip ?_
    refine hK46 _ _ ?_
    refine region_then fun K53 QK53 hK53 => ?_
    refine s_val hM52 (.inl rfl) rfl rfl (ev_buildg (v := .agg HX) rfl rfl (fun w => by rw [HHX.out]; kernel_rfl)) (fun a55 hM54 => ?_)
    clear hM52
    refine s_new hM54 rfl rfl rfl rfl alloc_hdr rfl rfl rfl rfl (by rw [HHX.out]; exact info_hdr) (by rw [HHX.out]; rfl) (one_hdr HHX.out) (fun g56 a62 w57 hM61 KB60_ hb58 hg59 => ?_)
    have KB60 := hide KB60_
    clear hM54 KB60_
    have lo63 := hide (Nat.le_trans HB40.out.size hg59)
    have lo64 := hide (Nat.le_trans HB42.out.size hg59)
    clear hg59
    have HB65 := hide (below_then HB40.out hb58)
    have HB66 := hide (below_then HB42.out hb58)
    clear hb58 HB40 HB42
    have HB68 : Hid (Below w57.heap.size w57 w57) := Below.refl _ _
    have HN4 : Hid (¬ G1 g56) := fun h => by have h1 := HBK.out.bw.bk.lt _ h; have h2 := lo64.out; omega
    refine seg_nil (hK53 _ _ ?_)
    clear hK53 K53 QK53
    have hM69 := hM61.cut3 (t1 := 1) (t2 := 3) (t3 := 4) rfl rfl rfl
    clear hM61
    refine region_then fun K70 QK70 hK70 => ?_
    refine s_alloc (e := 3) hM69 (.inl rfl) rfl rfl (V := fun g => .slice (some ⟨g, 0, none⟩) 1 1) (ev_bslice1 hM69 rfl (fun w => by kernel_rfl)) (fun g71 a77 w72 hM76 KB75_ hb73 hg74 => ?_)
    have KB75 := hide KB75_
    clear hM69 KB75_
    have lo78 := hide (Nat.le_trans HB65.out.size hg74)
    have lo79 := hide (Nat.le_trans HB66.out.size hg74)
    have lo80 := hide (Nat.le_trans HB68.out.size hg74)
    clear hg74
    have HB81 := hide (below_then HB65.out hb73)
    have HB82 := hide (below_then HB66.out hb73)
    have HB83 := hide (below_then HB68.out hb73)
    clear hb73 HB65 HB66 HB68
    have HB85 : Hid (Below w72.heap.size w72 w72) := Below.refl _ _
    have HNb : Hid (¬ G1 g71) := fun h => by have h1 := HBK.out.bw.bk.lt _ h; have h2 := lo79.out; omega
    obtain ⟨HYc, HHYc⟩ : ∃ C : Array Value, Hid (C = #[.int .i64 1, .int .i64 1, .slice (some ⟨g71, 0, none⟩) 1 1, .slice none 0 0]) := ⟨_, rfl⟩
    refine s_val hM76 (.inl rfl) rfl rfl (ev_buildg (v := .agg HYc) rfl rfl (fun w => by rw [HHYc.out]; kernel_rfl)) (fun a87 hM86 => ?_)
    clear hM76
    refine s_new hM86 rfl rfl rfl rfl alloc_hdr rfl rfl rfl rfl (by rw [HHYc.out]; exact info_hdr) (by rw [HHYc.out]; rfl) (one_hdr HHYc.out) (fun g88 a94 w89 hM93 KB92_ hb90 hg91 => ?_)
    have KB92 := hide KB92_
    clear hM86 KB92_
    have lo95 := hide (Nat.le_trans HB81.out.size hg91)
    have lo96 := hide (Nat.le_trans HB82.out.size hg91)
    have lo97 := hide (Nat.le_trans HB83.out.size hg91)
    have lo98 := hide (Nat.le_trans HB85.out.size hg91)
    clear hg91
    have HB99 := hide (below_then HB81.out hb90)
    have HB100 := hide (below_then HB82.out hb90)
    have HB101 := hide (below_then HB83.out hb90)
    have HB102 := hide (below_then HB85.out hb90)
    clear hb90 HB81 HB82 HB83 HB85
    have HB104 : Hid (Below w89.heap.size w89 w89) := Below.refl _ _
    have HN5 : Hid (¬ G1 g88) := fun h => by have h1 := HBK.out.bw.bk.lt _ h; have h2 := lo96.out; omega
    refine seg_nil (hK70 _ _ ?_)
    clear hK70 K70 QK70
    have hM105 := hM93.cut4 (t1 := 1) (t2 := 3) (t3 := 4) (t4 := 5) rfl rfl rfl rfl
    clear hM93
    refine region_then fun K106 QK106 hK106 => ?_
    refine s_val hM105 (.inl rfl) rfl rfl (ev_move (.inl rfl) rfl) (fun a108 hM107 => ?_)
    clear hM105
    refine s_val hM107 (.inl rfl) rfl rfl (ev_loadm rfl rfl (KB60.out.on HB101.out).rng Try.underlying38 rfl (by rw [HHX.out]; exact info_hdr)) (fun a110 hM109 => ?_)
    clear hM107
    refine s_call hM109 (.inl rfl) rfl rfl (f := 31) (args := #[.agg HX]) (ev_call hM109 rfl rfl rfl (fun w => by simp [go_sem]) _) (by rw [HHX.out]; exact ref4_HeaderBytes (A1 := none) (n1 := 0) (c1 := 0) (A2 := none) (n2 := 0) (c2 := 0) hdX _ sl_nil sl_nil (hide hdX_form)) (fun e w111 hp => ?_)
    obtain ⟨v', rfl, ho, hb112⟩ := hp
    obtain ⟨AH, cH, rfl⟩ := own_slice ho
    have HNY := hide (notG_own ho ((HBK.out.below HB100.out)).bw.bk.lt)
    have HY := hide (Sl.of_own ho)
    clear ho
    refine ⟨_, rfl, fun a114 hM113 => ?_⟩
    clear hM109
    have HB115 := hide (below_then HB99.out hb112)
    have HB116 := hide (below_then HB100.out hb112)
    have HB117 := hide (below_then HB101.out hb112)
    have HB118 := hide (below_then HB102.out hb112)
    have HB119 := hide (below_then HB104.out hb112)
    clear hb112 HB99 HB100 HB101 HB102 HB104
    have HB121 : Hid (Below w111.heap.size w111 w111) := Below.refl _ _
    refine s_call hM113 (.inl rfl) rfl rfl (f := 30) (args := #[.pointer (some ⟨g, 0, none⟩), .slice AH ((headerB hdX).length) cH]) (ev_call hM113 rfl rfl rfl (fun w => by simp [go_sem]) _) (book_Digest (x := headerB hdX) _ ((HBK.out.below HB116.out)).bw.bk (HY.out.below HB121.out) (hide (by have := headerB_le hdX_form; omega)) (by show 0 ≤ 65535; omega) HNY (d := 1) dig_x.1 (L' := [headerB hdX]) dig_x.2) (fun e w122 hp => ?_)
    obtain ⟨rfl, hn⟩ := hp
    obtain ⟨G2, hB2, hG⟩ := ((HBK.out.below HB116.out)).bw.next hn
    have HN4_ : Hid (¬ G2 g56) := fun h => (hG _ h).elim HN4.out (fun h => by have h1 := ((KB60.out.on HB117.out)).lt; omega)
    have HN5_ : Hid (¬ G2 g88) := fun h => (hG _ h).elim HN5.out (fun h => by have h1 := ((KB92.out.on HB119.out)).lt; omega)
    have HNb_ : Hid (¬ G2 g71) := fun h => (hG _ h).elim HNb.out (fun h => by have h1 := ((KB75.out.on HB118.out)).lt; omega)
    have HBK_ := hide (show BkK w21 G2 w122 g [headerB hdX] (fun _ => false) from hB2)
    have KB126 := hide (((KB60.out.on HB117.out)).chg hn.chg HN4.out)
    have KB127 := hide (((KB92.out.on HB119.out)).chg hn.chg HN5.out)
    have KB128 := hide (((KB75.out.on HB118.out)).chg hn.chg HNb.out)
    have HB129 := hide (below_then HNW.out HBK_.out.bw.below)
    clear HB115 HB116 HB117 HB118 HB119 HB121 KB60 KB92 KB75 HBK hn hB2 hG HY HNY HN4 HN5 HNb
    have HBK := HBK_
    clear HBK_
    have HB131 : Hid (Below w122.heap.size w122 w122) := Below.refl _ _
    have HN4 := HN4_
    clear HN4_
    have HN5 := HN5_
    clear HN5_
    have HNb := HNb_
    clear HNb_
    refine ⟨_, rfl, fun a125 hM124 => ?_⟩
    clear hM113
    refine s_val hM124 (.inl rfl) rfl rfl (ev_move (.inl rfl) rfl) (fun a133 hM132 => ?_)
    clear hM124
    refine s_val hM132 (.inl rfl) rfl rfl (ev_ext (v := .int .i64 1) rfl rfl rfl) (fun a135 hM134 => ?_)
    clear hM132
    refine s_val hM134 (.inl rfl) rfl rfl (ev_ext (v := .int .i64 0) rfl rfl rfl) (fun a137 hM136 => ?_)
    clear hM134
    refine s_val hM136 (.inl rfl) rfl rfl (ev_move (.inr rfl) rfl) (fun a139 hM138 => ?_)
    clear hM136
    refine s_val hM138 (.inl rfl) rfl rfl (ev_move (.inr rfl) rfl) (fun a141 hM140 => ?_)
    clear hM138
    refine seg_nil (hK106 _ _ ?_)
    clear hK106 K106 QK106
    have hM142 := hM140.cut6 (t1 := 1) (t2 := 3) (t3 := 4) (t4 := 5) (t5 := 6) (t6 := 7) rfl rfl rfl rfl rfl rfl
    clear hM140
    refine region_then fun K143 QK143 hK143 => ?_
    refine s_val hM142 (.inl rfl) rfl rfl (ev_move (.inl rfl) rfl) (fun a145 hM144 => ?_)
    clear hM142
    refine s_val hM144 (.inl rfl) rfl rfl (ev_loadm rfl rfl (KB127.out.on HB131.out).rng Try.underlying38 rfl (by rw [HHYc.out]; exact info_hdr)) (fun a147 hM146 => ?_)
    clear hM144
    refine s_call hM146 (.inl rfl) rfl rfl (f := 31) (args := #[.agg HYc]) (ev_call hM146 rfl rfl rfl (fun w => by simp [go_sem]) _) (by rw [HHYc.out]; exact ref4_HeaderBytes (A1 := some ⟨g71, 0, none⟩) (n1 := 1) (c1 := 1) (A2 := none) (n2 := 0) (c2 := 0) hdY _ (Sl.one_ (KB128.out.on HB131.out)) sl_nil (hide hdY_form)) (fun e w148 hp => ?_)
    obtain ⟨v', rfl, ho, hb149⟩ := hp
    obtain ⟨AH, cH, rfl⟩ := own_slice ho
    have HNY := hide (notG_own ho ((HBK.out.below HB131.out)).bw.bk.lt)
    have HY := hide (Sl.of_own ho)
    clear ho
    refine ⟨_, rfl, fun a151 hM150 => ?_⟩
    clear hM146
    have HB152 := hide (below_then HB129.out hb149)
    have HB153 := hide (below_then HB131.out hb149)
    clear hb149 HB129 HB131
    have HB155 : Hid (Below w148.heap.size w148 w148) := Below.refl _ _
    refine s_call hM150 (.inl rfl) rfl rfl (f := 30) (args := #[.pointer (some ⟨g, 0, none⟩), .slice AH ((headerB hdY).length) cH]) (ev_call hM150 rfl rfl rfl (fun w => by simp [go_sem]) _) (book_Digest (x := headerB hdY) _ ((HBK.out.below HB153.out)).bw.bk (HY.out.below HB155.out) (hide (by have := headerB_le hdY_form; omega)) (by show 1 ≤ 65535; omega) HNY (d := 2) dig_y.1 (L' := hdL) dig_y.2) (fun e w156 hp => ?_)
    obtain ⟨rfl, hn⟩ := hp
    obtain ⟨G3, hB2, hG⟩ := ((HBK.out.below HB153.out)).bw.next hn
    have HN4_ : Hid (¬ G3 g56) := fun h => (hG _ h).elim HN4.out (fun h => by have h1 := ((KB126.out.on HB153.out)).lt; omega)
    have HN5_ : Hid (¬ G3 g88) := fun h => (hG _ h).elim HN5.out (fun h => by have h1 := ((KB127.out.on HB153.out)).lt; omega)
    have HNb_ : Hid (¬ G3 g71) := fun h => (hG _ h).elim HNb.out (fun h => by have h1 := ((KB128.out.on HB153.out)).lt; omega)
    have HBK_ := hide (show BkK w21 G3 w156 g hdL (fun _ => false) from hB2)
    have KB160 := hide (((KB126.out.on HB153.out)).chg hn.chg HN4.out)
    have KB161 := hide (((KB127.out.on HB153.out)).chg hn.chg HN5.out)
    have KB162 := hide (((KB128.out.on HB153.out)).chg hn.chg HNb.out)
    have HB163 := hide (below_then HNW.out HBK_.out.bw.below)
    clear HB152 HB153 HB155 KB126 KB127 KB128 HBK hn hB2 hG HY HNY HN4 HN5 HNb
    have HBK := HBK_
    clear HBK_
    have HB165 : Hid (Below w156.heap.size w156 w156) := Below.refl _ _
    have HN4 := HN4_
    clear HN4_
    have HN5 := HN5_
    clear HN5_
    have HNb := HNb_
    clear HNb_
    refine ⟨_, rfl, fun a159 hM158 => ?_⟩
    clear hM150
    refine s_val hM158 (.inl rfl) rfl rfl (ev_move (.inl rfl) rfl) (fun a167 hM166 => ?_)
    clear hM158
    refine s_val hM166 (.inl rfl) rfl rfl (ev_ext (v := .int .i64 2) rfl rfl rfl) (fun a169 hM168 => ?_)
    clear hM166
    refine s_val hM168 (.inl rfl) rfl rfl (ev_ext (v := .int .i64 0) rfl rfl rfl) (fun a171 hM170 => ?_)
    clear hM168
    refine s_val hM170 (.inl rfl) rfl rfl (ev_move (.inr rfl) rfl) (fun a173 hM172 => ?_)
    clear hM170
    refine s_val hM172 (.inl rfl) rfl rfl (ev_move (.inr rfl) rfl) (fun a175 hM174 => ?_)
    clear hM172
    refine seg_nil (hK143 _ _ ?_)
    clear hK143 K143 QK143
    have hM176 := hM174.cut8 (t1 := 1) (t2 := 3) (t3 := 4) (t4 := 5) (t5 := 6) (t6 := 7) (t7 := 8) (t8 := 9) rfl rfl rfl rfl rfl rfl rfl rfl
    clear hM174
    refine wp_seq_k fun K177 hK177 => ?_
    refine region_then fun K178 QK178 hK178 => ?_
    refine s_val hM176 (.inl rfl) rfl rfl (ev_move (.inl rfl) rfl) (fun a180 hM179 => ?_)
    clear hM176
    refine s_call hM179 (.inl rfl) rfl rfl (f := 19) (args := #[.int .i64 0]) (ev_call hM179 rfl rfl rfl (fun w => by simp [go_sem]) _) (law8_num _ _) (fun e w181 hp => ?_)
    obtain ⟨rfl, rfl⟩ := hp
    refine ⟨_, rfl, fun a184 hM183 => ?_⟩
    clear hM179
    refine s_val hM183 (.inl rfl) rfl rfl (ev_bin rfl rfl rfl g_int (b_neq (b := false) (by decide))) (fun a186 hM185 => ?_)
    clear hM183
    refine s_val hM185 (.inl rfl) rfl rfl (ev_move (.inl rfl) rfl) (fun a188 hM187 => ?_)
    clear hM185
    refine s_val hM187 (.inr ⟨_, _, _, rfl, rfl, rfl⟩) rfl rfl (ev_move (.inl rfl) rfl) (fun a190 hM189 => ?_)
    clear hM187
    refine s_call hM189 (.inr ⟨_, _, _, rfl, rfl, rfl⟩) rfl rfl (f := 19) (args := #[.int .i64 0]) (ev_call hM189 rfl rfl rfl (fun w => by simp [go_sem]) _) (law8_num _ _) (fun e w191 hp => ?_)
    obtain ⟨rfl, rfl⟩ := hp
    refine ⟨_, rfl, fun a194 hM193 => ?_⟩
    clear hM189
    refine s_val hM193 (.inr ⟨_, _, _, rfl, rfl, rfl⟩) rfl rfl (ev_bin rfl rfl rfl g_int (b_neq (b := false) (by decide))) (fun a196 hM195 => ?_)
    clear hM193
    refine s_val hM195 (.inl rfl) rfl rfl (ev_pick rfl rfl rfl) (fun a198 hM197 => ?_)
    clear hM195
    refine seg_nil (hK178 _ _ ?_)
    clear hK178 K178 QK178
    have hM199 := hM197.cut7 (t1 := 1) (t2 := 3) (t3 := 4) (t4 := 5) (t5 := 6) (t6 := 8) (t7 := 49) rfl rfl rfl rfl rfl rfl rfl
    clear hM197
    refine wp_cond_false (hM199.ev (t := 49) rfl) ?_
    refine wp_skip ?_
    refine hK177 _ _ ?_
    refine region_then fun K200 QK200 hK200 => ?_
    refine s_val hM199 (.inl rfl) rfl rfl (ev_fldw (m := 0) rfl rfl (fun w => by simp [go_sem])) (fun a202 hM201 => ?_)
    clear hM199
    refine s_val hM201 (.inl rfl) rfl rfl (ev_load1 (v := .int .i64 N) rfl rfl ((KB32.out.on HB163.out).rng.at_ (m := 0) (by rw [HC.out]; rfl)) (isAgg_no Try.underlying3 rfl)) (fun a204 hM203 => ?_)
    clear hM201
    refine s_call hM203 (.inl rfl) rfl rfl (f := 32) (args := #[.int .i64 N, .int .i64 4]) (ev_call hM203 rfl rfl rfl (fun w => by simp [go_sem]) _) (law0_Within N 4 _ (by omega) (by omega)) (fun e w205 hp => ?_)
    obtain ⟨⟨r0, hr0, rfl⟩, rfl⟩ := hp
    obtain ⟨liar, HLI⟩ : ∃ l : Int, (1 : Int) + ((r0 : Nat) : Int) = l := ⟨_, rfl⟩
    refine ⟨_, rfl, fun a208 hM207 => ?_⟩
    clear hM203
    refine s_val hM207 (.inl rfl) rfl rfl (ev_bin rfl rfl rfl g_int (b_add (r := liar) HLI (by omega))) (fun a210 hM209 => ?_)
    clear hM207
    refine s_val hM209 (.inl rfl) rfl rfl (ev_move (.inr rfl) rfl) (fun a212 hM211 => ?_)
    clear hM209
    refine seg_nil (hK200 _ _ ?_)
    clear hK200 K200 QK200
    have hM213 := hM211.cut7 (t1 := 1) (t2 := 3) (t3 := 4) (t4 := 5) (t5 := 6) (t6 := 8) (t7 := 10) rfl rfl rfl rfl rfl rfl rfl
    clear hM211
    refine region_then fun K214 QK214 hK214 => ?_
    refine s_alloc (e := 62) hM213 (.inl rfl) rfl rfl (V := fun g => .pointer (some ⟨g, 0, none⟩)) (ev_alloc rfl alloc_arr) (fun g215 a221 w216 hM220 KB219_ hb217 hg218 => ?_)
    have KB219 := hide KB219_
    clear hM213 KB219_
    have lo222 := hide (Nat.le_trans HB163.out.size hg218)
    have lo223 := hide (Nat.le_trans HB165.out.size hg218)
    clear hg218
    have HB224 := hide (below_then HB163.out hb217)
    have HB225 := hide (below_then HB165.out hb217)
    clear hb217 HB163 HB165
    have HB227 : Hid (Below w216.heap.size w216 w216) := Below.refl _ _
    have HN11 : Hid (¬ G3 g215) := fun h => by have h1 := HBK.out.bw.bk.lt _ h; have h2 := lo223.out; omega
    have H11 := hide (Nat.le_trans HBK.out.bw.below.size lo223.out)
    have HE4 : Hid (g56 ≠ g215 ∧ g88 ≠ g215 ∧ g71 ≠ g215) := by have h1 := KB160.out.lt; have h2 := KB161.out.lt; have h3 := KB162.out.lt; have h4 := lo223.out; exact ⟨by omega, by omega, by omega⟩
    refine seg_nil (hK214 _ _ ?_)
    clear hK214 K214 QK214
    have hM228 := hM220.cut8 (t1 := 1) (t2 := 3) (t3 := 4) (t4 := 5) (t5 := 6) (t6 := 8) (t7 := 10) (t8 := 11) rfl rfl rfl rfl rfl rfl rfl rfl
    clear hM220
    refine wp_seq_k fun K229 hK229 => ?_
    refine region_then fun K230 QK230 hK230 => ?_
    refine s_val hM228 (.inl rfl) rfl rfl (ev_move (.inr rfl) rfl) (fun a232 hM231 => ?_)
    clear hM228
    refine seg_nil (hK230 _ _ ?_)
    clear hK230 K230 QK230
    have hM233 := hM231.cut9 (t1 := 1) (t2 := 3) (t3 := 4) (t4 := 5) (t5 := 6) (t6 := 8) (t7 := 10) (t8 := 11) (t9 := 12) rfl rfl rfl rfl rfl rfl rfl rfl rfl
    clear hM231
    have hBK := (HBK.out.below HB225.out)
    rw [sgA_z] at hBK
    have HBKA := hide hBK
    clear hBK
    have hM234 := hM233.cut9 (t1 := 12) (t2 := 1) (t3 := 3) (t4 := 4) (t5 := 5) (t6 := 6) (t7 := 8) (t8 := 10) (t9 := 11) rfl rfl rfl rfl rfl rfl rfl rfl rfl
    clear hM233
    refine wp_join (fun a w' => ∃ (j : Nat) (σ : Nat → Int), Frm a 159 [(1, .pointer (some ⟨g4, 0, none⟩)), (3, .pointer (some ⟨g, 0, none⟩)), (4, .pointer (some ⟨g56, 0, none⟩)), (5, .pointer (some ⟨g88, 0, none⟩)), (6, .int .i64 1), (8, .int .i64 2), (10, .int .i64 liar), (11, .pointer (some ⟨g215, 0, none⟩))] ∧ Hid (Below w21.heap.size w21 w') ∧ Hid (BkK w21 G3 w' g hdL (sgA σ)) ∧ Hid (Blk w' g56 38 HX) ∧ Hid (Blk w' g88 38 HYc) ∧ Hid (Blk w' g71 3 #[.int .i64 1]) ∧ Hid (Blk w' g215 62 (arrS σ))) ?_ ?_
    ·
      refine wp_block ?_
      refine wp_loop_ghost (fun m a w' => ∃ (j : Nat) (σ : Nat → Int), m = s.wo.n - j ∧ Frm a 159 [(12, .int .i64 (j : Int)), (1, .pointer (some ⟨g4, 0, none⟩)), (3, .pointer (some ⟨g, 0, none⟩)), (4, .pointer (some ⟨g56, 0, none⟩)), (5, .pointer (some ⟨g88, 0, none⟩)), (6, .int .i64 1), (8, .int .i64 2), (10, .int .i64 liar), (11, .pointer (some ⟨g215, 0, none⟩))] ∧ Hid (Below w21.heap.size w21 w') ∧ Hid (BkK w21 G3 w' g hdL (sgA σ)) ∧ Hid (Blk w' g56 38 HX) ∧ Hid (Blk w' g88 38 HYc) ∧ Hid (Blk w' g71 3 #[.int .i64 1]) ∧ Hid (Blk w' g215 62 (arrS σ))) s.wo.n ⟨0, zA,  by omega, hM234, HB224, HBKA, (hide (KB160.out.on HB225.out)), (hide (KB161.out.on HB225.out)), (hide (KB162.out.on HB225.out)), (hide (KB219.out.on HB227.out))⟩ ?_
      clear HB224 HB225 HB227 hM234 HBK HBKA KB160 KB161 KB162 KB219
      rintro m239 a236 w235 ⟨j, σ, rfl, hM237, HB238, HBK, K4, K5, Kb, KA⟩
      have HB241 : Hid (Below w235.heap.size w235 w235) := Below.refl _ _
      refine wp_seq_k fun K242 hK242 => ?_
      by_cases hlt : j < s.wo.n
      case neg =>
        refine region_then fun K243 QK243 hK243 => ?_
        refine s_val hM237 (.inl rfl) rfl rfl (ev_move (.inl rfl) rfl) (fun a245 hM244 => ?_)
        clear hM237
        refine s_val hM244 (.inl rfl) rfl rfl (ev_fldw (m := 4) rfl rfl (fun w => by simp [go_sem])) (fun a247 hM246 => ?_)
        clear hM244
        refine s_val hM246 (.inl rfl) rfl rfl (ev_load1 (v := .slice (s.wo.A) (s.wo.n) (s.wo.c)) rfl rfl ((KB32.out.on HB238.out).rng.at_ (m := 4) (by rw [HC.out]; rfl)) (isAgg_no Try.underlying22 rfl)) (fun a249 hM248 => ?_)
        clear hM246
        refine s_val hM248 (.inl rfl) rfl rfl (ev_len rfl rfl Try.underlying22) (fun a251 hM250 => ?_)
        clear hM248
        refine s_val hM250 (.inl rfl) rfl rfl (ev_bin rfl rfl rfl g_int (b_lss (b := false) (by rw [decide_eq_false_iff_not]; omega))) (fun a253 hM252 => ?_)
        clear hM250
        refine s_val hM252 (.inl rfl) rfl rfl (ev_move (.inl rfl) rfl) (fun a255 hM254 => ?_)
        clear hM252
        refine s_skip hM254 rfl rfl rfl rfl rfl rfl (fun a257 hM256 => ?_)
        clear hM254
        refine s_skip hM256 rfl rfl rfl rfl rfl rfl (fun a259 hM258 => ?_)
        clear hM256
        refine s_val hM258 (.inl rfl) rfl rfl (ev_pick rfl rfl rfl) (fun a261 hM260 => ?_)
        clear hM258
        refine seg_nil (hK243 _ _ ?_)
        clear hK243 K243 QK243
        have hM262 := hM260.cut10 (t1 := 1) (t2 := 3) (t3 := 4) (t4 := 5) (t5 := 6) (t6 := 8) (t7 := 10) (t8 := 11) (t9 := 12) (t10 := 62) rfl rfl rfl rfl rfl rfl rfl rfl rfl rfl
        clear hM260
        refine wp_cond_false (hM262.ev (t := 62) rfl) ?_
        refine wp_exit ?_
        repeat (with_reducible refine th_e ?_)
        refine inb_e ?_
        have hM263 := hM262.cut8 (t1 := 1) (t2 := 3) (t3 := 4) (t4 := 5) (t5 := 6) (t6 := 8) (t7 := 10) (t8 := 11) rfl rfl rfl rfl rfl rfl rfl rfl
        clear hM262
        exact jq_n ⟨j, σ, hM263, HB238, (hide (HBK.out.below HB241.out)), (hide (K4.out.on HB241.out)), (hide (K5.out.on HB241.out)), (hide (Kb.out.on HB241.out)), (hide (KA.out.on HB241.out))⟩
      case pos =>
        by_cases hlt2 : j < 20
        case neg =>
          refine region_then fun K264 QK264 hK264 => ?_
          refine s_val hM237 (.inl rfl) rfl rfl (ev_move (.inl rfl) rfl) (fun a266 hM265 => ?_)
          clear hM237
          refine s_val hM265 (.inl rfl) rfl rfl (ev_fldw (m := 4) rfl rfl (fun w => by simp [go_sem])) (fun a268 hM267 => ?_)
          clear hM265
          refine s_val hM267 (.inl rfl) rfl rfl (ev_load1 (v := .slice (s.wo.A) (s.wo.n) (s.wo.c)) rfl rfl ((KB32.out.on HB238.out).rng.at_ (m := 4) (by rw [HC.out]; rfl)) (isAgg_no Try.underlying22 rfl)) (fun a270 hM269 => ?_)
          clear hM267
          refine s_val hM269 (.inl rfl) rfl rfl (ev_len rfl rfl Try.underlying22) (fun a272 hM271 => ?_)
          clear hM269
          refine s_val hM271 (.inl rfl) rfl rfl (ev_bin rfl rfl rfl g_int (b_lss (b := true) (by rw [decide_eq_true_eq]; omega))) (fun a274 hM273 => ?_)
          clear hM271
          refine s_val hM273 (.inl rfl) rfl rfl (ev_move (.inl rfl) rfl) (fun a276 hM275 => ?_)
          clear hM273
          refine s_val hM275 (.inr ⟨_, _, _, rfl, rfl, rfl⟩) rfl rfl (ev_move (.inl rfl) rfl) (fun a278 hM277 => ?_)
          clear hM275
          refine s_val hM277 (.inr ⟨_, _, _, rfl, rfl, rfl⟩) rfl rfl (ev_bin rfl rfl rfl g_int (b_lss (b := false) (by rw [decide_eq_false_iff_not]; omega))) (fun a280 hM279 => ?_)
          clear hM277
          refine s_val hM279 (.inl rfl) rfl rfl (ev_pick rfl rfl rfl) (fun a282 hM281 => ?_)
          clear hM279
          refine seg_nil (hK264 _ _ ?_)
          clear hK264 K264 QK264
          have hM283 := hM281.cut10 (t1 := 1) (t2 := 3) (t3 := 4) (t4 := 5) (t5 := 6) (t6 := 8) (t7 := 10) (t8 := 11) (t9 := 12) (t10 := 62) rfl rfl rfl rfl rfl rfl rfl rfl rfl rfl
          clear hM281
          refine wp_cond_false (hM283.ev (t := 62) rfl) ?_
          refine wp_exit ?_
          repeat (with_reducible refine th_e ?_)
          refine inb_e ?_
          have hM284 := hM283.cut8 (t1 := 1) (t2 := 3) (t3 := 4) (t4 := 5) (t5 := 6) (t6 := 8) (t7 := 10) (t8 := 11) rfl rfl rfl rfl rfl rfl rfl rfl
          clear hM283
          exact jq_n ⟨j, σ, hM284, HB238, (hide (HBK.out.below HB241.out)), (hide (K4.out.on HB241.out)), (hide (K5.out.on HB241.out)), (hide (Kb.out.on HB241.out)), (hide (KA.out.on HB241.out))⟩
        case pos =>
          refine region_then fun K285 QK285 hK285 => ?_
          refine s_val hM237 (.inl rfl) rfl rfl (ev_move (.inl rfl) rfl) (fun a287 hM286 => ?_)
          clear hM237
          refine s_val hM286 (.inl rfl) rfl rfl (ev_fldw (m := 4) rfl rfl (fun w => by simp [go_sem])) (fun a289 hM288 => ?_)
          clear hM286
          refine s_val hM288 (.inl rfl) rfl rfl (ev_load1 (v := .slice (s.wo.A) (s.wo.n) (s.wo.c)) rfl rfl ((KB32.out.on HB238.out).rng.at_ (m := 4) (by rw [HC.out]; rfl)) (isAgg_no Try.underlying22 rfl)) (fun a291 hM290 => ?_)
          clear hM288
          refine s_val hM290 (.inl rfl) rfl rfl (ev_len rfl rfl Try.underlying22) (fun a293 hM292 => ?_)
          clear hM290
          refine s_val hM292 (.inl rfl) rfl rfl (ev_bin rfl rfl rfl g_int (b_lss (b := true) (by rw [decide_eq_true_eq]; omega))) (fun a295 hM294 => ?_)
          clear hM292
          refine s_val hM294 (.inl rfl) rfl rfl (ev_move (.inl rfl) rfl) (fun a297 hM296 => ?_)
          clear hM294
          refine s_val hM296 (.inr ⟨_, _, _, rfl, rfl, rfl⟩) rfl rfl (ev_move (.inl rfl) rfl) (fun a299 hM298 => ?_)
          clear hM296
          refine s_val hM298 (.inr ⟨_, _, _, rfl, rfl, rfl⟩) rfl rfl (ev_bin rfl rfl rfl g_int (b_lss (b := true) (by rw [decide_eq_true_eq]; omega))) (fun a301 hM300 => ?_)
          clear hM298
          refine s_val hM300 (.inl rfl) rfl rfl (ev_pick rfl rfl rfl) (fun a303 hM302 => ?_)
          clear hM300
          refine seg_nil (hK285 _ _ ?_)
          clear hK285 K285 QK285
          have hM304 := hM302.cut10 (t1 := 1) (t2 := 3) (t3 := 4) (t4 := 5) (t5 := 6) (t6 := 8) (t7 := 10) (t8 := 11) (t9 := 12) (t10 := 62) rfl rfl rfl rfl rfl rfl rfl rfl rfl rfl
          clear hM302
          refine wp_cond_true (hM304.ev (t := 62) rfl) ?_
          refine wp_skip ?_
          refine hK242 _ _ ?_
          refine wp_seq_k fun K305 hK305 => ?_
          refine wp_block ?_
          obtain ⟨b1, o1, a1, hA1, HU1, hc1, -⟩ := HS.out.wo.int hlt
          have HC1 := hide (CellAt.of hc1)
          clear hc1
          obtain ⟨rq, HRQ⟩ := ex_quo (P := Try.prog) (ty := 3) a1
          refine region_then fun K306 QK306 hK306 => ?_
          refine s_val hM304 (.inl rfl) rfl rfl (ev_fldw (m := 4) rfl rfl (fun w => by simp [go_sem])) (fun a308 hM307 => ?_)
          clear hM304
          refine s_val hM307 (.inl rfl) rfl rfl (ev_load1 (v := .slice (s.wo.A) (s.wo.n) (s.wo.c)) rfl rfl ((KB32.out.on HB238.out).rng.at_ (m := 4) (by rw [HC.out]; rfl)) (isAgg_no Try.underlying22 rfl)) (fun a310 hM309 => ?_)
          clear hM307
          refine s_val hM309 (.inl rfl) rfl rfl (ev_move (.inl rfl) rfl) (fun a312 hM311 => ?_)
          clear hM309
          refine s_val hM311 (.inl rfl) rfl rfl (ev_idx (b := b1) (k := j) (sz := 1) (p := o1 + j) rfl (by rw [← hA1]; rfl) rfl Try.underlying22 (by kernel_rfl) hlt (by omega)) (fun a314 hM313 => ?_)
          clear hM311
          refine s_val hM313 (.inl rfl) rfl rfl (ev_load1 (v := .int .i64 a1) rfl rfl ((HC1.out.below HB238.out)).2 (isAgg_no Try.underlying3 rfl)) (fun a316 hM315 => ?_)
          clear hM313
          refine s_call hM315 (.inl rfl) rfl rfl (f := 32) (args := #[.int .i64 a1, .int .i64 4]) (ev_call hM315 rfl rfl rfl (fun w => by simp [go_sem]) _) (law0_Within a1 4 _ (by omega) (by omega)) (fun e w317 hp => ?_)
          obtain ⟨⟨rw, hrw, rfl⟩, rfl⟩ := hp
          refine ⟨_, rfl, fun a320 hM319 => ?_⟩
          clear hM315
          refine s_val hM319 (.inl rfl) rfl rfl (ev_bin rfl rfl rfl g_int (b_add (r := ((rw + 1 : Nat) : Int)) (by omega) (by omega))) (fun a322 hM321 => ?_)
          clear hM319
          refine s_val hM321 (.inl rfl) rfl rfl (ev_move (.inr rfl) rfl) (fun a324 hM323 => ?_)
          clear hM321
          refine seg_nil (hK306 _ _ ?_)
          clear hK306 K306 QK306
          have hM325 := hM323.cut10 (t1 := 1) (t2 := 3) (t3 := 4) (t4 := 5) (t5 := 6) (t6 := 8) (t7 := 10) (t8 := 11) (t9 := 12) (t10 := 13) rfl rfl rfl rfl rfl rfl rfl rfl rfl rfl
          clear hM323
          refine region_then fun K326 QK326 hK326 => ?_
          refine s_val hM325 (.inl rfl) rfl rfl (ev_move (.inl rfl) rfl) (fun a328 hM327 => ?_)
          clear hM325
          refine s_val hM327 (.inl rfl) rfl rfl (ev_move (.inl rfl) rfl) (fun a330 hM329 => ?_)
          clear hM327
          refine s_alloc (e := 3) hM329 (.inl rfl) rfl rfl (V := fun g => .slice (some ⟨g, 0, none⟩) 2 2) (ev_bsg (C := #[.int .i64 1, .int .i64 2]) hM329 rfl rfl (fun w => by kernel_rfl)) (fun g331 a337 w332 hM336 KB335_ hb333 hg334 => ?_)
          have KB335 := hide KB335_
          clear hM329 KB335_
          clear hg334
          have HB338 := hide (below_then HB238.out hb333)
          have HB339 := hide (below_then HB241.out hb333)
          clear hb333 HB238 HB241
          have HB341 : Hid (Below w332.heap.size w332 w332) := Below.refl _ _
          refine s_val hM336 (.inl rfl) rfl rfl (ev_fldw (m := 4) rfl rfl (fun w => by simp [go_sem])) (fun a343 hM342 => ?_)
          clear hM336
          refine s_val hM342 (.inl rfl) rfl rfl (ev_load1 (v := .slice (s.wo.A) (s.wo.n) (s.wo.c)) rfl rfl ((KB32.out.on HB338.out).rng.at_ (m := 4) (by rw [HC.out]; rfl)) (isAgg_no Try.underlying22 rfl)) (fun a345 hM344 => ?_)
          clear hM342
          refine s_val hM344 (.inl rfl) rfl rfl (ev_move (.inl rfl) rfl) (fun a347 hM346 => ?_)
          clear hM344
          refine s_val hM346 (.inl rfl) rfl rfl (ev_idx (b := b1) (k := j) (sz := 1) (p := o1 + j) rfl (by rw [← hA1]; rfl) rfl Try.underlying22 (by kernel_rfl) hlt (by omega)) (fun a349 hM348 => ?_)
          clear hM346
          refine s_val hM348 (.inl rfl) rfl rfl (ev_load1 (v := .int .i64 a1) rfl rfl ((HC1.out.below HB338.out)).2 (isAgg_no Try.underlying3 rfl)) (fun a351 hM350 => ?_)
          clear hM348
          refine s_val hM350 (.inl rfl) rfl rfl (ev_bin (v := .int .i64 rq) rfl rfl rfl g_int HRQ.out) (fun a353 hM352 => ?_)
          clear hM350
          refine s_call hM352 (.inl rfl) rfl rfl (f := 32) (args := #[.int .i64 rq, .int .i64 2]) (ev_call hM352 rfl rfl rfl (fun w => by simp [go_sem]) _) (law0_Within rq 2 _ (by omega) (by omega)) (fun e w354 hp => ?_)
          obtain ⟨⟨r2, hr2, rfl⟩, rfl⟩ := hp
          refine ⟨_, rfl, fun a357 hM356 => ?_⟩
          clear hM352
          refine s_val hM356 (.inl rfl) rfl rfl (ev_idx (b := g331) (k := r2) (sz := 1) (p := r2) rfl rfl rfl Try.underlying22 (by kernel_rfl) hr2 (by omega)) (fun a359 hM358 => ?_)
          clear hM356
          refine s_val hM358 (.inl rfl) rfl rfl (ev_load1 (v := .int .i64 ((r2 + 1 : Nat) : Int)) rfl rfl (((KB335.out.on HB341.out)).at_ (two_at hr2)) (isAgg_no Try.underlying3 rfl)) (fun a361 hM360 => ?_)
          clear hM358
          refine s_val hM360 (.inl rfl) rfl rfl (ev_move (.inr rfl) rfl) (fun a363 hM362 => ?_)
          clear hM360
          refine seg_nil (hK326 _ _ ?_)
          clear hK326 K326 QK326
          have hM364 := hM362.cut11 (t1 := 1) (t2 := 3) (t3 := 4) (t4 := 5) (t5 := 6) (t6 := 8) (t7 := 10) (t8 := 11) (t9 := 12) (t10 := 13) (t11 := 14) rfl rfl rfl rfl rfl rfl rfl rfl rfl rfl rfl
          clear hM362
          refine wp_seq_k fun K365 hK365 => ?_
          by_cases hl : ((rw + 1 : Nat) : Int) = liar
          case pos =>
            refine region_then fun K366 QK366 hK366 => ?_
            refine s_val hM364 (.inl rfl) rfl rfl (ev_move (.inl rfl) rfl) (fun a368 hM367 => ?_)
            clear hM364
            refine s_val hM367 (.inl rfl) rfl rfl (ev_move (.inl rfl) rfl) (fun a370 hM369 => ?_)
            clear hM367
            refine s_val hM369 (.inl rfl) rfl rfl (ev_bin rfl rfl rfl g_int (b_eql (b := true) (decide_eq_true hl))) (fun a372 hM371 => ?_)
            clear hM369
            refine s_val hM371 (.inl rfl) rfl rfl (ev_move (.inl rfl) rfl) (fun a374 hM373 => ?_)
            clear hM371
            refine s_skip hM373 rfl rfl rfl rfl rfl rfl (fun a376 hM375 => ?_)
            clear hM373
            refine s_skip hM375 rfl rfl rfl rfl rfl rfl (fun a378 hM377 => ?_)
            clear hM375
            refine s_skip hM377 rfl rfl rfl rfl rfl rfl (fun a380 hM379 => ?_)
            clear hM377
            refine s_skip hM379 rfl rfl rfl rfl rfl rfl (fun a382 hM381 => ?_)
            clear hM379
            refine s_skip hM381 rfl rfl rfl rfl rfl rfl (fun a384 hM383 => ?_)
            clear hM381
            refine s_skipu hM383 rfl rfl rfl rfl rfl (fun a386 hM385 => ?_)
            clear hM383
            refine s_skipu hM385 rfl rfl rfl rfl rfl (fun a388 hM387 => ?_)
            clear hM385
            refine s_skipu hM387 rfl rfl rfl rfl rfl (fun a390 hM389 => ?_)
            clear hM387
            refine s_skipu hM389 rfl rfl rfl rfl rfl (fun a392 hM391 => ?_)
            clear hM389
            refine s_skipu hM391 rfl rfl rfl rfl rfl (fun a394 hM393 => ?_)
            clear hM391
            refine s_skip hM393 rfl rfl rfl rfl rfl rfl (fun a396 hM395 => ?_)
            clear hM393
            refine s_val hM395 (.inl rfl) rfl rfl (ev_pick rfl rfl rfl) (fun a398 hM397 => ?_)
            clear hM395
            refine seg_nil (hK366 _ _ ?_)
            clear hK366 K366 QK366
            have hM399 := hM397.cut12 (t1 := 1) (t2 := 3) (t3 := 4) (t4 := 5) (t5 := 6) (t6 := 8) (t7 := 10) (t8 := 11) (t9 := 12) (t10 := 13) (t11 := 14) (t12 := 99) rfl rfl rfl rfl rfl rfl rfl rfl rfl rfl rfl rfl
            clear hM397
            refine wp_cond_true (hM399.ev (t := 99) rfl) ?_
            refine wp_exit ?_
            repeat (with_reducible refine th_e ?_)
            refine inb_e ?_
            refine hK305 _ _ ?_
            refine region_last fun K400 QK400 hK400 => ?_
            refine s_val hM399 (.inl rfl) rfl rfl (ev_move (.inl rfl) rfl) (fun a402 hM401 => ?_)
            clear hM399
            refine s_val hM401 (.inl rfl) rfl rfl (ev_bin rfl rfl rfl g_int (b_add (r := ((j + 1 : Nat) : Int)) (by omega) (by omega))) (fun a404 hM403 => ?_)
            clear hM401
            refine s_val hM403 (.inl rfl) rfl rfl (ev_move (.inr rfl) rfl) (fun a406 hM405 => ?_)
            clear hM403
            refine seg_nil (hK400 _ _ ?_)
            clear hK400 K400 QK400
            have hM407 := hM405.cut9 (t1 := 1) (t2 := 3) (t3 := 4) (t4 := 5) (t5 := 6) (t6 := 8) (t7 := 10) (t8 := 11) (t9 := 12) rfl rfl rfl rfl rfl rfl rfl rfl rfl
            clear hM405
            have hM408 := hM407.cut9 (t1 := 12) (t2 := 1) (t3 := 3) (t4 := 4) (t5 := 5) (t6 := 6) (t7 := 8) (t8 := 10) (t9 := 11) rfl rfl rfl rfl rfl rfl rfl rfl rfl
            clear hM407
            exact ⟨s.wo.n - (j + 1), by omega, j + 1, σ, rfl, hM408, HB338, (hide (HBK.out.below HB339.out)), (hide (K4.out.on HB339.out)), (hide (K5.out.on HB339.out)), (hide (Kb.out.on HB339.out)), (hide (KA.out.on HB339.out))⟩
          case neg =>
            by_cases hs0 : (σ (rw + 1)) = 0
            case pos =>
              have HS0 : Hid ((σ (rw + 1)) = 0 ∨ (σ (rw + 1)) = ((r2 + 1 : Nat) : Int)) := .inl hs0
              refine region_then fun K409 QK409 hK409 => ?_
              refine s_val hM364 (.inl rfl) rfl rfl (ev_move (.inl rfl) rfl) (fun a411 hM410 => ?_)
              clear hM364
              refine s_val hM410 (.inl rfl) rfl rfl (ev_move (.inl rfl) rfl) (fun a413 hM412 => ?_)
              clear hM410
              refine s_val hM412 (.inl rfl) rfl rfl (ev_bin rfl rfl rfl g_int (b_eql (b := false) (decide_eq_false hl))) (fun a415 hM414 => ?_)
              clear hM412
              refine s_val hM414 (.inl rfl) rfl rfl (ev_move (.inl rfl) rfl) (fun a417 hM416 => ?_)
              clear hM414
              refine s_val hM416 (.inr ⟨_, _, _, rfl, rfl, rfl⟩) rfl rfl (ev_move (.inl rfl) rfl) (fun a419 hM418 => ?_)
              clear hM416
              refine s_val hM418 (.inr ⟨_, _, _, rfl, rfl, rfl⟩) rfl rfl (ev_idxa (e := 3) (L := 5) (k := rw + 1) rfl rfl rfl (idx_arr (by omega))) (fun a421 hM420 => ?_)
              clear hM418
              refine s_val hM420 (.inr ⟨_, _, _, rfl, rfl, rfl⟩) rfl rfl (ev_load1 (v := .int .i64 (σ (rw + 1))) rfl rfl (((KA.out.on HB339.out)).at_ (arrS_at (by omega))) (isAgg_no Try.underlying3 rfl)) (fun a423 hM422 => ?_)
              clear hM420
              refine s_val hM422 (.inr ⟨_, _, _, rfl, rfl, rfl⟩) rfl rfl (ev_bin rfl rfl rfl g_int (b_neq (b := false) (by simp [hs0]))) (fun a425 hM424 => ?_)
              clear hM422
              refine s_val hM424 (.inr ⟨_, _, _, rfl, rfl, rfl⟩) rfl rfl (ev_move (.inl rfl) rfl) (fun a427 hM426 => ?_)
              clear hM424
              refine s_skip hM426 rfl rfl rfl rfl rfl rfl (fun a429 hM428 => ?_)
              clear hM426
              refine s_skip hM428 rfl rfl rfl rfl rfl rfl (fun a431 hM430 => ?_)
              clear hM428
              refine s_skip hM430 rfl rfl rfl rfl rfl rfl (fun a433 hM432 => ?_)
              clear hM430
              refine s_skip hM432 rfl rfl rfl rfl rfl rfl (fun a435 hM434 => ?_)
              clear hM432
              refine s_skip hM434 rfl rfl rfl rfl rfl rfl (fun a437 hM436 => ?_)
              clear hM434
              refine s_val hM436 (.inr ⟨_, _, _, rfl, rfl, rfl⟩) rfl rfl (ev_pick rfl rfl rfl) (fun a439 hM438 => ?_)
              clear hM436
              refine s_val hM438 (.inl rfl) rfl rfl (ev_pick rfl rfl rfl) (fun a441 hM440 => ?_)
              clear hM438
              refine seg_nil (hK409 _ _ ?_)
              clear hK409 K409 QK409
              have hM442 := hM440.cut12 (t1 := 1) (t2 := 3) (t3 := 4) (t4 := 5) (t5 := 6) (t6 := 8) (t7 := 10) (t8 := 11) (t9 := 12) (t10 := 13) (t11 := 14) (t12 := 99) rfl rfl rfl rfl rfl rfl rfl rfl rfl rfl rfl rfl
              clear hM440
              refine wp_cond_false (hM442.ev (t := 99) rfl) ?_
              refine wp_skip ?_
              refine hK365 _ _ ?_
              refine region_then fun K443 QK443 hK443 => ?_
              refine s_val hM442 (.inl rfl) rfl rfl (ev_move (.inl rfl) rfl) (fun a445 hM444 => ?_)
              clear hM442
              refine s_val hM444 (.inl rfl) rfl rfl (ev_move (.inl rfl) rfl) (fun a447 hM446 => ?_)
              clear hM444
              refine s_val hM446 (.inl rfl) rfl rfl (ev_idxa (e := 3) (L := 5) (k := rw + 1) rfl rfl rfl (idx_arr (by omega))) (fun a449 hM448 => ?_)
              clear hM446
              refine s_put hM448 rfl rfl rfl rfl rfl (KA.out.on HB339.out) (by show rw + 1 < 5; omega) (st_int Try.underlying3 (by kernel_rfl)) (fun w450 kd hg => ?_)
              have kd2 : Blk w450 g215 62 (arrS (upA σ (rw + 1) ((r2 + 1 : Nat) : Int))) := by have h := kd; rw [arrS_set (by omega)] at h; exact h
              have HBK_ := hide (((HBK.out.below HB339.out)).store hg HN11.out H11.out)
              have KB451 := hide (((K4.out.on HB339.out)).chg (grown_chg hg) HE4.out.1)
              have KB452 := hide (((K5.out.on HB339.out)).chg (grown_chg hg) HE4.out.2.1)
              have KB453 := hide (((Kb.out.on HB339.out)).chg (grown_chg hg) HE4.out.2.2)
              have KB454 := hide (kd2)
              have HB455 := hide (below_then HNW.out HBK_.out.bw.below)
              clear HB338 HB339 HB341 K4 K5 Kb KA HBK kd kd2 hg
              have HBK := HBK_
              clear HBK_
              have HB457 : Hid (Below w450.heap.size w450 w450) := Below.refl _ _
              refine seg_nil (hK443 _ _ ?_)
              clear hK443 K443 QK443
              have hM458 := hM448.cut11 (t1 := 1) (t2 := 3) (t3 := 4) (t4 := 5) (t5 := 6) (t6 := 8) (t7 := 10) (t8 := 11) (t9 := 12) (t10 := 13) (t11 := 14) rfl rfl rfl rfl rfl rfl rfl rfl rfl rfl rfl
              clear hM448
              refine region_then fun K459 QK459 hK459 => ?_
              refine s_val hM458 (.inl rfl) rfl rfl (ev_move (.inl rfl) rfl) (fun a461 hM460 => ?_)
              clear hM458
              refine s_val hM460 (.inl rfl) rfl rfl (ev_move (.inl rfl) rfl) (fun a463 hM462 => ?_)
              clear hM460
              refine s_val hM462 (.inl rfl) rfl rfl (ev_move (.inl rfl) rfl) (fun a465 hM464 => ?_)
              clear hM462
              refine s_call hM464 (.inl rfl) rfl rfl (f := 20) (args := #[.pointer (some ⟨g, 0, none⟩), .int .i64 (((rw + 1 : Nat) : Int)), .int .i64 (((r2 + 1 : Nat) : Int))]) (ev_call hM464 rfl rfl rfl (fun w => by simp [go_sem]) _) (book_Sign ((rw + 1 : Nat) : Int) ((r2 + 1 : Nat) : Int) _ ((HBK.out.below HB457.out)).bw.bk (r := 0) (sgr_one hrw hr2)) (fun e w466 hp => ?_)
              obtain ⟨rfl, h1, h2⟩ := hp
              have HBK_ := hide (show BkK w21 G3 w466 g hdL (sgA (upA σ (rw + 1) ((r2 + 1 : Nat) : Int))) from by rw [← sgA_up (σ := σ) (i := rw + 1) (d := ((r2 + 1 : Nat) : Int)) (by omega) (by omega) HS0.out]; exact ((HBK.out.below HB457.out)).sign h1 h2)
              have KB470 := hide (((KB451.out.on HB457.out)).chg h2 HN4.out)
              have KB471 := hide (((KB452.out.on HB457.out)).chg h2 HN5.out)
              have KB472 := hide (((KB453.out.on HB457.out)).chg h2 HNb.out)
              have KB473 := hide (((KB454.out.on HB457.out)).chg h2 HN11.out)
              have HB474 := hide (below_then HNW.out HBK_.out.bw.below)
              clear HB455 HB457 KB451 KB452 KB453 KB454 HBK h1 h2
              have HBK := HBK_
              clear HBK_
              have HB476 : Hid (Below w466.heap.size w466 w466) := Below.refl _ _
              refine ⟨_, rfl, fun a469 hM468 => ?_⟩
              clear hM464
              refine s_call hM468 (.inl rfl) rfl rfl (f := 19) (args := #[.int .i64 0]) (ev_call hM468 rfl rfl rfl (fun w => by simp [go_sem]) _) (law8_num _ _) (fun e w477 hp => ?_)
              obtain ⟨rfl, rfl⟩ := hp
              refine ⟨_, rfl, fun a480 hM479 => ?_⟩
              clear hM468
              refine s_val hM479 (.inl rfl) rfl rfl (ev_bin rfl rfl rfl g_int (b_neq (b := false) (by decide))) (fun a482 hM481 => ?_)
              clear hM479
              refine seg_nil (hK459 _ _ ?_)
              clear hK459 K459 QK459
              have hM483 := hM481.cut10 (t1 := 1) (t2 := 3) (t3 := 4) (t4 := 5) (t5 := 6) (t6 := 8) (t7 := 10) (t8 := 11) (t9 := 12) (t10 := 108) rfl rfl rfl rfl rfl rfl rfl rfl rfl rfl
              clear hM481
              refine wp_cond_false (hM483.ev (t := 108) rfl) ?_
              refine wp_skip ?_
              refine inb_n ?_
              refine hK305 _ _ ?_
              refine region_last fun K484 QK484 hK484 => ?_
              refine s_val hM483 (.inl rfl) rfl rfl (ev_move (.inl rfl) rfl) (fun a486 hM485 => ?_)
              clear hM483
              refine s_val hM485 (.inl rfl) rfl rfl (ev_bin rfl rfl rfl g_int (b_add (r := ((j + 1 : Nat) : Int)) (by omega) (by omega))) (fun a488 hM487 => ?_)
              clear hM485
              refine s_val hM487 (.inl rfl) rfl rfl (ev_move (.inr rfl) rfl) (fun a490 hM489 => ?_)
              clear hM487
              refine seg_nil (hK484 _ _ ?_)
              clear hK484 K484 QK484
              have hM491 := hM489.cut9 (t1 := 1) (t2 := 3) (t3 := 4) (t4 := 5) (t5 := 6) (t6 := 8) (t7 := 10) (t8 := 11) (t9 := 12) rfl rfl rfl rfl rfl rfl rfl rfl rfl
              clear hM489
              have hM492 := hM491.cut9 (t1 := 12) (t2 := 1) (t3 := 3) (t4 := 4) (t5 := 5) (t6 := 6) (t7 := 8) (t8 := 10) (t9 := 11) rfl rfl rfl rfl rfl rfl rfl rfl rfl
              clear hM491
              exact ⟨s.wo.n - (j + 1), by omega, j + 1, (upA σ (rw + 1) ((r2 + 1 : Nat) : Int)), rfl, hM492, HB474, (hide (HBK.out.below HB476.out)), (hide (KB470.out.on HB476.out)), (hide (KB471.out.on HB476.out)), (hide (KB472.out.on HB476.out)), (hide (KB473.out.on HB476.out))⟩
            case neg =>
              by_cases hsd : (σ (rw + 1)) = ((r2 + 1 : Nat) : Int)
              case pos =>
                have HS0 : Hid ((σ (rw + 1)) = 0 ∨ (σ (rw + 1)) = ((r2 + 1 : Nat) : Int)) := .inr hsd
                refine region_then fun K493 QK493 hK493 => ?_
                refine s_val hM364 (.inl rfl) rfl rfl (ev_move (.inl rfl) rfl) (fun a495 hM494 => ?_)
                clear hM364
                refine s_val hM494 (.inl rfl) rfl rfl (ev_move (.inl rfl) rfl) (fun a497 hM496 => ?_)
                clear hM494
                refine s_val hM496 (.inl rfl) rfl rfl (ev_bin rfl rfl rfl g_int (b_eql (b := false) (decide_eq_false hl))) (fun a499 hM498 => ?_)
                clear hM496
                refine s_val hM498 (.inl rfl) rfl rfl (ev_move (.inl rfl) rfl) (fun a501 hM500 => ?_)
                clear hM498
                refine s_val hM500 (.inr ⟨_, _, _, rfl, rfl, rfl⟩) rfl rfl (ev_move (.inl rfl) rfl) (fun a503 hM502 => ?_)
                clear hM500
                refine s_val hM502 (.inr ⟨_, _, _, rfl, rfl, rfl⟩) rfl rfl (ev_idxa (e := 3) (L := 5) (k := rw + 1) rfl rfl rfl (idx_arr (by omega))) (fun a505 hM504 => ?_)
                clear hM502
                refine s_val hM504 (.inr ⟨_, _, _, rfl, rfl, rfl⟩) rfl rfl (ev_load1 (v := .int .i64 (σ (rw + 1))) rfl rfl (((KA.out.on HB339.out)).at_ (arrS_at (by omega))) (isAgg_no Try.underlying3 rfl)) (fun a507 hM506 => ?_)
                clear hM504
                refine s_val hM506 (.inr ⟨_, _, _, rfl, rfl, rfl⟩) rfl rfl (ev_bin rfl rfl rfl g_int (b_neq (b := true) (decide_eq_true hs0))) (fun a509 hM508 => ?_)
                clear hM506
                refine s_val hM508 (.inr ⟨_, _, _, rfl, rfl, rfl⟩) rfl rfl (ev_move (.inl rfl) rfl) (fun a511 hM510 => ?_)
                clear hM508
                refine s_val hM510 (.inr ⟨_, _, _, rfl, rfl, rfl⟩) rfl rfl (ev_move (.inl rfl) rfl) (fun a513 hM512 => ?_)
                clear hM510
                refine s_val hM512 (.inr ⟨_, _, _, rfl, rfl, rfl⟩) rfl rfl (ev_idxa (e := 3) (L := 5) (k := rw + 1) rfl rfl rfl (idx_arr (by omega))) (fun a515 hM514 => ?_)
                clear hM512
                refine s_val hM514 (.inr ⟨_, _, _, rfl, rfl, rfl⟩) rfl rfl (ev_load1 (v := .int .i64 (σ (rw + 1))) rfl rfl (((KA.out.on HB339.out)).at_ (arrS_at (by omega))) (isAgg_no Try.underlying3 rfl)) (fun a517 hM516 => ?_)
                clear hM514
                refine s_val hM516 (.inr ⟨_, _, _, rfl, rfl, rfl⟩) rfl rfl (ev_move (.inl rfl) rfl) (fun a519 hM518 => ?_)
                clear hM516
                refine s_val hM518 (.inr ⟨_, _, _, rfl, rfl, rfl⟩) rfl rfl (ev_bin rfl rfl rfl g_int (b_neq (b := false) (by rw [hsd]; simp))) (fun a521 hM520 => ?_)
                clear hM518
                refine s_val hM520 (.inr ⟨_, _, _, rfl, rfl, rfl⟩) rfl rfl (ev_pick rfl rfl rfl) (fun a523 hM522 => ?_)
                clear hM520
                refine s_val hM522 (.inl rfl) rfl rfl (ev_pick rfl rfl rfl) (fun a525 hM524 => ?_)
                clear hM522
                refine seg_nil (hK493 _ _ ?_)
                clear hK493 K493 QK493
                have hM526 := hM524.cut12 (t1 := 1) (t2 := 3) (t3 := 4) (t4 := 5) (t5 := 6) (t6 := 8) (t7 := 10) (t8 := 11) (t9 := 12) (t10 := 13) (t11 := 14) (t12 := 99) rfl rfl rfl rfl rfl rfl rfl rfl rfl rfl rfl rfl
                clear hM524
                refine wp_cond_false (hM526.ev (t := 99) rfl) ?_
                refine wp_skip ?_
                refine hK365 _ _ ?_
                refine region_then fun K527 QK527 hK527 => ?_
                refine s_val hM526 (.inl rfl) rfl rfl (ev_move (.inl rfl) rfl) (fun a529 hM528 => ?_)
                clear hM526
                refine s_val hM528 (.inl rfl) rfl rfl (ev_move (.inl rfl) rfl) (fun a531 hM530 => ?_)
                clear hM528
                refine s_val hM530 (.inl rfl) rfl rfl (ev_idxa (e := 3) (L := 5) (k := rw + 1) rfl rfl rfl (idx_arr (by omega))) (fun a533 hM532 => ?_)
                clear hM530
                refine s_put hM532 rfl rfl rfl rfl rfl (KA.out.on HB339.out) (by show rw + 1 < 5; omega) (st_int Try.underlying3 (by kernel_rfl)) (fun w534 kd hg => ?_)
                have kd2 : Blk w534 g215 62 (arrS (upA σ (rw + 1) ((r2 + 1 : Nat) : Int))) := by have h := kd; rw [arrS_set (by omega)] at h; exact h
                have HBK_ := hide (((HBK.out.below HB339.out)).store hg HN11.out H11.out)
                have KB535 := hide (((K4.out.on HB339.out)).chg (grown_chg hg) HE4.out.1)
                have KB536 := hide (((K5.out.on HB339.out)).chg (grown_chg hg) HE4.out.2.1)
                have KB537 := hide (((Kb.out.on HB339.out)).chg (grown_chg hg) HE4.out.2.2)
                have KB538 := hide (kd2)
                have HB539 := hide (below_then HNW.out HBK_.out.bw.below)
                clear HB338 HB339 HB341 K4 K5 Kb KA HBK kd kd2 hg
                have HBK := HBK_
                clear HBK_
                have HB541 : Hid (Below w534.heap.size w534 w534) := Below.refl _ _
                refine seg_nil (hK527 _ _ ?_)
                clear hK527 K527 QK527
                have hM542 := hM532.cut11 (t1 := 1) (t2 := 3) (t3 := 4) (t4 := 5) (t5 := 6) (t6 := 8) (t7 := 10) (t8 := 11) (t9 := 12) (t10 := 13) (t11 := 14) rfl rfl rfl rfl rfl rfl rfl rfl rfl rfl rfl
                clear hM532
                refine region_then fun K543 QK543 hK543 => ?_
                refine s_val hM542 (.inl rfl) rfl rfl (ev_move (.inl rfl) rfl) (fun a545 hM544 => ?_)
                clear hM542
                refine s_val hM544 (.inl rfl) rfl rfl (ev_move (.inl rfl) rfl) (fun a547 hM546 => ?_)
                clear hM544
                refine s_val hM546 (.inl rfl) rfl rfl (ev_move (.inl rfl) rfl) (fun a549 hM548 => ?_)
                clear hM546
                refine s_call hM548 (.inl rfl) rfl rfl (f := 20) (args := #[.pointer (some ⟨g, 0, none⟩), .int .i64 (((rw + 1 : Nat) : Int)), .int .i64 (((r2 + 1 : Nat) : Int))]) (ev_call hM548 rfl rfl rfl (fun w => by simp [go_sem]) _) (book_Sign ((rw + 1 : Nat) : Int) ((r2 + 1 : Nat) : Int) _ ((HBK.out.below HB541.out)).bw.bk (r := 0) (sgr_one hrw hr2)) (fun e w550 hp => ?_)
                obtain ⟨rfl, h1, h2⟩ := hp
                have HBK_ := hide (show BkK w21 G3 w550 g hdL (sgA (upA σ (rw + 1) ((r2 + 1 : Nat) : Int))) from by rw [← sgA_up (σ := σ) (i := rw + 1) (d := ((r2 + 1 : Nat) : Int)) (by omega) (by omega) HS0.out]; exact ((HBK.out.below HB541.out)).sign h1 h2)
                have KB554 := hide (((KB535.out.on HB541.out)).chg h2 HN4.out)
                have KB555 := hide (((KB536.out.on HB541.out)).chg h2 HN5.out)
                have KB556 := hide (((KB537.out.on HB541.out)).chg h2 HNb.out)
                have KB557 := hide (((KB538.out.on HB541.out)).chg h2 HN11.out)
                have HB558 := hide (below_then HNW.out HBK_.out.bw.below)
                clear HB539 HB541 KB535 KB536 KB537 KB538 HBK h1 h2
                have HBK := HBK_
                clear HBK_
                have HB560 : Hid (Below w550.heap.size w550 w550) := Below.refl _ _
                refine ⟨_, rfl, fun a553 hM552 => ?_⟩
                clear hM548
                refine s_call hM552 (.inl rfl) rfl rfl (f := 19) (args := #[.int .i64 0]) (ev_call hM552 rfl rfl rfl (fun w => by simp [go_sem]) _) (law8_num _ _) (fun e w561 hp => ?_)
                obtain ⟨rfl, rfl⟩ := hp
                refine ⟨_, rfl, fun a564 hM563 => ?_⟩
                clear hM552
                refine s_val hM563 (.inl rfl) rfl rfl (ev_bin rfl rfl rfl g_int (b_neq (b := false) (by decide))) (fun a566 hM565 => ?_)
                clear hM563
                refine seg_nil (hK543 _ _ ?_)
                clear hK543 K543 QK543
                have hM567 := hM565.cut10 (t1 := 1) (t2 := 3) (t3 := 4) (t4 := 5) (t5 := 6) (t6 := 8) (t7 := 10) (t8 := 11) (t9 := 12) (t10 := 108) rfl rfl rfl rfl rfl rfl rfl rfl rfl rfl
                clear hM565
                refine wp_cond_false (hM567.ev (t := 108) rfl) ?_
                refine wp_skip ?_
                refine inb_n ?_
                refine hK305 _ _ ?_
                refine region_last fun K568 QK568 hK568 => ?_
                refine s_val hM567 (.inl rfl) rfl rfl (ev_move (.inl rfl) rfl) (fun a570 hM569 => ?_)
                clear hM567
                refine s_val hM569 (.inl rfl) rfl rfl (ev_bin rfl rfl rfl g_int (b_add (r := ((j + 1 : Nat) : Int)) (by omega) (by omega))) (fun a572 hM571 => ?_)
                clear hM569
                refine s_val hM571 (.inl rfl) rfl rfl (ev_move (.inr rfl) rfl) (fun a574 hM573 => ?_)
                clear hM571
                refine seg_nil (hK568 _ _ ?_)
                clear hK568 K568 QK568
                have hM575 := hM573.cut9 (t1 := 1) (t2 := 3) (t3 := 4) (t4 := 5) (t5 := 6) (t6 := 8) (t7 := 10) (t8 := 11) (t9 := 12) rfl rfl rfl rfl rfl rfl rfl rfl rfl
                clear hM573
                have hM576 := hM575.cut9 (t1 := 12) (t2 := 1) (t3 := 3) (t4 := 4) (t5 := 5) (t6 := 6) (t7 := 8) (t8 := 10) (t9 := 11) rfl rfl rfl rfl rfl rfl rfl rfl rfl
                clear hM575
                exact ⟨s.wo.n - (j + 1), by omega, j + 1, (upA σ (rw + 1) ((r2 + 1 : Nat) : Int)), rfl, hM576, HB558, (hide (HBK.out.below HB560.out)), (hide (KB554.out.on HB560.out)), (hide (KB555.out.on HB560.out)), (hide (KB556.out.on HB560.out)), (hide (KB557.out.on HB560.out))⟩
              case neg =>
                refine region_then fun K577 QK577 hK577 => ?_
                refine s_val hM364 (.inl rfl) rfl rfl (ev_move (.inl rfl) rfl) (fun a579 hM578 => ?_)
                clear hM364
                refine s_val hM578 (.inl rfl) rfl rfl (ev_move (.inl rfl) rfl) (fun a581 hM580 => ?_)
                clear hM578
                refine s_val hM580 (.inl rfl) rfl rfl (ev_bin rfl rfl rfl g_int (b_eql (b := false) (decide_eq_false hl))) (fun a583 hM582 => ?_)
                clear hM580
                refine s_val hM582 (.inl rfl) rfl rfl (ev_move (.inl rfl) rfl) (fun a585 hM584 => ?_)
                clear hM582
                refine s_val hM584 (.inr ⟨_, _, _, rfl, rfl, rfl⟩) rfl rfl (ev_move (.inl rfl) rfl) (fun a587 hM586 => ?_)
                clear hM584
                refine s_val hM586 (.inr ⟨_, _, _, rfl, rfl, rfl⟩) rfl rfl (ev_idxa (e := 3) (L := 5) (k := rw + 1) rfl rfl rfl (idx_arr (by omega))) (fun a589 hM588 => ?_)
                clear hM586
                refine s_val hM588 (.inr ⟨_, _, _, rfl, rfl, rfl⟩) rfl rfl (ev_load1 (v := .int .i64 (σ (rw + 1))) rfl rfl (((KA.out.on HB339.out)).at_ (arrS_at (by omega))) (isAgg_no Try.underlying3 rfl)) (fun a591 hM590 => ?_)
                clear hM588
                refine s_val hM590 (.inr ⟨_, _, _, rfl, rfl, rfl⟩) rfl rfl (ev_bin rfl rfl rfl g_int (b_neq (b := true) (decide_eq_true hs0))) (fun a593 hM592 => ?_)
                clear hM590
                refine s_val hM592 (.inr ⟨_, _, _, rfl, rfl, rfl⟩) rfl rfl (ev_move (.inl rfl) rfl) (fun a595 hM594 => ?_)
                clear hM592
                refine s_val hM594 (.inr ⟨_, _, _, rfl, rfl, rfl⟩) rfl rfl (ev_move (.inl rfl) rfl) (fun a597 hM596 => ?_)
                clear hM594
                refine s_val hM596 (.inr ⟨_, _, _, rfl, rfl, rfl⟩) rfl rfl (ev_idxa (e := 3) (L := 5) (k := rw + 1) rfl rfl rfl (idx_arr (by omega))) (fun a599 hM598 => ?_)
                clear hM596
                refine s_val hM598 (.inr ⟨_, _, _, rfl, rfl, rfl⟩) rfl rfl (ev_load1 (v := .int .i64 (σ (rw + 1))) rfl rfl (((KA.out.on HB339.out)).at_ (arrS_at (by omega))) (isAgg_no Try.underlying3 rfl)) (fun a601 hM600 => ?_)
                clear hM598
                refine s_val hM600 (.inr ⟨_, _, _, rfl, rfl, rfl⟩) rfl rfl (ev_move (.inl rfl) rfl) (fun a603 hM602 => ?_)
                clear hM600
                refine s_val hM602 (.inr ⟨_, _, _, rfl, rfl, rfl⟩) rfl rfl (ev_bin rfl rfl rfl g_int (b_neq (b := true) (decide_eq_true hsd))) (fun a605 hM604 => ?_)
                clear hM602
                refine s_val hM604 (.inr ⟨_, _, _, rfl, rfl, rfl⟩) rfl rfl (ev_pick rfl rfl rfl) (fun a607 hM606 => ?_)
                clear hM604
                refine s_val hM606 (.inl rfl) rfl rfl (ev_pick rfl rfl rfl) (fun a609 hM608 => ?_)
                clear hM606
                refine seg_nil (hK577 _ _ ?_)
                clear hK577 K577 QK577
                have hM610 := hM608.cut12 (t1 := 1) (t2 := 3) (t3 := 4) (t4 := 5) (t5 := 6) (t6 := 8) (t7 := 10) (t8 := 11) (t9 := 12) (t10 := 13) (t11 := 14) (t12 := 99) rfl rfl rfl rfl rfl rfl rfl rfl rfl rfl rfl rfl
                clear hM608
                refine wp_cond_true (hM610.ev (t := 99) rfl) ?_
                refine wp_exit ?_
                repeat (with_reducible refine th_e ?_)
                refine inb_e ?_
                refine hK305 _ _ ?_
                refine region_last fun K611 QK611 hK611 => ?_
                refine s_val hM610 (.inl rfl) rfl rfl (ev_move (.inl rfl) rfl) (fun a613 hM612 => ?_)
                clear hM610
                refine s_val hM612 (.inl rfl) rfl rfl (ev_bin rfl rfl rfl g_int (b_add (r := ((j + 1 : Nat) : Int)) (by omega) (by omega))) (fun a615 hM614 => ?_)
                clear hM612
                refine s_val hM614 (.inl rfl) rfl rfl (ev_move (.inr rfl) rfl) (fun a617 hM616 => ?_)
                clear hM614
                refine seg_nil (hK611 _ _ ?_)
                clear hK611 K611 QK611
                have hM618 := hM616.cut9 (t1 := 1) (t2 := 3) (t3 := 4) (t4 := 5) (t5 := 6) (t6 := 8) (t7 := 10) (t8 := 11) (t9 := 12) rfl rfl rfl rfl rfl rfl rfl rfl rfl
                clear hM616
                have hM619 := hM618.cut9 (t1 := 12) (t2 := 1) (t3 := 3) (t4 := 4) (t5 := 5) (t6 := 6) (t7 := 8) (t8 := 10) (t9 := 11) rfl rfl rfl rfl rfl rfl rfl rfl rfl
                clear hM618
                exact ⟨s.wo.n - (j + 1), by omega, j + 1, σ, rfl, hM619, HB338, (hide (HBK.out.below HB339.out)), (hide (K4.out.on HB339.out)), (hide (K5.out.on HB339.out)), (hide (Kb.out.on HB339.out)), (hide (KA.out.on HB339.out))⟩
    ·
      clear HB224 HB225 HB227 hM234 HBK HBKA KB160 KB161 KB162 KB219
      rintro a622 w620 ⟨j, σ, hM621, HB623, HBK, K4, K5, Kb, KA⟩
      have HB625 : Hid (Below w620.heap.size w620 w620) := Below.refl _ _
      refine hK229 _ _ ?_
      refine region_then fun K626 QK626 hK626 => ?_
      refine s_val hM621 (.inl rfl) rfl rfl (ev_move (.inr rfl) rfl) (fun a628 hM627 => ?_)
      clear hM621
      refine seg_nil (hK626 _ _ ?_)
      clear hK626 K626 QK626
      have hM629 := hM627.cut7 (t1 := 3) (t2 := 4) (t3 := 5) (t4 := 6) (t5 := 8) (t6 := 10) (t7 := 15) rfl rfl rfl rfl rfl rfl rfl
      clear hM627
      refine wp_seq_k fun K630 hK630 => ?_
      refine region_then fun K631 QK631 hK631 => ?_
      refine s_val hM629 (.inl rfl) rfl rfl (ev_move (.inr rfl) rfl) (fun a633 hM632 => ?_)
      clear hM629
      refine seg_nil (hK631 _ _ ?_)
      clear hK631 K631 QK631
      have hM634 := hM632.cut8 (t1 := 3) (t2 := 4) (t3 := 5) (t4 := 6) (t5 := 8) (t6 := 10) (t7 := 15) (t8 := 16) rfl rfl rfl rfl rfl rfl rfl rfl
      clear hM632
      have HNM := HB623
      have HNI : Hid (NI σ liar 0) := .inl rfl
      have hM635 := hM634.cut8 (t1 := 16) (t2 := 3) (t3 := 4) (t4 := 5) (t5 := 6) (t6 := 8) (t7 := 10) (t8 := 15) rfl rfl rfl rfl rfl rfl rfl rfl
      clear hM634
      refine wp_block ?_
      refine wp_loop_ghost (fun m a w' => ∃ (kk : Nat) (nn : Nat), m = 2 - kk ∧ Frm a 159 [(16, .int .i64 (kk : Int)), (3, .pointer (some ⟨g, 0, none⟩)), (4, .pointer (some ⟨g56, 0, none⟩)), (5, .pointer (some ⟨g88, 0, none⟩)), (6, .int .i64 1), (8, .int .i64 2), (10, .int .i64 liar), (15, .int .i64 (((nn : Nat) : Int)))] ∧ Hid (Below w21.heap.size w21 w') ∧ Hid (Below w620.heap.size w620 w') ∧ Hid (NI σ liar nn)) 2 ⟨0, 0,  by omega, hM635, HB623, HB625, HNI⟩ ?_
      clear HB623 HB625 hM635 HNI
      rintro m641 a637 w636 ⟨kk, nn, rfl, hM638, HB639, HB640, HNI⟩
      refine wp_seq_k fun K642 hK642 => ?_
      by_cases hk : kk < 2
      case neg =>
        refine region_then fun K643 QK643 hK643 => ?_
        refine s_val hM638 (.inl rfl) rfl rfl (ev_move (.inl rfl) rfl) (fun a645 hM644 => ?_)
        clear hM638
        refine s_val hM644 (.inl rfl) rfl rfl (ev_bin rfl rfl rfl g_int (b_lss (b := false) (by rw [decide_eq_false_iff_not]; omega))) (fun a647 hM646 => ?_)
        clear hM644
        refine seg_nil (hK643 _ _ ?_)
        clear hK643 K643 QK643
        have hM648 := hM646.cut9 (t1 := 3) (t2 := 4) (t3 := 5) (t4 := 6) (t5 := 8) (t6 := 10) (t7 := 15) (t8 := 16) (t9 := 110) rfl rfl rfl rfl rfl rfl rfl rfl rfl
        clear hM646
        refine wp_cond_false (hM648.ev (t := 110) rfl) ?_
        refine wp_exit ?_
        repeat (with_reducible refine th_e ?_)
        refine inb_e ?_
        refine hK630 _ _ ?_
        refine region_then fun K649 QK649 hK649 => ?_
        refine s_val hM648 (.inl rfl) rfl rfl (ev_move (.inl rfl) rfl) (fun a651 hM650 => ?_)
        clear hM648
        refine s_val hM650 (.inl rfl) rfl rfl (ev_bin rfl rfl rfl g_int (b_lss (b := true) (by have := HNI.out.lt; rw [decide_eq_true_eq]; omega))) (fun a653 hM652 => ?_)
        clear hM650
        refine s_val hM652 (.inl rfl) rfl rfl (ev_move (.inl rfl) rfl) (fun a655 hM654 => ?_)
        clear hM652
        refine s_call hM654 (.inr ⟨_, _, _, rfl, rfl, rfl⟩) rfl rfl (f := 28) (args := #[]) (ev_call hM654 rfl rfl rfl (fun w => by simp [go_sem]) _) (law8_wakes _) (fun e w656 hp => ?_)
        obtain ⟨rfl, hb657⟩ := hp
        refine ⟨_, rfl, fun a659 hM658 => ?_⟩
        clear hM654
        have HB660 := hide (below_then HB639.out hb657)
        have HB661 := hide (below_then HB640.out hb657)
        clear hb657 HB639 HB640
        refine s_val hM658 (.inl rfl) rfl rfl (ev_pick rfl rfl rfl) (fun a663 hM662 => ?_)
        clear hM658
        refine s_val hM662 (.inl rfl) rfl rfl (ev_move (.inr rfl) rfl) (fun a665 hM664 => ?_)
        clear hM662
        refine seg_nil (hK649 _ _ ?_)
        clear hK649 K649 QK649
        have hM666 := hM664.cut1 (t1 := 2) rfl
        clear hM664
        refine wp_ret ?_
        repeat (with_reducible first | refine th_r ?_ | refine inb_r ?_ | refine js_r ?_ | refine jq_r ?_)
        refine ret_of (t := 2) rfl hM666 rfl ?_
        exact ⟨rfl, below_then HB00.out HB660.out⟩
      case pos =>
        obtain rfl | rfl : kk = 0 ∨ kk = 1 := by omega
        ·
          obtain ⟨CX, HCX⟩ : ∃ C : Array Value, Hid (C = crtC (.slice none 0 0) 1 (.slice none 0 0)) := ⟨_, rfl⟩
          refine region_then fun K667 QK667 hK667 => ?_
          refine s_val hM638 (.inl rfl) rfl rfl (ev_move (.inl rfl) rfl) (fun a669 hM668 => ?_)
          clear hM638
          refine s_val hM668 (.inl rfl) rfl rfl (ev_bin rfl rfl rfl g_int (b_lss (b := true) (by decide))) (fun a671 hM670 => ?_)
          clear hM668
          refine seg_nil (hK667 _ _ ?_)
          clear hK667 K667 QK667
          have hM672 := hM670.cut9 (t1 := 3) (t2 := 4) (t3 := 5) (t4 := 6) (t5 := 8) (t6 := 10) (t7 := 15) (t8 := 16) (t9 := 110) rfl rfl rfl rfl rfl rfl rfl rfl rfl
          clear hM670
          refine wp_cond_true (hM672.ev (t := 110) rfl) ?_
          refine wp_skip ?_
          refine hK642 _ _ ?_
          refine wp_seq_k fun K673 hK673 => ?_
          refine wp_block ?_
          refine region_then fun K674 QK674 hK674 => ?_
          refine s_val hM672 (.inl rfl) rfl rfl (ev_loadm rfl rfl (K4.out.on HB640.out).rng Try.underlying38 rfl (by rw [HHX.out]; exact info_hdr)) (fun a676 hM675 => ?_)
          clear hM672
          refine s_val hM675 (.inl rfl) rfl rfl (ev_move (.inl rfl) rfl) (fun a678 hM677 => ?_)
          clear hM675
          refine s_val hM677 (.inl rfl) rfl rfl (ev_buildg (v := .agg CX) rfl rfl (fun w => by rw [HHX.out, HCX.out]; kernel_rfl)) (fun a680 hM679 => ?_)
          clear hM677
          refine s_new hM679 rfl rfl rfl rfl alloc_crt rfl rfl rfl rfl (by rw [HCX.out]; exact info_cert) (by rw [HCX.out]; rfl) (one_crt HCX.out) (fun g681 a687 w682 hM686 KB685_ hb683 hg684 => ?_)
          have KB685 := hide KB685_
          clear hM679 KB685_
          have lo688 := hide (Nat.le_trans HB639.out.size hg684)
          have lo689 := hide (Nat.le_trans HB640.out.size hg684)
          clear hg684
          have HB690 := hide (below_then HB639.out hb683)
          have HB691 := hide (below_then HB640.out hb683)
          clear hb683 HB639 HB640
          have HB693 : Hid (Below w682.heap.size w682 w682) := Below.refl _ _
          refine seg_nil (hK674 _ _ ?_)
          clear hK674 K674 QK674
          have hM694 := hM686.cut9 (t1 := 3) (t2 := 4) (t3 := 5) (t4 := 6) (t5 := 8) (t6 := 10) (t7 := 15) (t8 := 16) (t9 := 17) rfl rfl rfl rfl rfl rfl rfl rfl rfl
          clear hM686
          refine wp_seq_k fun K695 hK695 => ?_
          refine region_then fun K696 QK696 hK696 => ?_
          refine s_val hM694 (.inl rfl) rfl rfl (ev_move (.inl rfl) rfl) (fun a698 hM697 => ?_)
          clear hM694
          refine s_val hM697 (.inl rfl) rfl rfl (ev_bin rfl rfl rfl g_int (b_eql (b := false) (by decide))) (fun a700 hM699 => ?_)
          clear hM697
          refine seg_nil (hK696 _ _ ?_)
          clear hK696 K696 QK696
          have hM701 := hM699.cut10 (t1 := 3) (t2 := 4) (t3 := 5) (t4 := 6) (t5 := 8) (t6 := 10) (t7 := 15) (t8 := 16) (t9 := 17) (t10 := 117) rfl rfl rfl rfl rfl rfl rfl rfl rfl rfl
          clear hM699
          refine wp_cond_false (hM701.ev (t := 117) rfl) ?_
          refine wp_skip ?_
          refine hK695 _ _ ?_
          refine region_then fun K702 QK702 hK702 => ?_
          refine s_val hM701 (.inl rfl) rfl rfl (ev_move (.inr rfl) rfl) (fun a704 hM703 => ?_)
          clear hM701
          refine seg_nil (hK702 _ _ ?_)
          clear hK702 K702 QK702
          have hM705 := hM703.cut10 (t1 := 3) (t2 := 4) (t3 := 5) (t4 := 6) (t5 := 8) (t6 := 10) (t7 := 15) (t8 := 16) (t9 := 17) (t10 := 18) rfl rfl rfl rfl rfl rfl rfl rfl rfl rfl
          clear hM703
          have KC : Hid (Blk w682 g681 40 (crtC (.slice none 0 0) 1 (.slice none 0 0))) := by have h := (KB685.out.on HB693.out); rw [HCX.out] at h; exact h
          have hM706 := hM705.cut10 (t1 := 18) (t2 := 3) (t3 := 4) (t4 := 5) (t5 := 6) (t6 := 8) (t7 := 10) (t8 := 15) (t9 := 16) (t10 := 17) rfl rfl rfl rfl rfl rfl rfl rfl rfl rfl
          clear hM705
          refine wp_block ?_
          refine wp_loop_ghost (fun m a w' => ∃ (jj : Nat) (nn : Nat) (V : Value), m = 15 - jj ∧ Frm a 159 [(18, .int .i64 ((jj + 1 : Nat) : Int)), (3, .pointer (some ⟨g, 0, none⟩)), (4, .pointer (some ⟨g56, 0, none⟩)), (5, .pointer (some ⟨g88, 0, none⟩)), (6, .int .i64 1), (8, .int .i64 2), (10, .int .i64 liar), (15, .int .i64 (((nn : Nat) : Int))), (16, .int .i64 (((0 : Nat) : Int))), (17, .pointer (some ⟨g681, 0, none⟩))] ∧ Hid (Below w21.heap.size w21 w') ∧ Hid (Below w620.heap.size w620 w') ∧ Hid (Blk w' g681 40 (crtC (.slice none 0 0) 1 V)) ∧ Hid (NI σ liar nn)) 15 ⟨0, nn, (.slice none 0 0),  by omega, hM706, HB690, HB691, KC, HNI⟩ ?_
          clear HB690 HB691 HB693 hM706 KC HNI
          rintro m712 a708 w707 ⟨jj, nn, V, rfl, hM709, HB710, HB711, KC, HNI⟩
          have HB714 : Hid (Below w707.heap.size w707 w707) := Below.refl _ _
          refine wp_seq_k fun K715 hK715 => ?_
          by_cases hj : jj < 15
          case neg =>
            refine region_then fun K716 QK716 hK716 => ?_
            refine s_val hM709 (.inl rfl) rfl rfl (ev_move (.inl rfl) rfl) (fun a718 hM717 => ?_)
            clear hM709
            refine s_val hM717 (.inl rfl) rfl rfl (ev_bin rfl rfl rfl g_int (b_lss (b := false) (by rw [decide_eq_false_iff_not]; omega))) (fun a720 hM719 => ?_)
            clear hM717
            refine seg_nil (hK716 _ _ ?_)
            clear hK716 K716 QK716
            have hM721 := hM719.cut11 (t1 := 3) (t2 := 4) (t3 := 5) (t4 := 6) (t5 := 8) (t6 := 10) (t7 := 15) (t8 := 16) (t9 := 17) (t10 := 18) (t11 := 122) rfl rfl rfl rfl rfl rfl rfl rfl rfl rfl rfl
            clear hM719
            refine wp_cond_false (hM721.ev (t := 122) rfl) ?_
            refine wp_exit ?_
            repeat (with_reducible refine th_e ?_)
            refine inb_e ?_
            refine inb_n ?_
            refine hK673 _ _ ?_
            refine region_last fun K722 QK722 hK722 => ?_
            refine s_val hM721 (.inl rfl) rfl rfl (ev_move (.inl rfl) rfl) (fun a724 hM723 => ?_)
            clear hM721
            refine s_val hM723 (.inl rfl) rfl rfl (ev_bin rfl rfl rfl g_int (b_add (r := ((0 + 1 : Nat) : Int)) (by decide) (by decide))) (fun a726 hM725 => ?_)
            clear hM723
            refine s_val hM725 (.inl rfl) rfl rfl (ev_move (.inr rfl) rfl) (fun a728 hM727 => ?_)
            clear hM725
            refine seg_nil (hK722 _ _ ?_)
            clear hK722 K722 QK722
            have hM729 := hM727.cut8 (t1 := 3) (t2 := 4) (t3 := 5) (t4 := 6) (t5 := 8) (t6 := 10) (t7 := 15) (t8 := 16) rfl rfl rfl rfl rfl rfl rfl rfl
            clear hM727
            have hM730 := hM729.cut8 (t1 := 16) (t2 := 3) (t3 := 4) (t4 := 5) (t5 := 6) (t6 := 8) (t7 := 10) (t8 := 15) rfl rfl rfl rfl rfl rfl rfl rfl
            clear hM729
            exact ⟨2 - (0 + 1), by omega, 0 + 1, nn, rfl, hM730, HB710, HB711, HNI⟩
          case pos =>
            refine region_then fun K731 QK731 hK731 => ?_
            refine s_val hM709 (.inl rfl) rfl rfl (ev_move (.inl rfl) rfl) (fun a733 hM732 => ?_)
            clear hM709
            refine s_val hM732 (.inl rfl) rfl rfl (ev_bin rfl rfl rfl g_int (b_lss (b := true) (by rw [decide_eq_true_eq]; omega))) (fun a735 hM734 => ?_)
            clear hM732
            refine seg_nil (hK731 _ _ ?_)
            clear hK731 K731 QK731
            have hM736 := hM734.cut11 (t1 := 3) (t2 := 4) (t3 := 5) (t4 := 6) (t5 := 8) (t6 := 10) (t7 := 15) (t8 := 16) (t9 := 17) (t10 := 18) (t11 := 122) rfl rfl rfl rfl rfl rfl rfl rfl rfl rfl rfl
            clear hM734
            refine wp_cond_true (hM736.ev (t := 122) rfl) ?_
            refine wp_skip ?_
            refine hK715 _ _ ?_
            refine wp_seq_k fun K737 hK737 => ?_
            refine wp_block ?_
            refine region_then fun K738 QK738 hK738 => ?_
            refine s_val hM736 (.inl rfl) rfl rfl (ev_fldw (m := 5) rfl rfl (fun w => by simp [go_sem])) (fun a740 hM739 => ?_)
            clear hM736
            refine s_put hM739 rfl rfl rfl rfl rfl (KC.out.on HB714.out) (by show 5 < 6; omega) (st_slice Try.underlying22 (by kernel_rfl)) (fun w741 KB742_ hg743 => ?_)
            have KB742 : Hid (Blk w741 g681 40 (crtC (.slice none 0 0) 1 (.slice none 0 0))) := by have h := KB742_; rw [crt_set] at h; exact h
            clear KB742_
            have HB744 := hide (below_of_grown HB710.out hg743 HB710.out.size lo688.out)
            have HB745 := hide (below_of_grown HB711.out hg743 HB711.out.size lo689.out)
            clear HB710 HB711 HB714 hg743
            have HB747 : Hid (Below w741.heap.size w741 w741) := Below.refl _ _
            refine seg_nil (hK738 _ _ ?_)
            clear hK738 K738 QK738
            have hM748 := hM739.cut10 (t1 := 3) (t2 := 4) (t3 := 5) (t4 := 6) (t5 := 8) (t6 := 10) (t7 := 15) (t8 := 16) (t9 := 17) (t10 := 18) rfl rfl rfl rfl rfl rfl rfl rfl rfl rfl
            clear hM739
            refine wp_seq_k fun K749 hK749 => ?_
            refine region_then fun K750 QK750 hK750 => ?_
            refine s_val hM748 (.inl rfl) rfl rfl (ev_move (.inr rfl) rfl) (fun a752 hM751 => ?_)
            clear hM748
            refine seg_nil (hK750 _ _ ?_)
            clear hK750 K750 QK750
            have hM753 := hM751.cut11 (t1 := 3) (t2 := 4) (t3 := 5) (t4 := 6) (t5 := 8) (t6 := 10) (t7 := 15) (t8 := 16) (t9 := 17) (t10 := 18) (t11 := 19) rfl rfl rfl rfl rfl rfl rfl rfl rfl rfl rfl
            clear hM751
            have HOS : Hid (OwnR w741 w620.heap.size 3 1 (.slice none 0 0) 0 (ints [])) := World.ownsRow_nil _ _ _ _
            have HSL : Hid (([] : List Int).length ≤ 0 ∧ 0 ≤ 4) := ⟨Nat.le_refl _, by omega⟩
            have KC := hide (KB742.out.on HB747.out)
            have hM754 := hM753.cut11 (t1 := 19) (t2 := 3) (t3 := 4) (t4 := 5) (t5 := 6) (t6 := 8) (t7 := 10) (t8 := 15) (t9 := 16) (t10 := 17) (t11 := 18) rfl rfl rfl rfl rfl rfl rfl rfl rfl rfl rfl
            clear hM753
            refine wp_block ?_
            refine wp_loop_ghost (fun m a w' => ∃ (ii : Nat) (AS : Option Addr) (cS : Nat) (S : List Int), m = 4 - ii ∧ Frm a 159 [(19, .int .i64 ((ii + 1 : Nat) : Int)), (3, .pointer (some ⟨g, 0, none⟩)), (4, .pointer (some ⟨g56, 0, none⟩)), (5, .pointer (some ⟨g88, 0, none⟩)), (6, .int .i64 1), (8, .int .i64 2), (10, .int .i64 liar), (15, .int .i64 (((nn : Nat) : Int))), (16, .int .i64 (((0 : Nat) : Int))), (17, .pointer (some ⟨g681, 0, none⟩)), (18, .int .i64 (((jj + 1 : Nat) : Int)))] ∧ Hid (Below w21.heap.size w21 w') ∧ Hid (Below w620.heap.size w620 w') ∧ Hid (Blk w' g681 40 (crtC (.slice none 0 0) 1 (.slice AS S.length cS))) ∧ Hid (OwnR w' w620.heap.size 3 1 (.slice AS S.length cS) S.length (ints S)) ∧ Hid (S.length ≤ ii ∧ ii ≤ 4)) 4 ⟨0, none, 0, [],  by omega, hM754, HB744, HB745, KC, HOS, HSL⟩ ?_
            clear HB744 HB745 HB747 hM754 KC HOS HSL
            rintro m760 a756 w755 ⟨ii, AS, cS, S, rfl, hM757, HB758, HB759, KC, HOS, HSL⟩
            have HB762 : Hid (Below w755.heap.size w755 w755) := Below.refl _ _
            refine wp_seq_k fun K763 hK763 => ?_
            by_cases hi : ii < 4
            case neg =>
              refine region_then fun K764 QK764 hK764 => ?_
              refine s_val hM757 (.inl rfl) rfl rfl (ev_move (.inl rfl) rfl) (fun a766 hM765 => ?_)
              clear hM757
              refine s_val hM765 (.inl rfl) rfl rfl (ev_bin rfl rfl rfl g_int (b_leq (b := false) (by rw [decide_eq_false_iff_not]; omega))) (fun a768 hM767 => ?_)
              clear hM765
              refine seg_nil (hK764 _ _ ?_)
              clear hK764 K764 QK764
              have hM769 := hM767.cut12 (t1 := 3) (t2 := 4) (t3 := 5) (t4 := 6) (t5 := 8) (t6 := 10) (t7 := 15) (t8 := 16) (t9 := 17) (t10 := 18) (t11 := 19) (t12 := 127) rfl rfl rfl rfl rfl rfl rfl rfl rfl rfl rfl rfl
              clear hM767
              refine wp_cond_false (hM769.ev (t := 127) rfl) ?_
              refine wp_exit ?_
              repeat (with_reducible refine th_e ?_)
              refine inb_e ?_
              refine hK749 _ _ ?_
              obtain ⟨CC, HCC⟩ : ∃ C : Array Value, Hid (C = (crtC (.slice none 0 0) 1 (.slice AS S.length cS))) := ⟨_, rfl⟩
              obtain ⟨MM, HMM⟩ : ∃ C : Array Value, Hid (C = msC (cmM hdX 1 S) (cmV (⟨none, 0, 0⟩ : SlV) ⟨AS, S.length, cS⟩)) := ⟨_, rfl⟩
              have KCC : Hid (Blk w755 g681 40 CC) := by rw [HCC.out]; exact (KC.out.on HB762.out)
              obtain ⟨rr, HRR⟩ : ∃ r, Hid (chkE hdL (sgA σ) [liar] 4 (cmM hdX 1 S) = r) := ⟨_, rfl⟩
              by_cases hr0 : rr = 0
              case pos =>
                have HB771 : Hid (Below w755.heap.size w755 w755) := Below.refl _ _
                have HOK := hide (ok_of (HRR.out.trans hr0))
                refine region_then fun K772 QK772 hK772 => ?_
                refine s_val hM769 (.inl rfl) rfl rfl (ev_move (.inl rfl) rfl) (fun a774 hM773 => ?_)
                clear hM769
                refine s_val hM773 (.inl rfl) rfl rfl (ev_move (.inl rfl) rfl) (fun a776 hM775 => ?_)
                clear hM773
                refine s_alloc (e := 3) hM775 (.inl rfl) rfl rfl (V := fun g => .slice (some ⟨g, 0, none⟩) 1 1) (ev_bsl hM775 rfl rfl (fun w => by kernel_rfl)) (fun g777 a783 w778 hM782 KB781_ hb779 hg780 => ?_)
                have KB781 := hide KB781_
                clear hM775 KB781_
                clear hg780
                have HB784 := hide (below_then HB758.out hb779)
                have HB785 := hide (below_then HB759.out hb779)
                have HB786 := hide (below_then HB762.out hb779)
                have HB787 := hide (below_then HB771.out hb779)
                clear hb779 HB758 HB759 HB762 HB771
                have HB789 : Hid (Below w778.heap.size w778 w778) := Below.refl _ _
                have HLL := hide (Sl.one_ KB781.out)
                refine s_val hM782 (.inl rfl) rfl rfl (ev_loadm rfl rfl (KCC.out.on HB787.out).rng Try.underlying40 rfl (by rw [HCC.out]; exact info_cert)) (fun a791 hM790 => ?_)
                clear hM782
                refine s_val hM790 (.inl rfl) rfl rfl (ev_buildg (v := .agg MM) rfl rfl (fun w => by rw [HCC.out, HMM.out]; kernel_rfl)) (fun a793 hM792 => ?_)
                clear hM790
                refine s_call hM792 (.inl rfl) rfl rfl (f := 23) (args := #[.pointer (some ⟨g, 0, none⟩), .int .i64 4, .slice ((some ⟨g777, 0, none⟩)) 1 1, .agg MM]) (ev_call hM792 rfl rfl rfl (fun w => by simp [go_sem]) _) (real_Check 4 (cmM hdX 1 S) (cmV (⟨none, 0, 0⟩ : SlV) ⟨AS, S.length, cS⟩) _ (hide ((HBK.out.below HB785.out)).bw.bk) (hide (show Sl _ 1 _ 1 (ints [liar]) from (HLL.out.below HB789.out))) (by omega) (hide (cm_s sl_nil rfl (Sl.of_own (HOS.out.below HB786.out)))) (hide (cm_z (by show 0 ≤ 9223372036854775807; omega) (by have := HSL.out; show S.length ≤ 9223372036854775807; omega))) HMM HRR) (fun e w794 hp => ?_)
                obtain ⟨rfl, hb795⟩ := hp
                refine ⟨_, rfl, fun a797 hM796 => ?_⟩
                clear hM792
                have HB798 := hide (below_then HB784.out hb795)
                have HB799 := hide (below_then HB785.out hb795)
                have HB800 := hide (below_then HB786.out hb795)
                have HB801 := hide (below_then HB787.out hb795)
                have HB802 := hide (below_then HB789.out hb795)
                clear hb795 HB784 HB785 HB786 HB787 HB789
                refine s_call hM796 (.inl rfl) rfl rfl (f := 19) (args := #[.int .i64 rr]) (ev_call hM796 rfl rfl rfl (fun w => by simp [go_sem]) _) (law8_num _ _) (fun e w803 hp => ?_)
                obtain ⟨rfl, rfl⟩ := hp
                refine ⟨_, rfl, fun a806 hM805 => ?_⟩
                clear hM796
                refine s_val hM805 (.inl rfl) rfl rfl (ev_bin rfl rfl rfl g_int (b_eql (b := true) (decide_eq_true hr0))) (fun a808 hM807 => ?_)
                clear hM805
                refine seg_nil (hK772 _ _ ?_)
                clear hK772 K772 QK772
                have hM809 := hM807.cut11 (t1 := 3) (t2 := 4) (t3 := 5) (t4 := 6) (t5 := 8) (t6 := 10) (t7 := 15) (t8 := 16) (t9 := 17) (t10 := 18) (t11 := 149) rfl rfl rfl rfl rfl rfl rfl rfl rfl rfl rfl
                clear hM807
                refine wp_cond_true (hM809.ev (t := 149) rfl) ?_
                obtain hn | ⟨hn, q1⟩ | ⟨hn, q2⟩ | ⟨hn, q1, q2⟩ := HNI.out
                ·
                  subst hn
                  refine region_last fun K810 QK810 hK810 => ?_
                  refine s_val hM809 (.inl rfl) rfl rfl (ev_move (.inl rfl) rfl) (fun a812 hM811 => ?_)
                  clear hM809
                  refine s_val hM811 (.inl rfl) rfl rfl (ev_move (.inl rfl) rfl) (fun a814 hM813 => ?_)
                  clear hM811
                  refine s_val hM813 (.inl rfl) rfl rfl (ev_bin (v := .int .i64 1) rfl rfl rfl g_int (fun w => by kernel_rfl)) (fun a816 hM815 => ?_)
                  clear hM813
                  refine s_val hM815 (.inl rfl) rfl rfl (ev_bin (v := .int .i64 1) rfl rfl rfl g_int (fun w => by kernel_rfl)) (fun a818 hM817 => ?_)
                  clear hM815
                  refine s_val hM817 (.inl rfl) rfl rfl (ev_move (.inr rfl) rfl) (fun a820 hM819 => ?_)
                  clear hM817
                  refine seg_nil (hK810 _ _ ?_)
                  clear hK810 K810 QK810
                  have hM821 := hM819.cut10 (t1 := 3) (t2 := 4) (t3 := 5) (t4 := 6) (t5 := 8) (t6 := 10) (t7 := 15) (t8 := 16) (t9 := 17) (t10 := 18) rfl rfl rfl rfl rfl rfl rfl rfl rfl rfl
                  clear hM819
                  refine inb_n ?_
                  refine hK737 _ _ ?_
                  refine region_last fun K822 QK822 hK822 => ?_
                  refine s_val hM821 (.inl rfl) rfl rfl (ev_move (.inl rfl) rfl) (fun a824 hM823 => ?_)
                  clear hM821
                  refine s_val hM823 (.inl rfl) rfl rfl (ev_bin rfl rfl rfl g_int (b_add (r := ((jj + 1 + 1 : Nat) : Int)) (by omega) (by omega))) (fun a826 hM825 => ?_)
                  clear hM823
                  refine s_val hM825 (.inl rfl) rfl rfl (ev_move (.inr rfl) rfl) (fun a828 hM827 => ?_)
                  clear hM825
                  refine seg_nil (hK822 _ _ ?_)
                  clear hK822 K822 QK822
                  have hM829 := hM827.cut10 (t1 := 3) (t2 := 4) (t3 := 5) (t4 := 6) (t5 := 8) (t6 := 10) (t7 := 15) (t8 := 16) (t9 := 17) (t10 := 18) rfl rfl rfl rfl rfl rfl rfl rfl rfl rfl
                  clear hM827
                  have hM830 := hM829.cut10 (t1 := 18) (t2 := 3) (t3 := 4) (t4 := 5) (t5 := 6) (t6 := 8) (t7 := 10) (t8 := 15) (t9 := 16) (t10 := 17) rfl rfl rfl rfl rfl rfl rfl rfl rfl rfl
                  clear hM829
                  exact ⟨15 - (jj + 1), by omega, jj + 1, 1, (.slice AS S.length cS), rfl, hM830, HB798, HB799, (by have h := (KCC.out.on HB801.out); rw [HCC.out] at h; exact hide h), (hide (Or.inr (Or.inl ⟨rfl, HOK.out⟩)))⟩
                ·
                  subst hn
                  refine region_last fun K831 QK831 hK831 => ?_
                  refine s_val hM809 (.inl rfl) rfl rfl (ev_move (.inl rfl) rfl) (fun a833 hM832 => ?_)
                  clear hM809
                  refine s_val hM832 (.inl rfl) rfl rfl (ev_move (.inl rfl) rfl) (fun a835 hM834 => ?_)
                  clear hM832
                  refine s_val hM834 (.inl rfl) rfl rfl (ev_bin (v := .int .i64 1) rfl rfl rfl g_int (fun w => by kernel_rfl)) (fun a837 hM836 => ?_)
                  clear hM834
                  refine s_val hM836 (.inl rfl) rfl rfl (ev_bin (v := .int .i64 1) rfl rfl rfl g_int (fun w => by kernel_rfl)) (fun a839 hM838 => ?_)
                  clear hM836
                  refine s_val hM838 (.inl rfl) rfl rfl (ev_move (.inr rfl) rfl) (fun a841 hM840 => ?_)
                  clear hM838
                  refine seg_nil (hK831 _ _ ?_)
                  clear hK831 K831 QK831
                  have hM842 := hM840.cut10 (t1 := 3) (t2 := 4) (t3 := 5) (t4 := 6) (t5 := 8) (t6 := 10) (t7 := 15) (t8 := 16) (t9 := 17) (t10 := 18) rfl rfl rfl rfl rfl rfl rfl rfl rfl rfl
                  clear hM840
                  refine inb_n ?_
                  refine hK737 _ _ ?_
                  refine region_last fun K843 QK843 hK843 => ?_
                  refine s_val hM842 (.inl rfl) rfl rfl (ev_move (.inl rfl) rfl) (fun a845 hM844 => ?_)
                  clear hM842
                  refine s_val hM844 (.inl rfl) rfl rfl (ev_bin rfl rfl rfl g_int (b_add (r := ((jj + 1 + 1 : Nat) : Int)) (by omega) (by omega))) (fun a847 hM846 => ?_)
                  clear hM844
                  refine s_val hM846 (.inl rfl) rfl rfl (ev_move (.inr rfl) rfl) (fun a849 hM848 => ?_)
                  clear hM846
                  refine seg_nil (hK843 _ _ ?_)
                  clear hK843 K843 QK843
                  have hM850 := hM848.cut10 (t1 := 3) (t2 := 4) (t3 := 5) (t4 := 6) (t5 := 8) (t6 := 10) (t7 := 15) (t8 := 16) (t9 := 17) (t10 := 18) rfl rfl rfl rfl rfl rfl rfl rfl rfl rfl
                  clear hM848
                  have hM851 := hM850.cut10 (t1 := 18) (t2 := 3) (t3 := 4) (t4 := 5) (t5 := 6) (t6 := 8) (t7 := 10) (t8 := 15) (t9 := 16) (t10 := 17) rfl rfl rfl rfl rfl rfl rfl rfl rfl rfl
                  clear hM850
                  exact ⟨15 - (jj + 1), by omega, jj + 1, 1, (.slice AS S.length cS), rfl, hM851, HB798, HB799, (by have h := (KCC.out.on HB801.out); rw [HCC.out] at h; exact hide h), (hide (Or.inr (Or.inl ⟨rfl, HOK.out⟩)))⟩
                ·
                  subst hn
                  refine region_last fun K852 QK852 hK852 => ?_
                  refine s_val hM809 (.inl rfl) rfl rfl (ev_move (.inl rfl) rfl) (fun a854 hM853 => ?_)
                  clear hM809
                  refine s_val hM853 (.inl rfl) rfl rfl (ev_move (.inl rfl) rfl) (fun a856 hM855 => ?_)
                  clear hM853
                  refine s_val hM855 (.inl rfl) rfl rfl (ev_bin (v := .int .i64 1) rfl rfl rfl g_int (fun w => by kernel_rfl)) (fun a858 hM857 => ?_)
                  clear hM855
                  refine s_val hM857 (.inl rfl) rfl rfl (ev_bin (v := .int .i64 3) rfl rfl rfl g_int (fun w => by kernel_rfl)) (fun a860 hM859 => ?_)
                  clear hM857
                  refine s_val hM859 (.inl rfl) rfl rfl (ev_move (.inr rfl) rfl) (fun a862 hM861 => ?_)
                  clear hM859
                  refine seg_nil (hK852 _ _ ?_)
                  clear hK852 K852 QK852
                  have hM863 := hM861.cut10 (t1 := 3) (t2 := 4) (t3 := 5) (t4 := 6) (t5 := 8) (t6 := 10) (t7 := 15) (t8 := 16) (t9 := 17) (t10 := 18) rfl rfl rfl rfl rfl rfl rfl rfl rfl rfl
                  clear hM861
                  refine inb_n ?_
                  refine hK737 _ _ ?_
                  refine region_last fun K864 QK864 hK864 => ?_
                  refine s_val hM863 (.inl rfl) rfl rfl (ev_move (.inl rfl) rfl) (fun a866 hM865 => ?_)
                  clear hM863
                  refine s_val hM865 (.inl rfl) rfl rfl (ev_bin rfl rfl rfl g_int (b_add (r := ((jj + 1 + 1 : Nat) : Int)) (by omega) (by omega))) (fun a868 hM867 => ?_)
                  clear hM865
                  refine s_val hM867 (.inl rfl) rfl rfl (ev_move (.inr rfl) rfl) (fun a870 hM869 => ?_)
                  clear hM867
                  refine seg_nil (hK864 _ _ ?_)
                  clear hK864 K864 QK864
                  have hM871 := hM869.cut10 (t1 := 3) (t2 := 4) (t3 := 5) (t4 := 6) (t5 := 8) (t6 := 10) (t7 := 15) (t8 := 16) (t9 := 17) (t10 := 18) rfl rfl rfl rfl rfl rfl rfl rfl rfl rfl
                  clear hM869
                  have hM872 := hM871.cut10 (t1 := 18) (t2 := 3) (t3 := 4) (t4 := 5) (t5 := 6) (t6 := 8) (t7 := 10) (t8 := 15) (t9 := 16) (t10 := 17) rfl rfl rfl rfl rfl rfl rfl rfl rfl rfl
                  clear hM871
                  exact ⟨15 - (jj + 1), by omega, jj + 1, 3, (.slice AS S.length cS), rfl, hM872, HB798, HB799, (by have h := (KCC.out.on HB801.out); rw [HCC.out] at h; exact hide h), (hide (Or.inr (Or.inr (Or.inr ⟨rfl, HOK.out, q2⟩))))⟩
                ·
                  subst hn
                  refine region_last fun K873 QK873 hK873 => ?_
                  refine s_val hM809 (.inl rfl) rfl rfl (ev_move (.inl rfl) rfl) (fun a875 hM874 => ?_)
                  clear hM809
                  refine s_val hM874 (.inl rfl) rfl rfl (ev_move (.inl rfl) rfl) (fun a877 hM876 => ?_)
                  clear hM874
                  refine s_val hM876 (.inl rfl) rfl rfl (ev_bin (v := .int .i64 1) rfl rfl rfl g_int (fun w => by kernel_rfl)) (fun a879 hM878 => ?_)
                  clear hM876
                  refine s_val hM878 (.inl rfl) rfl rfl (ev_bin (v := .int .i64 3) rfl rfl rfl g_int (fun w => by kernel_rfl)) (fun a881 hM880 => ?_)
                  clear hM878
                  refine s_val hM880 (.inl rfl) rfl rfl (ev_move (.inr rfl) rfl) (fun a883 hM882 => ?_)
                  clear hM880
                  refine seg_nil (hK873 _ _ ?_)
                  clear hK873 K873 QK873
                  have hM884 := hM882.cut10 (t1 := 3) (t2 := 4) (t3 := 5) (t4 := 6) (t5 := 8) (t6 := 10) (t7 := 15) (t8 := 16) (t9 := 17) (t10 := 18) rfl rfl rfl rfl rfl rfl rfl rfl rfl rfl
                  clear hM882
                  refine inb_n ?_
                  refine hK737 _ _ ?_
                  refine region_last fun K885 QK885 hK885 => ?_
                  refine s_val hM884 (.inl rfl) rfl rfl (ev_move (.inl rfl) rfl) (fun a887 hM886 => ?_)
                  clear hM884
                  refine s_val hM886 (.inl rfl) rfl rfl (ev_bin rfl rfl rfl g_int (b_add (r := ((jj + 1 + 1 : Nat) : Int)) (by omega) (by omega))) (fun a889 hM888 => ?_)
                  clear hM886
                  refine s_val hM888 (.inl rfl) rfl rfl (ev_move (.inr rfl) rfl) (fun a891 hM890 => ?_)
                  clear hM888
                  refine seg_nil (hK885 _ _ ?_)
                  clear hK885 K885 QK885
                  have hM892 := hM890.cut10 (t1 := 3) (t2 := 4) (t3 := 5) (t4 := 6) (t5 := 8) (t6 := 10) (t7 := 15) (t8 := 16) (t9 := 17) (t10 := 18) rfl rfl rfl rfl rfl rfl rfl rfl rfl rfl
                  clear hM890
                  have hM893 := hM892.cut10 (t1 := 18) (t2 := 3) (t3 := 4) (t4 := 5) (t5 := 6) (t6 := 8) (t7 := 10) (t8 := 15) (t9 := 16) (t10 := 17) rfl rfl rfl rfl rfl rfl rfl rfl rfl rfl
                  clear hM892
                  exact ⟨15 - (jj + 1), by omega, jj + 1, 3, (.slice AS S.length cS), rfl, hM893, HB798, HB799, (by have h := (KCC.out.on HB801.out); rw [HCC.out] at h; exact hide h), (hide (Or.inr (Or.inr (Or.inr ⟨rfl, HOK.out, q2⟩))))⟩
              case neg =>
                have HB895 : Hid (Below w755.heap.size w755 w755) := Below.refl _ _
                refine region_then fun K896 QK896 hK896 => ?_
                refine s_val hM769 (.inl rfl) rfl rfl (ev_move (.inl rfl) rfl) (fun a898 hM897 => ?_)
                clear hM769
                refine s_val hM897 (.inl rfl) rfl rfl (ev_move (.inl rfl) rfl) (fun a900 hM899 => ?_)
                clear hM897
                refine s_alloc (e := 3) hM899 (.inl rfl) rfl rfl (V := fun g => .slice (some ⟨g, 0, none⟩) 1 1) (ev_bsl hM899 rfl rfl (fun w => by kernel_rfl)) (fun g901 a907 w902 hM906 KB905_ hb903 hg904 => ?_)
                have KB905 := hide KB905_
                clear hM899 KB905_
                clear hg904
                have HB908 := hide (below_then HB758.out hb903)
                have HB909 := hide (below_then HB759.out hb903)
                have HB910 := hide (below_then HB762.out hb903)
                have HB911 := hide (below_then HB895.out hb903)
                clear hb903 HB758 HB759 HB762 HB895
                have HB913 : Hid (Below w902.heap.size w902 w902) := Below.refl _ _
                have HLL := hide (Sl.one_ KB905.out)
                refine s_val hM906 (.inl rfl) rfl rfl (ev_loadm rfl rfl (KCC.out.on HB911.out).rng Try.underlying40 rfl (by rw [HCC.out]; exact info_cert)) (fun a915 hM914 => ?_)
                clear hM906
                refine s_val hM914 (.inl rfl) rfl rfl (ev_buildg (v := .agg MM) rfl rfl (fun w => by rw [HCC.out, HMM.out]; kernel_rfl)) (fun a917 hM916 => ?_)
                clear hM914
                refine s_call hM916 (.inl rfl) rfl rfl (f := 23) (args := #[.pointer (some ⟨g, 0, none⟩), .int .i64 4, .slice ((some ⟨g901, 0, none⟩)) 1 1, .agg MM]) (ev_call hM916 rfl rfl rfl (fun w => by simp [go_sem]) _) (real_Check 4 (cmM hdX 1 S) (cmV (⟨none, 0, 0⟩ : SlV) ⟨AS, S.length, cS⟩) _ (hide ((HBK.out.below HB909.out)).bw.bk) (hide (show Sl _ 1 _ 1 (ints [liar]) from (HLL.out.below HB913.out))) (by omega) (hide (cm_s sl_nil rfl (Sl.of_own (HOS.out.below HB910.out)))) (hide (cm_z (by show 0 ≤ 9223372036854775807; omega) (by have := HSL.out; show S.length ≤ 9223372036854775807; omega))) HMM HRR) (fun e w918 hp => ?_)
                obtain ⟨rfl, hb919⟩ := hp
                refine ⟨_, rfl, fun a921 hM920 => ?_⟩
                clear hM916
                have HB922 := hide (below_then HB908.out hb919)
                have HB923 := hide (below_then HB909.out hb919)
                have HB924 := hide (below_then HB910.out hb919)
                have HB925 := hide (below_then HB911.out hb919)
                have HB926 := hide (below_then HB913.out hb919)
                clear hb919 HB908 HB909 HB910 HB911 HB913
                refine s_call hM920 (.inl rfl) rfl rfl (f := 19) (args := #[.int .i64 rr]) (ev_call hM920 rfl rfl rfl (fun w => by simp [go_sem]) _) (law8_num _ _) (fun e w927 hp => ?_)
                obtain ⟨rfl, rfl⟩ := hp
                refine ⟨_, rfl, fun a930 hM929 => ?_⟩
                clear hM920
                refine s_val hM929 (.inl rfl) rfl rfl (ev_bin rfl rfl rfl g_int (b_eql (b := false) (decide_eq_false hr0))) (fun a932 hM931 => ?_)
                clear hM929
                refine seg_nil (hK896 _ _ ?_)
                clear hK896 K896 QK896
                have hM933 := hM931.cut11 (t1 := 3) (t2 := 4) (t3 := 5) (t4 := 6) (t5 := 8) (t6 := 10) (t7 := 15) (t8 := 16) (t9 := 17) (t10 := 18) (t11 := 149) rfl rfl rfl rfl rfl rfl rfl rfl rfl rfl rfl
                clear hM931
                refine wp_cond_false (hM933.ev (t := 149) rfl) ?_
                refine wp_skip ?_
                refine inb_n ?_
                refine hK737 _ _ ?_
                refine region_last fun K934 QK934 hK934 => ?_
                refine s_val hM933 (.inl rfl) rfl rfl (ev_move (.inl rfl) rfl) (fun a936 hM935 => ?_)
                clear hM933
                refine s_val hM935 (.inl rfl) rfl rfl (ev_bin rfl rfl rfl g_int (b_add (r := ((jj + 1 + 1 : Nat) : Int)) (by omega) (by omega))) (fun a938 hM937 => ?_)
                clear hM935
                refine s_val hM937 (.inl rfl) rfl rfl (ev_move (.inr rfl) rfl) (fun a940 hM939 => ?_)
                clear hM937
                refine seg_nil (hK934 _ _ ?_)
                clear hK934 K934 QK934
                have hM941 := hM939.cut10 (t1 := 3) (t2 := 4) (t3 := 5) (t4 := 6) (t5 := 8) (t6 := 10) (t7 := 15) (t8 := 16) (t9 := 17) (t10 := 18) rfl rfl rfl rfl rfl rfl rfl rfl rfl rfl
                clear hM939
                have hM942 := hM941.cut10 (t1 := 18) (t2 := 3) (t3 := 4) (t4 := 5) (t5 := 6) (t6 := 8) (t7 := 10) (t8 := 15) (t9 := 16) (t10 := 17) rfl rfl rfl rfl rfl rfl rfl rfl rfl rfl
                clear hM941
                exact ⟨15 - (jj + 1), by omega, jj + 1, nn, (.slice AS S.length cS), rfl, hM942, HB922, HB923, (by have h := (KCC.out.on HB925.out); rw [HCC.out] at h; exact hide h), HNI⟩
            case pos =>
              refine region_then fun K943 QK943 hK943 => ?_
              refine s_val hM757 (.inl rfl) rfl rfl (ev_move (.inl rfl) rfl) (fun a945 hM944 => ?_)
              clear hM757
              refine s_val hM944 (.inl rfl) rfl rfl (ev_bin rfl rfl rfl g_int (b_leq (b := true) (by rw [decide_eq_true_eq]; omega))) (fun a947 hM946 => ?_)
              clear hM944
              refine seg_nil (hK943 _ _ ?_)
              clear hK943 K943 QK943
              have hM948 := hM946.cut12 (t1 := 3) (t2 := 4) (t3 := 5) (t4 := 6) (t5 := 8) (t6 := 10) (t7 := 15) (t8 := 16) (t9 := 17) (t10 := 18) (t11 := 19) (t12 := 127) rfl rfl rfl rfl rfl rfl rfl rfl rfl rfl rfl rfl
              clear hM946
              refine wp_cond_true (hM948.ev (t := 127) rfl) ?_
              refine wp_skip ?_
              refine hK763 _ _ ?_
              refine wp_seq_k fun K949 hK949 => ?_
              refine wp_block ?_
              obtain ⟨sh, hsh⟩ := ex_shr (P := Try.prog) (ty := 3) ((jj + 1 : Nat) : Int) ii (by omega)
              obtain ⟨an, han⟩ := ex_and (P := Try.prog) (ty := 3) sh 1
              by_cases hb1 : an = 1
              case pos =>
                have HSL2 : Hid ((S ++ [((ii + 1 : Nat) : Int)]).length ≤ ii + 1 ∧ ii + 1 ≤ 4) := ⟨by rw [List.length_append]; exact Nat.succ_le_succ HSL.out.1, by omega⟩
                refine region_then fun K950 QK950 hK950 => ?_
                refine s_val hM948 (.inl rfl) rfl rfl (ev_move (.inl rfl) rfl) (fun a952 hM951 => ?_)
                clear hM948
                refine s_val hM951 (.inl rfl) rfl rfl (ev_move (.inl rfl) rfl) (fun a954 hM953 => ?_)
                clear hM951
                refine s_val hM953 (.inl rfl) rfl rfl (ev_bin rfl rfl rfl g_int (b_sub (r := ((ii : Nat) : Int)) (by omega) (by omega))) (fun a956 hM955 => ?_)
                clear hM953
                refine s_val hM955 (.inl rfl) rfl rfl (ev_bin (v := .int .i64 sh) rfl rfl rfl g_int hsh.out) (fun a958 hM957 => ?_)
                clear hM955
                refine s_val hM957 (.inl rfl) rfl rfl (ev_bin (v := .int .i64 an) rfl rfl rfl g_int han.out) (fun a960 hM959 => ?_)
                clear hM957
                refine s_val hM959 (.inl rfl) rfl rfl (ev_bin rfl rfl rfl g_int (b_eql (b := true) (decide_eq_true hb1))) (fun a962 hM961 => ?_)
                clear hM959
                refine seg_nil (hK950 _ _ ?_)
                clear hK950 K950 QK950
                have hM963 := hM961.cut12 (t1 := 3) (t2 := 4) (t3 := 5) (t4 := 6) (t5 := 8) (t6 := 10) (t7 := 15) (t8 := 16) (t9 := 17) (t10 := 18) (t11 := 19) (t12 := 135) rfl rfl rfl rfl rfl rfl rfl rfl rfl rfl rfl rfl
                clear hM961
                refine wp_cond_true (hM963.ev (t := 135) rfl) ?_
                refine region_last fun K964 QK964 hK964 => ?_
                refine s_val hM963 (.inl rfl) rfl rfl (ev_fldw (m := 5) rfl rfl (fun w => by simp [go_sem])) (fun a966 hM965 => ?_)
                clear hM963
                refine s_val hM965 (.inl rfl) rfl rfl (ev_load1 (v := .slice AS (S.length) cS) rfl rfl ((KC.out.on HB762.out).rng.at_ (m := 5) rfl) (isAgg_no Try.underlying22 rfl)) (fun a968 hM967 => ?_)
                clear hM965
                refine s_val hM967 (.inl rfl) rfl rfl (ev_move (.inl rfl) rfl) (fun a970 hM969 => ?_)
                clear hM967
                refine s_alloc (e := 3) hM969 (.inl rfl) rfl rfl (V := fun g => .slice (some ⟨g, 0, none⟩) 1 1) (ev_bsl hM969 rfl rfl (fun w => by kernel_rfl)) (fun g971 a977 w972 hM976 KB975_ hb973 hg974 => ?_)
                have KB975 := hide KB975_
                clear hM969 KB975_
                clear hg974
                have HB978 := hide (below_then HB758.out hb973)
                have HB979 := hide (below_then HB759.out hb973)
                have HB980 := hide (below_then HB762.out hb973)
                clear hb973 HB758 HB759 HB762
                have HB982 : Hid (Below w972.heap.size w972 w972) := Below.refl _ _
                obtain ⟨i0, hi0, hz0, hz1, hz2⟩ := info_parts Try.infoInt
                have hO := (HOS.out.below HB980.out)
                have hk := (KC.out.on HB980.out)
                refine s_append hM976 (.inl rfl) rfl rfl rfl w620.heap.size 3 i0 (.int .i64 0) 1 8 Try.underlying22 hi0 hz0 hz1 hz2 rfl (by decide) S.length (ints S) rfl hO ⟨g971, 0, none⟩ 1 1 [.int .i64 ((ii + 1 : Nat) : Int)] rfl rfl (news_blk (KB975.out.on HB982.out)) (one_int _ _) (by have := HSL.out; unfold maxLen; omega) (by have := HSL.out; omega) HB979.out.size (fun V2 a984 w985 hM983 ho hgr hat => ?_)
                obtain ⟨AS2, cS2, rfl⟩ := own_slice ho
                have HOT : Hid (OwnR w985 w620.heap.size 3 1 (.slice AS2 (S ++ [((ii + 1 : Nat) : Int)]).length cS2) (S ++ [((ii + 1 : Nat) : Int)]).length (ints (S ++ [((ii + 1 : Nat) : Int)]))) := by
                  have e : ints (S ++ [((ii + 1 : Nat) : Int)]) = ints S ++ [.int .i64 ((ii + 1 : Nat) : Int)] := by simp [ints]
                  rw [e, List.length_append]; exact ho
                have HB986 := hide (below_grown_own HB979.out hO hgr)
                have HB987 := hide (below_then HNM.out HB986.out)
                have KB988 := hide (hk.grown hgr (Ne.symm (own_blk_ne hO hk (by decide))))
                clear hO hk ho hgr hat HOS hM976 HB978 HB979 HB980 HB982 KC
                have HOS := HOT
                clear HOT
                have HB990 : Hid (Below w985.heap.size w985 w985) := Below.refl _ _
                refine s_val hM983 (.inl rfl) rfl rfl (ev_fldw (m := 5) rfl rfl (fun w => by simp [go_sem])) (fun a992 hM991 => ?_)
                clear hM983
                have hO := (HOS.out.below HB990.out)
                have hk := (KB988.out.on HB990.out)
                refine s_put (v := .slice AS2 (S.length + 1) cS2) hM991 rfl rfl rfl rfl rfl hk (by show 5 < 6; omega) (st_slice Try.underlying22 (by kernel_rfl)) (fun w993 kd hg => ?_)
                have KB994 : Hid (Blk w993 g681 40 (crtC (.slice none 0 0) 1 (.slice AS2 (S ++ [((ii + 1 : Nat) : Int)]).length cS2))) := by
                  have h := kd
                  have e : (S ++ [((ii + 1 : Nat) : Int)]).length = S.length + 1 := List.length_append
                  rw [crt_set] at h
                  rw [e]
                  exact h
                have HOT := hide (show OwnR _ _ _ _ _ _ _ from own_keep hO hg (fun b hb => by injection hb with hb; subst hb; exact own_blk_ne hO hk (by decide)))
                have HB995 := hide (HB986.out.grown hg HB986.out.size (fun b hb => by injection hb with hb; subst hb; exact lo689.out))
                have HB996 := hide (below_then HNM.out HB995.out)
                clear hO hk kd hg HOS HB987 HB986 HB990 KB988
                have HOS := HOT
                clear HOT
                have HB998 : Hid (Below w993.heap.size w993 w993) := Below.refl _ _
                refine seg_nil (hK964 _ _ ?_)
                clear hK964 K964 QK964
                have hM999 := hM991.cut11 (t1 := 3) (t2 := 4) (t3 := 5) (t4 := 6) (t5 := 8) (t6 := 10) (t7 := 15) (t8 := 16) (t9 := 17) (t10 := 18) (t11 := 19) rfl rfl rfl rfl rfl rfl rfl rfl rfl rfl rfl
                clear hM991
                refine inb_n ?_
                refine hK949 _ _ ?_
                refine region_last fun K1000 QK1000 hK1000 => ?_
                refine s_val hM999 (.inl rfl) rfl rfl (ev_move (.inl rfl) rfl) (fun a1002 hM1001 => ?_)
                clear hM999
                refine s_val hM1001 (.inl rfl) rfl rfl (ev_bin rfl rfl rfl g_int (b_add (r := ((ii + 1 + 1 : Nat) : Int)) (by omega) (by omega))) (fun a1004 hM1003 => ?_)
                clear hM1001
                refine s_val hM1003 (.inl rfl) rfl rfl (ev_move (.inr rfl) rfl) (fun a1006 hM1005 => ?_)
                clear hM1003
                refine seg_nil (hK1000 _ _ ?_)
                clear hK1000 K1000 QK1000
                have hM1007 := hM1005.cut11 (t1 := 3) (t2 := 4) (t3 := 5) (t4 := 6) (t5 := 8) (t6 := 10) (t7 := 15) (t8 := 16) (t9 := 17) (t10 := 18) (t11 := 19) rfl rfl rfl rfl rfl rfl rfl rfl rfl rfl rfl
                clear hM1005
                have hM1008 := hM1007.cut11 (t1 := 19) (t2 := 3) (t3 := 4) (t4 := 5) (t5 := 6) (t6 := 8) (t7 := 10) (t8 := 15) (t9 := 16) (t10 := 17) (t11 := 18) rfl rfl rfl rfl rfl rfl rfl rfl rfl rfl rfl
                clear hM1007
                exact ⟨4 - (ii + 1), by omega, ii + 1, AS2, cS2, (S ++ [((ii + 1 : Nat) : Int)]), rfl, hM1008, HB996, HB995, (hide (KB994.out.on HB998.out)), (hide (HOS.out.below HB998.out)), HSL2⟩
              case neg =>
                have HSL2 : Hid (S.length ≤ ii + 1 ∧ ii + 1 ≤ 4) := ⟨Nat.le_succ_of_le HSL.out.1, by omega⟩
                refine region_then fun K1009 QK1009 hK1009 => ?_
                refine s_val hM948 (.inl rfl) rfl rfl (ev_move (.inl rfl) rfl) (fun a1011 hM1010 => ?_)
                clear hM948
                refine s_val hM1010 (.inl rfl) rfl rfl (ev_move (.inl rfl) rfl) (fun a1013 hM1012 => ?_)
                clear hM1010
                refine s_val hM1012 (.inl rfl) rfl rfl (ev_bin rfl rfl rfl g_int (b_sub (r := ((ii : Nat) : Int)) (by omega) (by omega))) (fun a1015 hM1014 => ?_)
                clear hM1012
                refine s_val hM1014 (.inl rfl) rfl rfl (ev_bin (v := .int .i64 sh) rfl rfl rfl g_int hsh.out) (fun a1017 hM1016 => ?_)
                clear hM1014
                refine s_val hM1016 (.inl rfl) rfl rfl (ev_bin (v := .int .i64 an) rfl rfl rfl g_int han.out) (fun a1019 hM1018 => ?_)
                clear hM1016
                refine s_val hM1018 (.inl rfl) rfl rfl (ev_bin rfl rfl rfl g_int (b_eql (b := false) (decide_eq_false hb1))) (fun a1021 hM1020 => ?_)
                clear hM1018
                refine seg_nil (hK1009 _ _ ?_)
                clear hK1009 K1009 QK1009
                have hM1022 := hM1020.cut12 (t1 := 3) (t2 := 4) (t3 := 5) (t4 := 6) (t5 := 8) (t6 := 10) (t7 := 15) (t8 := 16) (t9 := 17) (t10 := 18) (t11 := 19) (t12 := 135) rfl rfl rfl rfl rfl rfl rfl rfl rfl rfl rfl rfl
                clear hM1020
                refine wp_cond_false (hM1022.ev (t := 135) rfl) ?_
                refine wp_skip ?_
                refine inb_n ?_
                refine hK949 _ _ ?_
                refine region_last fun K1023 QK1023 hK1023 => ?_
                refine s_val hM1022 (.inl rfl) rfl rfl (ev_move (.inl rfl) rfl) (fun a1025 hM1024 => ?_)
                clear hM1022
                refine s_val hM1024 (.inl rfl) rfl rfl (ev_bin rfl rfl rfl g_int (b_add (r := ((ii + 1 + 1 : Nat) : Int)) (by omega) (by omega))) (fun a1027 hM1026 => ?_)
                clear hM1024
                refine s_val hM1026 (.inl rfl) rfl rfl (ev_move (.inr rfl) rfl) (fun a1029 hM1028 => ?_)
                clear hM1026
                refine seg_nil (hK1023 _ _ ?_)
                clear hK1023 K1023 QK1023
                have hM1030 := hM1028.cut11 (t1 := 3) (t2 := 4) (t3 := 5) (t4 := 6) (t5 := 8) (t6 := 10) (t7 := 15) (t8 := 16) (t9 := 17) (t10 := 18) (t11 := 19) rfl rfl rfl rfl rfl rfl rfl rfl rfl rfl rfl
                clear hM1028
                have hM1031 := hM1030.cut11 (t1 := 19) (t2 := 3) (t3 := 4) (t4 := 5) (t5 := 6) (t6 := 8) (t7 := 10) (t8 := 15) (t9 := 16) (t10 := 17) (t11 := 18) rfl rfl rfl rfl rfl rfl rfl rfl rfl rfl rfl
                clear hM1030
                exact ⟨4 - (ii + 1), by omega, ii + 1, AS, cS, S, rfl, hM1031, HB758, HB759, (hide (KC.out.on HB762.out)), (hide (HOS.out.below HB762.out)), HSL2⟩
        ·
          obtain ⟨CX, HCX⟩ : ∃ C : Array Value, Hid (C = crtC (.slice none 0 0) 1 (.slice none 0 0)) := ⟨_, rfl⟩
          obtain ⟨CY, HCY⟩ : ∃ C : Array Value, Hid (C = crtC (.slice (some ⟨g71, 0, none⟩) 1 1) 2 (.slice none 0 0)) := ⟨_, rfl⟩
          refine region_then fun K1032 QK1032 hK1032 => ?_
          refine s_val hM638 (.inl rfl) rfl rfl (ev_move (.inl rfl) rfl) (fun a1034 hM1033 => ?_)
          clear hM638
          refine s_val hM1033 (.inl rfl) rfl rfl (ev_bin rfl rfl rfl g_int (b_lss (b := true) (by decide))) (fun a1036 hM1035 => ?_)
          clear hM1033
          refine seg_nil (hK1032 _ _ ?_)
          clear hK1032 K1032 QK1032
          have hM1037 := hM1035.cut9 (t1 := 3) (t2 := 4) (t3 := 5) (t4 := 6) (t5 := 8) (t6 := 10) (t7 := 15) (t8 := 16) (t9 := 110) rfl rfl rfl rfl rfl rfl rfl rfl rfl
          clear hM1035
          refine wp_cond_true (hM1037.ev (t := 110) rfl) ?_
          refine wp_skip ?_
          refine hK642 _ _ ?_
          refine wp_seq_k fun K1038 hK1038 => ?_
          refine wp_block ?_
          refine region_then fun K1039 QK1039 hK1039 => ?_
          refine s_val hM1037 (.inl rfl) rfl rfl (ev_loadm rfl rfl (K4.out.on HB640.out).rng Try.underlying38 rfl (by rw [HHX.out]; exact info_hdr)) (fun a1041 hM1040 => ?_)
          clear hM1037
          refine s_val hM1040 (.inl rfl) rfl rfl (ev_move (.inl rfl) rfl) (fun a1043 hM1042 => ?_)
          clear hM1040
          refine s_val hM1042 (.inl rfl) rfl rfl (ev_buildg (v := .agg CX) rfl rfl (fun w => by rw [HHX.out, HCX.out]; kernel_rfl)) (fun a1045 hM1044 => ?_)
          clear hM1042
          refine s_new hM1044 rfl rfl rfl rfl alloc_crt rfl rfl rfl rfl (by rw [HCX.out]; exact info_cert) (by rw [HCX.out]; rfl) (one_crt HCX.out) (fun g1046 a1052 w1047 hM1051 KB1050_ hb1048 hg1049 => ?_)
          have KB1050 := hide KB1050_
          clear hM1044 KB1050_
          have lo1053 := hide (Nat.le_trans HB639.out.size hg1049)
          have lo1054 := hide (Nat.le_trans HB640.out.size hg1049)
          clear hg1049
          have HB1055 := hide (below_then HB639.out hb1048)
          have HB1056 := hide (below_then HB640.out hb1048)
          clear hb1048 HB639 HB640
          have HB1058 : Hid (Below w1047.heap.size w1047 w1047) := Below.refl _ _
          refine seg_nil (hK1039 _ _ ?_)
          clear hK1039 K1039 QK1039
          have hM1059 := hM1051.cut9 (t1 := 3) (t2 := 4) (t3 := 5) (t4 := 6) (t5 := 8) (t6 := 10) (t7 := 15) (t8 := 16) (t9 := 17) rfl rfl rfl rfl rfl rfl rfl rfl rfl
          clear hM1051
          refine wp_seq_k fun K1060 hK1060 => ?_
          refine region_then fun K1061 QK1061 hK1061 => ?_
          refine s_val hM1059 (.inl rfl) rfl rfl (ev_move (.inl rfl) rfl) (fun a1063 hM1062 => ?_)
          clear hM1059
          refine s_val hM1062 (.inl rfl) rfl rfl (ev_bin rfl rfl rfl g_int (b_eql (b := true) (by decide))) (fun a1065 hM1064 => ?_)
          clear hM1062
          refine seg_nil (hK1061 _ _ ?_)
          clear hK1061 K1061 QK1061
          have hM1066 := hM1064.cut10 (t1 := 3) (t2 := 4) (t3 := 5) (t4 := 6) (t5 := 8) (t6 := 10) (t7 := 15) (t8 := 16) (t9 := 17) (t10 := 117) rfl rfl rfl rfl rfl rfl rfl rfl rfl rfl
          clear hM1064
          refine wp_cond_true (hM1066.ev (t := 117) rfl) ?_
          refine region_last fun K1067 QK1067 hK1067 => ?_
          refine s_val hM1066 (.inl rfl) rfl rfl (ev_loadm rfl rfl (K5.out.on HB1056.out).rng Try.underlying38 rfl (by rw [HHYc.out]; exact info_hdr)) (fun a1069 hM1068 => ?_)
          clear hM1066
          refine s_val hM1068 (.inl rfl) rfl rfl (ev_move (.inl rfl) rfl) (fun a1071 hM1070 => ?_)
          clear hM1068
          refine s_val hM1070 (.inl rfl) rfl rfl (ev_buildg (v := .agg CY) rfl rfl (fun w => by rw [HHYc.out, HCY.out]; kernel_rfl)) (fun a1073 hM1072 => ?_)
          clear hM1070
          refine s_putrow hM1072 rfl rfl rfl rfl rfl (KB1050.out.on HB1058.out) (by rw [HCY.out]; exact info_cert) (by rw [HCX.out, HCY.out]; rfl) (one_crt HCY.out) (fun w1074 KB1075_ hg1076 => ?_)
          have KB1075 := hide KB1075_
          clear KB1075_
          have HB1077 := hide (below_of_grown HB1055.out hg1076 HB1055.out.size lo1053.out)
          have HB1078 := hide (below_of_grown HB1056.out hg1076 HB1056.out.size lo1054.out)
          clear HB1055 HB1056 HB1058 hg1076
          have HB1080 : Hid (Below w1074.heap.size w1074 w1074) := Below.refl _ _
          refine seg_nil (hK1067 _ _ ?_)
          clear hK1067 K1067 QK1067
          have hM1081 := hM1072.cut9 (t1 := 3) (t2 := 4) (t3 := 5) (t4 := 6) (t5 := 8) (t6 := 10) (t7 := 15) (t8 := 16) (t9 := 17) rfl rfl rfl rfl rfl rfl rfl rfl rfl
          clear hM1072
          refine hK1060 _ _ ?_
          refine region_then fun K1082 QK1082 hK1082 => ?_
          refine s_val hM1081 (.inl rfl) rfl rfl (ev_move (.inr rfl) rfl) (fun a1084 hM1083 => ?_)
          clear hM1081
          refine seg_nil (hK1082 _ _ ?_)
          clear hK1082 K1082 QK1082
          have hM1085 := hM1083.cut10 (t1 := 3) (t2 := 4) (t3 := 5) (t4 := 6) (t5 := 8) (t6 := 10) (t7 := 15) (t8 := 16) (t9 := 17) (t10 := 18) rfl rfl rfl rfl rfl rfl rfl rfl rfl rfl
          clear hM1083
          have KC : Hid (Blk w1074 g1046 40 (crtC (.slice (some ⟨g71, 0, none⟩) 1 1) 2 (.slice none 0 0))) := by have h := (KB1075.out.on HB1080.out); rw [HCY.out] at h; exact h
          have hM1086 := hM1085.cut10 (t1 := 18) (t2 := 3) (t3 := 4) (t4 := 5) (t5 := 6) (t6 := 8) (t7 := 10) (t8 := 15) (t9 := 16) (t10 := 17) rfl rfl rfl rfl rfl rfl rfl rfl rfl rfl
          clear hM1085
          refine wp_block ?_
          refine wp_loop_ghost (fun m a w' => ∃ (jj : Nat) (nn : Nat) (V : Value), m = 15 - jj ∧ Frm a 159 [(18, .int .i64 ((jj + 1 : Nat) : Int)), (3, .pointer (some ⟨g, 0, none⟩)), (4, .pointer (some ⟨g56, 0, none⟩)), (5, .pointer (some ⟨g88, 0, none⟩)), (6, .int .i64 1), (8, .int .i64 2), (10, .int .i64 liar), (15, .int .i64 (((nn : Nat) : Int))), (16, .int .i64 (((1 : Nat) : Int))), (17, .pointer (some ⟨g1046, 0, none⟩))] ∧ Hid (Below w21.heap.size w21 w') ∧ Hid (Below w620.heap.size w620 w') ∧ Hid (Blk w' g1046 40 (crtC (.slice (some ⟨g71, 0, none⟩) 1 1) 2 V)) ∧ Hid (NI σ liar nn)) 15 ⟨0, nn, (.slice none 0 0),  by omega, hM1086, HB1077, HB1078, KC, HNI⟩ ?_
          clear HB1077 HB1078 HB1080 hM1086 KC HNI
          rintro m1092 a1088 w1087 ⟨jj, nn, V, rfl, hM1089, HB1090, HB1091, KC, HNI⟩
          have HB1094 : Hid (Below w1087.heap.size w1087 w1087) := Below.refl _ _
          refine wp_seq_k fun K1095 hK1095 => ?_
          by_cases hj : jj < 15
          case neg =>
            refine region_then fun K1096 QK1096 hK1096 => ?_
            refine s_val hM1089 (.inl rfl) rfl rfl (ev_move (.inl rfl) rfl) (fun a1098 hM1097 => ?_)
            clear hM1089
            refine s_val hM1097 (.inl rfl) rfl rfl (ev_bin rfl rfl rfl g_int (b_lss (b := false) (by rw [decide_eq_false_iff_not]; omega))) (fun a1100 hM1099 => ?_)
            clear hM1097
            refine seg_nil (hK1096 _ _ ?_)
            clear hK1096 K1096 QK1096
            have hM1101 := hM1099.cut11 (t1 := 3) (t2 := 4) (t3 := 5) (t4 := 6) (t5 := 8) (t6 := 10) (t7 := 15) (t8 := 16) (t9 := 17) (t10 := 18) (t11 := 122) rfl rfl rfl rfl rfl rfl rfl rfl rfl rfl rfl
            clear hM1099
            refine wp_cond_false (hM1101.ev (t := 122) rfl) ?_
            refine wp_exit ?_
            repeat (with_reducible refine th_e ?_)
            refine inb_e ?_
            refine inb_n ?_
            refine hK1038 _ _ ?_
            refine region_last fun K1102 QK1102 hK1102 => ?_
            refine s_val hM1101 (.inl rfl) rfl rfl (ev_move (.inl rfl) rfl) (fun a1104 hM1103 => ?_)
            clear hM1101
            refine s_val hM1103 (.inl rfl) rfl rfl (ev_bin rfl rfl rfl g_int (b_add (r := ((1 + 1 : Nat) : Int)) (by decide) (by decide))) (fun a1106 hM1105 => ?_)
            clear hM1103
            refine s_val hM1105 (.inl rfl) rfl rfl (ev_move (.inr rfl) rfl) (fun a1108 hM1107 => ?_)
            clear hM1105
            refine seg_nil (hK1102 _ _ ?_)
            clear hK1102 K1102 QK1102
            have hM1109 := hM1107.cut8 (t1 := 3) (t2 := 4) (t3 := 5) (t4 := 6) (t5 := 8) (t6 := 10) (t7 := 15) (t8 := 16) rfl rfl rfl rfl rfl rfl rfl rfl
            clear hM1107
            have hM1110 := hM1109.cut8 (t1 := 16) (t2 := 3) (t3 := 4) (t4 := 5) (t5 := 6) (t6 := 8) (t7 := 10) (t8 := 15) rfl rfl rfl rfl rfl rfl rfl rfl
            clear hM1109
            exact ⟨2 - (1 + 1), by omega, 1 + 1, nn, rfl, hM1110, HB1090, HB1091, HNI⟩
          case pos =>
            refine region_then fun K1111 QK1111 hK1111 => ?_
            refine s_val hM1089 (.inl rfl) rfl rfl (ev_move (.inl rfl) rfl) (fun a1113 hM1112 => ?_)
            clear hM1089
            refine s_val hM1112 (.inl rfl) rfl rfl (ev_bin rfl rfl rfl g_int (b_lss (b := true) (by rw [decide_eq_true_eq]; omega))) (fun a1115 hM1114 => ?_)
            clear hM1112
            refine seg_nil (hK1111 _ _ ?_)
            clear hK1111 K1111 QK1111
            have hM1116 := hM1114.cut11 (t1 := 3) (t2 := 4) (t3 := 5) (t4 := 6) (t5 := 8) (t6 := 10) (t7 := 15) (t8 := 16) (t9 := 17) (t10 := 18) (t11 := 122) rfl rfl rfl rfl rfl rfl rfl rfl rfl rfl rfl
            clear hM1114
            refine wp_cond_true (hM1116.ev (t := 122) rfl) ?_
            refine wp_skip ?_
            refine hK1095 _ _ ?_
            refine wp_seq_k fun K1117 hK1117 => ?_
            refine wp_block ?_
            refine region_then fun K1118 QK1118 hK1118 => ?_
            refine s_val hM1116 (.inl rfl) rfl rfl (ev_fldw (m := 5) rfl rfl (fun w => by simp [go_sem])) (fun a1120 hM1119 => ?_)
            clear hM1116
            refine s_put hM1119 rfl rfl rfl rfl rfl (KC.out.on HB1094.out) (by show 5 < 6; omega) (st_slice Try.underlying22 (by kernel_rfl)) (fun w1121 KB1122_ hg1123 => ?_)
            have KB1122 : Hid (Blk w1121 g1046 40 (crtC (.slice (some ⟨g71, 0, none⟩) 1 1) 2 (.slice none 0 0))) := by have h := KB1122_; rw [crt_set] at h; exact h
            clear KB1122_
            have HB1124 := hide (below_of_grown HB1090.out hg1123 HB1090.out.size lo1053.out)
            have HB1125 := hide (below_of_grown HB1091.out hg1123 HB1091.out.size lo1054.out)
            clear HB1090 HB1091 HB1094 hg1123
            have HB1127 : Hid (Below w1121.heap.size w1121 w1121) := Below.refl _ _
            refine seg_nil (hK1118 _ _ ?_)
            clear hK1118 K1118 QK1118
            have hM1128 := hM1119.cut10 (t1 := 3) (t2 := 4) (t3 := 5) (t4 := 6) (t5 := 8) (t6 := 10) (t7 := 15) (t8 := 16) (t9 := 17) (t10 := 18) rfl rfl rfl rfl rfl rfl rfl rfl rfl rfl
            clear hM1119
            refine wp_seq_k fun K1129 hK1129 => ?_
            refine region_then fun K1130 QK1130 hK1130 => ?_
            refine s_val hM1128 (.inl rfl) rfl rfl (ev_move (.inr rfl) rfl) (fun a1132 hM1131 => ?_)
            clear hM1128
            refine seg_nil (hK1130 _ _ ?_)
            clear hK1130 K1130 QK1130
            have hM1133 := hM1131.cut11 (t1 := 3) (t2 := 4) (t3 := 5) (t4 := 6) (t5 := 8) (t6 := 10) (t7 := 15) (t8 := 16) (t9 := 17) (t10 := 18) (t11 := 19) rfl rfl rfl rfl rfl rfl rfl rfl rfl rfl rfl
            clear hM1131
            have HOS : Hid (OwnR w1121 w620.heap.size 3 1 (.slice none 0 0) 0 (ints [])) := World.ownsRow_nil _ _ _ _
            have HSL : Hid (([] : List Int).length ≤ 0 ∧ 0 ≤ 4) := ⟨Nat.le_refl _, by omega⟩
            have KC := hide (KB1122.out.on HB1127.out)
            have hM1134 := hM1133.cut11 (t1 := 19) (t2 := 3) (t3 := 4) (t4 := 5) (t5 := 6) (t6 := 8) (t7 := 10) (t8 := 15) (t9 := 16) (t10 := 17) (t11 := 18) rfl rfl rfl rfl rfl rfl rfl rfl rfl rfl rfl
            clear hM1133
            refine wp_block ?_
            refine wp_loop_ghost (fun m a w' => ∃ (ii : Nat) (AS : Option Addr) (cS : Nat) (S : List Int), m = 4 - ii ∧ Frm a 159 [(19, .int .i64 ((ii + 1 : Nat) : Int)), (3, .pointer (some ⟨g, 0, none⟩)), (4, .pointer (some ⟨g56, 0, none⟩)), (5, .pointer (some ⟨g88, 0, none⟩)), (6, .int .i64 1), (8, .int .i64 2), (10, .int .i64 liar), (15, .int .i64 (((nn : Nat) : Int))), (16, .int .i64 (((1 : Nat) : Int))), (17, .pointer (some ⟨g1046, 0, none⟩)), (18, .int .i64 (((jj + 1 : Nat) : Int)))] ∧ Hid (Below w21.heap.size w21 w') ∧ Hid (Below w620.heap.size w620 w') ∧ Hid (Blk w' g1046 40 (crtC (.slice (some ⟨g71, 0, none⟩) 1 1) 2 (.slice AS S.length cS))) ∧ Hid (OwnR w' w620.heap.size 3 1 (.slice AS S.length cS) S.length (ints S)) ∧ Hid (S.length ≤ ii ∧ ii ≤ 4)) 4 ⟨0, none, 0, [],  by omega, hM1134, HB1124, HB1125, KC, HOS, HSL⟩ ?_
            clear HB1124 HB1125 HB1127 hM1134 KC HOS HSL
            rintro m1140 a1136 w1135 ⟨ii, AS, cS, S, rfl, hM1137, HB1138, HB1139, KC, HOS, HSL⟩
            have HB1142 : Hid (Below w1135.heap.size w1135 w1135) := Below.refl _ _
            refine wp_seq_k fun K1143 hK1143 => ?_
            by_cases hi : ii < 4
            case neg =>
              refine region_then fun K1144 QK1144 hK1144 => ?_
              refine s_val hM1137 (.inl rfl) rfl rfl (ev_move (.inl rfl) rfl) (fun a1146 hM1145 => ?_)
              clear hM1137
              refine s_val hM1145 (.inl rfl) rfl rfl (ev_bin rfl rfl rfl g_int (b_leq (b := false) (by rw [decide_eq_false_iff_not]; omega))) (fun a1148 hM1147 => ?_)
              clear hM1145
              refine seg_nil (hK1144 _ _ ?_)
              clear hK1144 K1144 QK1144
              have hM1149 := hM1147.cut12 (t1 := 3) (t2 := 4) (t3 := 5) (t4 := 6) (t5 := 8) (t6 := 10) (t7 := 15) (t8 := 16) (t9 := 17) (t10 := 18) (t11 := 19) (t12 := 127) rfl rfl rfl rfl rfl rfl rfl rfl rfl rfl rfl rfl
              clear hM1147
              refine wp_cond_false (hM1149.ev (t := 127) rfl) ?_
              refine wp_exit ?_
              repeat (with_reducible refine th_e ?_)
              refine inb_e ?_
              refine hK1129 _ _ ?_
              obtain ⟨CC, HCC⟩ : ∃ C : Array Value, Hid (C = (crtC (.slice (some ⟨g71, 0, none⟩) 1 1) 2 (.slice AS S.length cS))) := ⟨_, rfl⟩
              obtain ⟨MM, HMM⟩ : ∃ C : Array Value, Hid (C = msC (cmM hdY 2 S) (cmV (⟨some ⟨g71, 0, none⟩, 1, 1⟩ : SlV) ⟨AS, S.length, cS⟩)) := ⟨_, rfl⟩
              have KCC : Hid (Blk w1135 g1046 40 CC) := by rw [HCC.out]; exact (KC.out.on HB1142.out)
              obtain ⟨rr, HRR⟩ : ∃ r, Hid (chkE hdL (sgA σ) [liar] 4 (cmM hdY 2 S) = r) := ⟨_, rfl⟩
              by_cases hr0 : rr = 0
              case pos =>
                have HB1151 : Hid (Below w1135.heap.size w1135 w1135) := Below.refl _ _
                have HOK := hide (ok_of (HRR.out.trans hr0))
                refine region_then fun K1152 QK1152 hK1152 => ?_
                refine s_val hM1149 (.inl rfl) rfl rfl (ev_move (.inl rfl) rfl) (fun a1154 hM1153 => ?_)
                clear hM1149
                refine s_val hM1153 (.inl rfl) rfl rfl (ev_move (.inl rfl) rfl) (fun a1156 hM1155 => ?_)
                clear hM1153
                refine s_alloc (e := 3) hM1155 (.inl rfl) rfl rfl (V := fun g => .slice (some ⟨g, 0, none⟩) 1 1) (ev_bsl hM1155 rfl rfl (fun w => by kernel_rfl)) (fun g1157 a1163 w1158 hM1162 KB1161_ hb1159 hg1160 => ?_)
                have KB1161 := hide KB1161_
                clear hM1155 KB1161_
                clear hg1160
                have HB1164 := hide (below_then HB1138.out hb1159)
                have HB1165 := hide (below_then HB1139.out hb1159)
                have HB1166 := hide (below_then HB1142.out hb1159)
                have HB1167 := hide (below_then HB1151.out hb1159)
                clear hb1159 HB1138 HB1139 HB1142 HB1151
                have HB1169 : Hid (Below w1158.heap.size w1158 w1158) := Below.refl _ _
                have HLL := hide (Sl.one_ KB1161.out)
                refine s_val hM1162 (.inl rfl) rfl rfl (ev_loadm rfl rfl (KCC.out.on HB1167.out).rng Try.underlying40 rfl (by rw [HCC.out]; exact info_cert)) (fun a1171 hM1170 => ?_)
                clear hM1162
                refine s_val hM1170 (.inl rfl) rfl rfl (ev_buildg (v := .agg MM) rfl rfl (fun w => by rw [HCC.out, HMM.out]; kernel_rfl)) (fun a1173 hM1172 => ?_)
                clear hM1170
                refine s_call hM1172 (.inl rfl) rfl rfl (f := 23) (args := #[.pointer (some ⟨g, 0, none⟩), .int .i64 4, .slice ((some ⟨g1157, 0, none⟩)) 1 1, .agg MM]) (ev_call hM1172 rfl rfl rfl (fun w => by simp [go_sem]) _) (real_Check 4 (cmM hdY 2 S) (cmV (⟨some ⟨g71, 0, none⟩, 1, 1⟩ : SlV) ⟨AS, S.length, cS⟩) _ (hide ((HBK.out.below HB1165.out)).bw.bk) (hide (show Sl _ 1 _ 1 (ints [liar]) from (HLL.out.below HB1169.out))) (by omega) (hide (cm_s (Sl.one_ (Kb.out.on HB1165.out)) rfl (Sl.of_own (HOS.out.below HB1166.out)))) (hide (cm_z (by show 1 ≤ 9223372036854775807; omega) (by have := HSL.out; show S.length ≤ 9223372036854775807; omega))) HMM HRR) (fun e w1174 hp => ?_)
                obtain ⟨rfl, hb1175⟩ := hp
                refine ⟨_, rfl, fun a1177 hM1176 => ?_⟩
                clear hM1172
                have HB1178 := hide (below_then HB1164.out hb1175)
                have HB1179 := hide (below_then HB1165.out hb1175)
                have HB1180 := hide (below_then HB1166.out hb1175)
                have HB1181 := hide (below_then HB1167.out hb1175)
                have HB1182 := hide (below_then HB1169.out hb1175)
                clear hb1175 HB1164 HB1165 HB1166 HB1167 HB1169
                refine s_call hM1176 (.inl rfl) rfl rfl (f := 19) (args := #[.int .i64 rr]) (ev_call hM1176 rfl rfl rfl (fun w => by simp [go_sem]) _) (law8_num _ _) (fun e w1183 hp => ?_)
                obtain ⟨rfl, rfl⟩ := hp
                refine ⟨_, rfl, fun a1186 hM1185 => ?_⟩
                clear hM1176
                refine s_val hM1185 (.inl rfl) rfl rfl (ev_bin rfl rfl rfl g_int (b_eql (b := true) (decide_eq_true hr0))) (fun a1188 hM1187 => ?_)
                clear hM1185
                refine seg_nil (hK1152 _ _ ?_)
                clear hK1152 K1152 QK1152
                have hM1189 := hM1187.cut11 (t1 := 3) (t2 := 4) (t3 := 5) (t4 := 6) (t5 := 8) (t6 := 10) (t7 := 15) (t8 := 16) (t9 := 17) (t10 := 18) (t11 := 149) rfl rfl rfl rfl rfl rfl rfl rfl rfl rfl rfl
                clear hM1187
                refine wp_cond_true (hM1189.ev (t := 149) rfl) ?_
                obtain hn | ⟨hn, q1⟩ | ⟨hn, q2⟩ | ⟨hn, q1, q2⟩ := HNI.out
                ·
                  subst hn
                  refine region_last fun K1190 QK1190 hK1190 => ?_
                  refine s_val hM1189 (.inl rfl) rfl rfl (ev_move (.inl rfl) rfl) (fun a1192 hM1191 => ?_)
                  clear hM1189
                  refine s_val hM1191 (.inl rfl) rfl rfl (ev_move (.inl rfl) rfl) (fun a1194 hM1193 => ?_)
                  clear hM1191
                  refine s_val hM1193 (.inl rfl) rfl rfl (ev_bin (v := .int .i64 2) rfl rfl rfl g_int (fun w => by kernel_rfl)) (fun a1196 hM1195 => ?_)
                  clear hM1193
                  refine s_val hM1195 (.inl rfl) rfl rfl (ev_bin (v := .int .i64 2) rfl rfl rfl g_int (fun w => by kernel_rfl)) (fun a1198 hM1197 => ?_)
                  clear hM1195
                  refine s_val hM1197 (.inl rfl) rfl rfl (ev_move (.inr rfl) rfl) (fun a1200 hM1199 => ?_)
                  clear hM1197
                  refine seg_nil (hK1190 _ _ ?_)
                  clear hK1190 K1190 QK1190
                  have hM1201 := hM1199.cut10 (t1 := 3) (t2 := 4) (t3 := 5) (t4 := 6) (t5 := 8) (t6 := 10) (t7 := 15) (t8 := 16) (t9 := 17) (t10 := 18) rfl rfl rfl rfl rfl rfl rfl rfl rfl rfl
                  clear hM1199
                  refine inb_n ?_
                  refine hK1117 _ _ ?_
                  refine region_last fun K1202 QK1202 hK1202 => ?_
                  refine s_val hM1201 (.inl rfl) rfl rfl (ev_move (.inl rfl) rfl) (fun a1204 hM1203 => ?_)
                  clear hM1201
                  refine s_val hM1203 (.inl rfl) rfl rfl (ev_bin rfl rfl rfl g_int (b_add (r := ((jj + 1 + 1 : Nat) : Int)) (by omega) (by omega))) (fun a1206 hM1205 => ?_)
                  clear hM1203
                  refine s_val hM1205 (.inl rfl) rfl rfl (ev_move (.inr rfl) rfl) (fun a1208 hM1207 => ?_)
                  clear hM1205
                  refine seg_nil (hK1202 _ _ ?_)
                  clear hK1202 K1202 QK1202
                  have hM1209 := hM1207.cut10 (t1 := 3) (t2 := 4) (t3 := 5) (t4 := 6) (t5 := 8) (t6 := 10) (t7 := 15) (t8 := 16) (t9 := 17) (t10 := 18) rfl rfl rfl rfl rfl rfl rfl rfl rfl rfl
                  clear hM1207
                  have hM1210 := hM1209.cut10 (t1 := 18) (t2 := 3) (t3 := 4) (t4 := 5) (t5 := 6) (t6 := 8) (t7 := 10) (t8 := 15) (t9 := 16) (t10 := 17) rfl rfl rfl rfl rfl rfl rfl rfl rfl rfl
                  clear hM1209
                  exact ⟨15 - (jj + 1), by omega, jj + 1, 2, (.slice AS S.length cS), rfl, hM1210, HB1178, HB1179, (by have h := (KCC.out.on HB1181.out); rw [HCC.out] at h; exact hide h), (hide (Or.inr (Or.inr (Or.inl ⟨rfl, HOK.out⟩))))⟩
                ·
                  subst hn
                  refine region_last fun K1211 QK1211 hK1211 => ?_
                  refine s_val hM1189 (.inl rfl) rfl rfl (ev_move (.inl rfl) rfl) (fun a1213 hM1212 => ?_)
                  clear hM1189
                  refine s_val hM1212 (.inl rfl) rfl rfl (ev_move (.inl rfl) rfl) (fun a1215 hM1214 => ?_)
                  clear hM1212
                  refine s_val hM1214 (.inl rfl) rfl rfl (ev_bin (v := .int .i64 2) rfl rfl rfl g_int (fun w => by kernel_rfl)) (fun a1217 hM1216 => ?_)
                  clear hM1214
                  refine s_val hM1216 (.inl rfl) rfl rfl (ev_bin (v := .int .i64 3) rfl rfl rfl g_int (fun w => by kernel_rfl)) (fun a1219 hM1218 => ?_)
                  clear hM1216
                  refine s_val hM1218 (.inl rfl) rfl rfl (ev_move (.inr rfl) rfl) (fun a1221 hM1220 => ?_)
                  clear hM1218
                  refine seg_nil (hK1211 _ _ ?_)
                  clear hK1211 K1211 QK1211
                  have hM1222 := hM1220.cut10 (t1 := 3) (t2 := 4) (t3 := 5) (t4 := 6) (t5 := 8) (t6 := 10) (t7 := 15) (t8 := 16) (t9 := 17) (t10 := 18) rfl rfl rfl rfl rfl rfl rfl rfl rfl rfl
                  clear hM1220
                  refine inb_n ?_
                  refine hK1117 _ _ ?_
                  refine region_last fun K1223 QK1223 hK1223 => ?_
                  refine s_val hM1222 (.inl rfl) rfl rfl (ev_move (.inl rfl) rfl) (fun a1225 hM1224 => ?_)
                  clear hM1222
                  refine s_val hM1224 (.inl rfl) rfl rfl (ev_bin rfl rfl rfl g_int (b_add (r := ((jj + 1 + 1 : Nat) : Int)) (by omega) (by omega))) (fun a1227 hM1226 => ?_)
                  clear hM1224
                  refine s_val hM1226 (.inl rfl) rfl rfl (ev_move (.inr rfl) rfl) (fun a1229 hM1228 => ?_)
                  clear hM1226
                  refine seg_nil (hK1223 _ _ ?_)
                  clear hK1223 K1223 QK1223
                  have hM1230 := hM1228.cut10 (t1 := 3) (t2 := 4) (t3 := 5) (t4 := 6) (t5 := 8) (t6 := 10) (t7 := 15) (t8 := 16) (t9 := 17) (t10 := 18) rfl rfl rfl rfl rfl rfl rfl rfl rfl rfl
                  clear hM1228
                  have hM1231 := hM1230.cut10 (t1 := 18) (t2 := 3) (t3 := 4) (t4 := 5) (t5 := 6) (t6 := 8) (t7 := 10) (t8 := 15) (t9 := 16) (t10 := 17) rfl rfl rfl rfl rfl rfl rfl rfl rfl rfl
                  clear hM1230
                  exact ⟨15 - (jj + 1), by omega, jj + 1, 3, (.slice AS S.length cS), rfl, hM1231, HB1178, HB1179, (by have h := (KCC.out.on HB1181.out); rw [HCC.out] at h; exact hide h), (hide (Or.inr (Or.inr (Or.inr ⟨rfl, q1, HOK.out⟩))))⟩
                ·
                  subst hn
                  refine region_last fun K1232 QK1232 hK1232 => ?_
                  refine s_val hM1189 (.inl rfl) rfl rfl (ev_move (.inl rfl) rfl) (fun a1234 hM1233 => ?_)
                  clear hM1189
                  refine s_val hM1233 (.inl rfl) rfl rfl (ev_move (.inl rfl) rfl) (fun a1236 hM1235 => ?_)
                  clear hM1233
                  refine s_val hM1235 (.inl rfl) rfl rfl (ev_bin (v := .int .i64 2) rfl rfl rfl g_int (fun w => by kernel_rfl)) (fun a1238 hM1237 => ?_)
                  clear hM1235
                  refine s_val hM1237 (.inl rfl) rfl rfl (ev_bin (v := .int .i64 2) rfl rfl rfl g_int (fun w => by kernel_rfl)) (fun a1240 hM1239 => ?_)
                  clear hM1237
                  refine s_val hM1239 (.inl rfl) rfl rfl (ev_move (.inr rfl) rfl) (fun a1242 hM1241 => ?_)
                  clear hM1239
                  refine seg_nil (hK1232 _ _ ?_)
                  clear hK1232 K1232 QK1232
                  have hM1243 := hM1241.cut10 (t1 := 3) (t2 := 4) (t3 := 5) (t4 := 6) (t5 := 8) (t6 := 10) (t7 := 15) (t8 := 16) (t9 := 17) (t10 := 18) rfl rfl rfl rfl rfl rfl rfl rfl rfl rfl
                  clear hM1241
                  refine inb_n ?_
                  refine hK1117 _ _ ?_
                  refine region_last fun K1244 QK1244 hK1244 => ?_
                  refine s_val hM1243 (.inl rfl) rfl rfl (ev_move (.inl rfl) rfl) (fun a1246 hM1245 => ?_)
                  clear hM1243
                  refine s_val hM1245 (.inl rfl) rfl rfl (ev_bin rfl rfl rfl g_int (b_add (r := ((jj + 1 + 1 : Nat) : Int)) (by omega) (by omega))) (fun a1248 hM1247 => ?_)
                  clear hM1245
                  refine s_val hM1247 (.inl rfl) rfl rfl (ev_move (.inr rfl) rfl) (fun a1250 hM1249 => ?_)
                  clear hM1247
                  refine seg_nil (hK1244 _ _ ?_)
                  clear hK1244 K1244 QK1244
                  have hM1251 := hM1249.cut10 (t1 := 3) (t2 := 4) (t3 := 5) (t4 := 6) (t5 := 8) (t6 := 10) (t7 := 15) (t8 := 16) (t9 := 17) (t10 := 18) rfl rfl rfl rfl rfl rfl rfl rfl rfl rfl
                  clear hM1249
                  have hM1252 := hM1251.cut10 (t1 := 18) (t2 := 3) (t3 := 4) (t4 := 5) (t5 := 6) (t6 := 8) (t7 := 10) (t8 := 15) (t9 := 16) (t10 := 17) rfl rfl rfl rfl rfl rfl rfl rfl rfl rfl
                  clear hM1251
                  exact ⟨15 - (jj + 1), by omega, jj + 1, 2, (.slice AS S.length cS), rfl, hM1252, HB1178, HB1179, (by have h := (KCC.out.on HB1181.out); rw [HCC.out] at h; exact hide h), (hide (Or.inr (Or.inr (Or.inl ⟨rfl, HOK.out⟩))))⟩
                ·
                  subst hn
                  refine region_last fun K1253 QK1253 hK1253 => ?_
                  refine s_val hM1189 (.inl rfl) rfl rfl (ev_move (.inl rfl) rfl) (fun a1255 hM1254 => ?_)
                  clear hM1189
                  refine s_val hM1254 (.inl rfl) rfl rfl (ev_move (.inl rfl) rfl) (fun a1257 hM1256 => ?_)
                  clear hM1254
                  refine s_val hM1256 (.inl rfl) rfl rfl (ev_bin (v := .int .i64 2) rfl rfl rfl g_int (fun w => by kernel_rfl)) (fun a1259 hM1258 => ?_)
                  clear hM1256
                  refine s_val hM1258 (.inl rfl) rfl rfl (ev_bin (v := .int .i64 3) rfl rfl rfl g_int (fun w => by kernel_rfl)) (fun a1261 hM1260 => ?_)
                  clear hM1258
                  refine s_val hM1260 (.inl rfl) rfl rfl (ev_move (.inr rfl) rfl) (fun a1263 hM1262 => ?_)
                  clear hM1260
                  refine seg_nil (hK1253 _ _ ?_)
                  clear hK1253 K1253 QK1253
                  have hM1264 := hM1262.cut10 (t1 := 3) (t2 := 4) (t3 := 5) (t4 := 6) (t5 := 8) (t6 := 10) (t7 := 15) (t8 := 16) (t9 := 17) (t10 := 18) rfl rfl rfl rfl rfl rfl rfl rfl rfl rfl
                  clear hM1262
                  refine inb_n ?_
                  refine hK1117 _ _ ?_
                  refine region_last fun K1265 QK1265 hK1265 => ?_
                  refine s_val hM1264 (.inl rfl) rfl rfl (ev_move (.inl rfl) rfl) (fun a1267 hM1266 => ?_)
                  clear hM1264
                  refine s_val hM1266 (.inl rfl) rfl rfl (ev_bin rfl rfl rfl g_int (b_add (r := ((jj + 1 + 1 : Nat) : Int)) (by omega) (by omega))) (fun a1269 hM1268 => ?_)
                  clear hM1266
                  refine s_val hM1268 (.inl rfl) rfl rfl (ev_move (.inr rfl) rfl) (fun a1271 hM1270 => ?_)
                  clear hM1268
                  refine seg_nil (hK1265 _ _ ?_)
                  clear hK1265 K1265 QK1265
                  have hM1272 := hM1270.cut10 (t1 := 3) (t2 := 4) (t3 := 5) (t4 := 6) (t5 := 8) (t6 := 10) (t7 := 15) (t8 := 16) (t9 := 17) (t10 := 18) rfl rfl rfl rfl rfl rfl rfl rfl rfl rfl
                  clear hM1270
                  have hM1273 := hM1272.cut10 (t1 := 18) (t2 := 3) (t3 := 4) (t4 := 5) (t5 := 6) (t6 := 8) (t7 := 10) (t8 := 15) (t9 := 16) (t10 := 17) rfl rfl rfl rfl rfl rfl rfl rfl rfl rfl
                  clear hM1272
                  exact ⟨15 - (jj + 1), by omega, jj + 1, 3, (.slice AS S.length cS), rfl, hM1273, HB1178, HB1179, (by have h := (KCC.out.on HB1181.out); rw [HCC.out] at h; exact hide h), (hide (Or.inr (Or.inr (Or.inr ⟨rfl, q1, HOK.out⟩))))⟩
              case neg =>
                have HB1275 : Hid (Below w1135.heap.size w1135 w1135) := Below.refl _ _
                refine region_then fun K1276 QK1276 hK1276 => ?_
                refine s_val hM1149 (.inl rfl) rfl rfl (ev_move (.inl rfl) rfl) (fun a1278 hM1277 => ?_)
                clear hM1149
                refine s_val hM1277 (.inl rfl) rfl rfl (ev_move (.inl rfl) rfl) (fun a1280 hM1279 => ?_)
                clear hM1277
                refine s_alloc (e := 3) hM1279 (.inl rfl) rfl rfl (V := fun g => .slice (some ⟨g, 0, none⟩) 1 1) (ev_bsl hM1279 rfl rfl (fun w => by kernel_rfl)) (fun g1281 a1287 w1282 hM1286 KB1285_ hb1283 hg1284 => ?_)
                have KB1285 := hide KB1285_
                clear hM1279 KB1285_
                clear hg1284
                have HB1288 := hide (below_then HB1138.out hb1283)
                have HB1289 := hide (below_then HB1139.out hb1283)
                have HB1290 := hide (below_then HB1142.out hb1283)
                have HB1291 := hide (below_then HB1275.out hb1283)
                clear hb1283 HB1138 HB1139 HB1142 HB1275
                have HB1293 : Hid (Below w1282.heap.size w1282 w1282) := Below.refl _ _
                have HLL := hide (Sl.one_ KB1285.out)
                refine s_val hM1286 (.inl rfl) rfl rfl (ev_loadm rfl rfl (KCC.out.on HB1291.out).rng Try.underlying40 rfl (by rw [HCC.out]; exact info_cert)) (fun a1295 hM1294 => ?_)
                clear hM1286
                refine s_val hM1294 (.inl rfl) rfl rfl (ev_buildg (v := .agg MM) rfl rfl (fun w => by rw [HCC.out, HMM.out]; kernel_rfl)) (fun a1297 hM1296 => ?_)
                clear hM1294
                refine s_call hM1296 (.inl rfl) rfl rfl (f := 23) (args := #[.pointer (some ⟨g, 0, none⟩), .int .i64 4, .slice ((some ⟨g1281, 0, none⟩)) 1 1, .agg MM]) (ev_call hM1296 rfl rfl rfl (fun w => by simp [go_sem]) _) (real_Check 4 (cmM hdY 2 S) (cmV (⟨some ⟨g71, 0, none⟩, 1, 1⟩ : SlV) ⟨AS, S.length, cS⟩) _ (hide ((HBK.out.below HB1289.out)).bw.bk) (hide (show Sl _ 1 _ 1 (ints [liar]) from (HLL.out.below HB1293.out))) (by omega) (hide (cm_s (Sl.one_ (Kb.out.on HB1289.out)) rfl (Sl.of_own (HOS.out.below HB1290.out)))) (hide (cm_z (by show 1 ≤ 9223372036854775807; omega) (by have := HSL.out; show S.length ≤ 9223372036854775807; omega))) HMM HRR) (fun e w1298 hp => ?_)
                obtain ⟨rfl, hb1299⟩ := hp
                refine ⟨_, rfl, fun a1301 hM1300 => ?_⟩
                clear hM1296
                have HB1302 := hide (below_then HB1288.out hb1299)
                have HB1303 := hide (below_then HB1289.out hb1299)
                have HB1304 := hide (below_then HB1290.out hb1299)
                have HB1305 := hide (below_then HB1291.out hb1299)
                have HB1306 := hide (below_then HB1293.out hb1299)
                clear hb1299 HB1288 HB1289 HB1290 HB1291 HB1293
                refine s_call hM1300 (.inl rfl) rfl rfl (f := 19) (args := #[.int .i64 rr]) (ev_call hM1300 rfl rfl rfl (fun w => by simp [go_sem]) _) (law8_num _ _) (fun e w1307 hp => ?_)
                obtain ⟨rfl, rfl⟩ := hp
                refine ⟨_, rfl, fun a1310 hM1309 => ?_⟩
                clear hM1300
                refine s_val hM1309 (.inl rfl) rfl rfl (ev_bin rfl rfl rfl g_int (b_eql (b := false) (decide_eq_false hr0))) (fun a1312 hM1311 => ?_)
                clear hM1309
                refine seg_nil (hK1276 _ _ ?_)
                clear hK1276 K1276 QK1276
                have hM1313 := hM1311.cut11 (t1 := 3) (t2 := 4) (t3 := 5) (t4 := 6) (t5 := 8) (t6 := 10) (t7 := 15) (t8 := 16) (t9 := 17) (t10 := 18) (t11 := 149) rfl rfl rfl rfl rfl rfl rfl rfl rfl rfl rfl
                clear hM1311
                refine wp_cond_false (hM1313.ev (t := 149) rfl) ?_
                refine wp_skip ?_
                refine inb_n ?_
                refine hK1117 _ _ ?_
                refine region_last fun K1314 QK1314 hK1314 => ?_
                refine s_val hM1313 (.inl rfl) rfl rfl (ev_move (.inl rfl) rfl) (fun a1316 hM1315 => ?_)
                clear hM1313
                refine s_val hM1315 (.inl rfl) rfl rfl (ev_bin rfl rfl rfl g_int (b_add (r := ((jj + 1 + 1 : Nat) : Int)) (by omega) (by omega))) (fun a1318 hM1317 => ?_)
                clear hM1315
                refine s_val hM1317 (.inl rfl) rfl rfl (ev_move (.inr rfl) rfl) (fun a1320 hM1319 => ?_)
                clear hM1317
                refine seg_nil (hK1314 _ _ ?_)
                clear hK1314 K1314 QK1314
                have hM1321 := hM1319.cut10 (t1 := 3) (t2 := 4) (t3 := 5) (t4 := 6) (t5 := 8) (t6 := 10) (t7 := 15) (t8 := 16) (t9 := 17) (t10 := 18) rfl rfl rfl rfl rfl rfl rfl rfl rfl rfl
                clear hM1319
                have hM1322 := hM1321.cut10 (t1 := 18) (t2 := 3) (t3 := 4) (t4 := 5) (t5 := 6) (t6 := 8) (t7 := 10) (t8 := 15) (t9 := 16) (t10 := 17) rfl rfl rfl rfl rfl rfl rfl rfl rfl rfl
                clear hM1321
                exact ⟨15 - (jj + 1), by omega, jj + 1, nn, (.slice AS S.length cS), rfl, hM1322, HB1302, HB1303, (by have h := (KCC.out.on HB1305.out); rw [HCC.out] at h; exact hide h), HNI⟩
            case pos =>
              refine region_then fun K1323 QK1323 hK1323 => ?_
              refine s_val hM1137 (.inl rfl) rfl rfl (ev_move (.inl rfl) rfl) (fun a1325 hM1324 => ?_)
              clear hM1137
              refine s_val hM1324 (.inl rfl) rfl rfl (ev_bin rfl rfl rfl g_int (b_leq (b := true) (by rw [decide_eq_true_eq]; omega))) (fun a1327 hM1326 => ?_)
              clear hM1324
              refine seg_nil (hK1323 _ _ ?_)
              clear hK1323 K1323 QK1323
              have hM1328 := hM1326.cut12 (t1 := 3) (t2 := 4) (t3 := 5) (t4 := 6) (t5 := 8) (t6 := 10) (t7 := 15) (t8 := 16) (t9 := 17) (t10 := 18) (t11 := 19) (t12 := 127) rfl rfl rfl rfl rfl rfl rfl rfl rfl rfl rfl rfl
              clear hM1326
              refine wp_cond_true (hM1328.ev (t := 127) rfl) ?_
              refine wp_skip ?_
              refine hK1143 _ _ ?_
              refine wp_seq_k fun K1329 hK1329 => ?_
              refine wp_block ?_
              obtain ⟨sh, hsh⟩ := ex_shr (P := Try.prog) (ty := 3) ((jj + 1 : Nat) : Int) ii (by omega)
              obtain ⟨an, han⟩ := ex_and (P := Try.prog) (ty := 3) sh 1
              by_cases hb1 : an = 1
              case pos =>
                have HSL2 : Hid ((S ++ [((ii + 1 : Nat) : Int)]).length ≤ ii + 1 ∧ ii + 1 ≤ 4) := ⟨by rw [List.length_append]; exact Nat.succ_le_succ HSL.out.1, by omega⟩
                refine region_then fun K1330 QK1330 hK1330 => ?_
                refine s_val hM1328 (.inl rfl) rfl rfl (ev_move (.inl rfl) rfl) (fun a1332 hM1331 => ?_)
                clear hM1328
                refine s_val hM1331 (.inl rfl) rfl rfl (ev_move (.inl rfl) rfl) (fun a1334 hM1333 => ?_)
                clear hM1331
                refine s_val hM1333 (.inl rfl) rfl rfl (ev_bin rfl rfl rfl g_int (b_sub (r := ((ii : Nat) : Int)) (by omega) (by omega))) (fun a1336 hM1335 => ?_)
                clear hM1333
                refine s_val hM1335 (.inl rfl) rfl rfl (ev_bin (v := .int .i64 sh) rfl rfl rfl g_int hsh.out) (fun a1338 hM1337 => ?_)
                clear hM1335
                refine s_val hM1337 (.inl rfl) rfl rfl (ev_bin (v := .int .i64 an) rfl rfl rfl g_int han.out) (fun a1340 hM1339 => ?_)
                clear hM1337
                refine s_val hM1339 (.inl rfl) rfl rfl (ev_bin rfl rfl rfl g_int (b_eql (b := true) (decide_eq_true hb1))) (fun a1342 hM1341 => ?_)
                clear hM1339
                refine seg_nil (hK1330 _ _ ?_)
                clear hK1330 K1330 QK1330
                have hM1343 := hM1341.cut12 (t1 := 3) (t2 := 4) (t3 := 5) (t4 := 6) (t5 := 8) (t6 := 10) (t7 := 15) (t8 := 16) (t9 := 17) (t10 := 18) (t11 := 19) (t12 := 135) rfl rfl rfl rfl rfl rfl rfl rfl rfl rfl rfl rfl
                clear hM1341
                refine wp_cond_true (hM1343.ev (t := 135) rfl) ?_
                refine region_last fun K1344 QK1344 hK1344 => ?_
                refine s_val hM1343 (.inl rfl) rfl rfl (ev_fldw (m := 5) rfl rfl (fun w => by simp [go_sem])) (fun a1346 hM1345 => ?_)
                clear hM1343
                refine s_val hM1345 (.inl rfl) rfl rfl (ev_load1 (v := .slice AS (S.length) cS) rfl rfl ((KC.out.on HB1142.out).rng.at_ (m := 5) rfl) (isAgg_no Try.underlying22 rfl)) (fun a1348 hM1347 => ?_)
                clear hM1345
                refine s_val hM1347 (.inl rfl) rfl rfl (ev_move (.inl rfl) rfl) (fun a1350 hM1349 => ?_)
                clear hM1347
                refine s_alloc (e := 3) hM1349 (.inl rfl) rfl rfl (V := fun g => .slice (some ⟨g, 0, none⟩) 1 1) (ev_bsl hM1349 rfl rfl (fun w => by kernel_rfl)) (fun g1351 a1357 w1352 hM1356 KB1355_ hb1353 hg1354 => ?_)
                have KB1355 := hide KB1355_
                clear hM1349 KB1355_
                clear hg1354
                have HB1358 := hide (below_then HB1138.out hb1353)
                have HB1359 := hide (below_then HB1139.out hb1353)
                have HB1360 := hide (below_then HB1142.out hb1353)
                clear hb1353 HB1138 HB1139 HB1142
                have HB1362 : Hid (Below w1352.heap.size w1352 w1352) := Below.refl _ _
                obtain ⟨i0, hi0, hz0, hz1, hz2⟩ := info_parts Try.infoInt
                have hO := (HOS.out.below HB1360.out)
                have hk := (KC.out.on HB1360.out)
                refine s_append hM1356 (.inl rfl) rfl rfl rfl w620.heap.size 3 i0 (.int .i64 0) 1 8 Try.underlying22 hi0 hz0 hz1 hz2 rfl (by decide) S.length (ints S) rfl hO ⟨g1351, 0, none⟩ 1 1 [.int .i64 ((ii + 1 : Nat) : Int)] rfl rfl (news_blk (KB1355.out.on HB1362.out)) (one_int _ _) (by have := HSL.out; unfold maxLen; omega) (by have := HSL.out; omega) HB1359.out.size (fun V2 a1364 w1365 hM1363 ho hgr hat => ?_)
                obtain ⟨AS2, cS2, rfl⟩ := own_slice ho
                have HOT : Hid (OwnR w1365 w620.heap.size 3 1 (.slice AS2 (S ++ [((ii + 1 : Nat) : Int)]).length cS2) (S ++ [((ii + 1 : Nat) : Int)]).length (ints (S ++ [((ii + 1 : Nat) : Int)]))) := by
                  have e : ints (S ++ [((ii + 1 : Nat) : Int)]) = ints S ++ [.int .i64 ((ii + 1 : Nat) : Int)] := by simp [ints]
                  rw [e, List.length_append]; exact ho
                have HB1366 := hide (below_grown_own HB1359.out hO hgr)
                have HB1367 := hide (below_then HNM.out HB1366.out)
                have KB1368 := hide (hk.grown hgr (Ne.symm (own_blk_ne hO hk (by decide))))
                clear hO hk ho hgr hat HOS hM1356 HB1358 HB1359 HB1360 HB1362 KC
                have HOS := HOT
                clear HOT
                have HB1370 : Hid (Below w1365.heap.size w1365 w1365) := Below.refl _ _
                refine s_val hM1363 (.inl rfl) rfl rfl (ev_fldw (m := 5) rfl rfl (fun w => by simp [go_sem])) (fun a1372 hM1371 => ?_)
                clear hM1363
                have hO := (HOS.out.below HB1370.out)
                have hk := (KB1368.out.on HB1370.out)
                refine s_put (v := .slice AS2 (S.length + 1) cS2) hM1371 rfl rfl rfl rfl rfl hk (by show 5 < 6; omega) (st_slice Try.underlying22 (by kernel_rfl)) (fun w1373 kd hg => ?_)
                have KB1374 : Hid (Blk w1373 g1046 40 (crtC (.slice (some ⟨g71, 0, none⟩) 1 1) 2 (.slice AS2 (S ++ [((ii + 1 : Nat) : Int)]).length cS2))) := by
                  have h := kd
                  have e : (S ++ [((ii + 1 : Nat) : Int)]).length = S.length + 1 := List.length_append
                  rw [crt_set] at h
                  rw [e]
                  exact h
                have HOT := hide (show OwnR _ _ _ _ _ _ _ from own_keep hO hg (fun b hb => by injection hb with hb; subst hb; exact own_blk_ne hO hk (by decide)))
                have HB1375 := hide (HB1366.out.grown hg HB1366.out.size (fun b hb => by injection hb with hb; subst hb; exact lo1054.out))
                have HB1376 := hide (below_then HNM.out HB1375.out)
                clear hO hk kd hg HOS HB1367 HB1366 HB1370 KB1368
                have HOS := HOT
                clear HOT
                have HB1378 : Hid (Below w1373.heap.size w1373 w1373) := Below.refl _ _
                refine seg_nil (hK1344 _ _ ?_)
                clear hK1344 K1344 QK1344
                have hM1379 := hM1371.cut11 (t1 := 3) (t2 := 4) (t3 := 5) (t4 := 6) (t5 := 8) (t6 := 10) (t7 := 15) (t8 := 16) (t9 := 17) (t10 := 18) (t11 := 19) rfl rfl rfl rfl rfl rfl rfl rfl rfl rfl rfl
                clear hM1371
                refine inb_n ?_
                refine hK1329 _ _ ?_
                refine region_last fun K1380 QK1380 hK1380 => ?_
                refine s_val hM1379 (.inl rfl) rfl rfl (ev_move (.inl rfl) rfl) (fun a1382 hM1381 => ?_)
                clear hM1379
                refine s_val hM1381 (.inl rfl) rfl rfl (ev_bin rfl rfl rfl g_int (b_add (r := ((ii + 1 + 1 : Nat) : Int)) (by omega) (by omega))) (fun a1384 hM1383 => ?_)
                clear hM1381
                refine s_val hM1383 (.inl rfl) rfl rfl (ev_move (.inr rfl) rfl) (fun a1386 hM1385 => ?_)
                clear hM1383
                refine seg_nil (hK1380 _ _ ?_)
                clear hK1380 K1380 QK1380
                have hM1387 := hM1385.cut11 (t1 := 3) (t2 := 4) (t3 := 5) (t4 := 6) (t5 := 8) (t6 := 10) (t7 := 15) (t8 := 16) (t9 := 17) (t10 := 18) (t11 := 19) rfl rfl rfl rfl rfl rfl rfl rfl rfl rfl rfl
                clear hM1385
                have hM1388 := hM1387.cut11 (t1 := 19) (t2 := 3) (t3 := 4) (t4 := 5) (t5 := 6) (t6 := 8) (t7 := 10) (t8 := 15) (t9 := 16) (t10 := 17) (t11 := 18) rfl rfl rfl rfl rfl rfl rfl rfl rfl rfl rfl
                clear hM1387
                exact ⟨4 - (ii + 1), by omega, ii + 1, AS2, cS2, (S ++ [((ii + 1 : Nat) : Int)]), rfl, hM1388, HB1376, HB1375, (hide (KB1374.out.on HB1378.out)), (hide (HOS.out.below HB1378.out)), HSL2⟩
              case neg =>
                have HSL2 : Hid (S.length ≤ ii + 1 ∧ ii + 1 ≤ 4) := ⟨Nat.le_succ_of_le HSL.out.1, by omega⟩
                refine region_then fun K1389 QK1389 hK1389 => ?_
                refine s_val hM1328 (.inl rfl) rfl rfl (ev_move (.inl rfl) rfl) (fun a1391 hM1390 => ?_)
                clear hM1328
                refine s_val hM1390 (.inl rfl) rfl rfl (ev_move (.inl rfl) rfl) (fun a1393 hM1392 => ?_)
                clear hM1390
                refine s_val hM1392 (.inl rfl) rfl rfl (ev_bin rfl rfl rfl g_int (b_sub (r := ((ii : Nat) : Int)) (by omega) (by omega))) (fun a1395 hM1394 => ?_)
                clear hM1392
                refine s_val hM1394 (.inl rfl) rfl rfl (ev_bin (v := .int .i64 sh) rfl rfl rfl g_int hsh.out) (fun a1397 hM1396 => ?_)
                clear hM1394
                refine s_val hM1396 (.inl rfl) rfl rfl (ev_bin (v := .int .i64 an) rfl rfl rfl g_int han.out) (fun a1399 hM1398 => ?_)
                clear hM1396
                refine s_val hM1398 (.inl rfl) rfl rfl (ev_bin rfl rfl rfl g_int (b_eql (b := false) (decide_eq_false hb1))) (fun a1401 hM1400 => ?_)
                clear hM1398
                refine seg_nil (hK1389 _ _ ?_)
                clear hK1389 K1389 QK1389
                have hM1402 := hM1400.cut12 (t1 := 3) (t2 := 4) (t3 := 5) (t4 := 6) (t5 := 8) (t6 := 10) (t7 := 15) (t8 := 16) (t9 := 17) (t10 := 18) (t11 := 19) (t12 := 135) rfl rfl rfl rfl rfl rfl rfl rfl rfl rfl rfl rfl
                clear hM1400
                refine wp_cond_false (hM1402.ev (t := 135) rfl) ?_
                refine wp_skip ?_
                refine inb_n ?_
                refine hK1329 _ _ ?_
                refine region_last fun K1403 QK1403 hK1403 => ?_
                refine s_val hM1402 (.inl rfl) rfl rfl (ev_move (.inl rfl) rfl) (fun a1405 hM1404 => ?_)
                clear hM1402
                refine s_val hM1404 (.inl rfl) rfl rfl (ev_bin rfl rfl rfl g_int (b_add (r := ((ii + 1 + 1 : Nat) : Int)) (by omega) (by omega))) (fun a1407 hM1406 => ?_)
                clear hM1404
                refine s_val hM1406 (.inl rfl) rfl rfl (ev_move (.inr rfl) rfl) (fun a1409 hM1408 => ?_)
                clear hM1406
                refine seg_nil (hK1403 _ _ ?_)
                clear hK1403 K1403 QK1403
                have hM1410 := hM1408.cut11 (t1 := 3) (t2 := 4) (t3 := 5) (t4 := 6) (t5 := 8) (t6 := 10) (t7 := 15) (t8 := 16) (t9 := 17) (t10 := 18) (t11 := 19) rfl rfl rfl rfl rfl rfl rfl rfl rfl rfl rfl
                clear hM1408
                have hM1411 := hM1410.cut11 (t1 := 19) (t2 := 3) (t3 := 4) (t4 := 5) (t5 := 6) (t6 := 8) (t7 := 10) (t8 := 15) (t9 := 16) (t10 := 17) (t11 := 18) rfl rfl rfl rfl rfl rfl rfl rfl rfl rfl rfl
                clear hM1410
                exact ⟨4 - (ii + 1), by omega, ii + 1, AS, cS, S, rfl, hM1411, HB1138, HB1139, (hide (KC.out.on HB1142.out)), (hide (HOS.out.below HB1142.out)), HSL2⟩
end Go.Proofs.Ytebaojcfmkobjaa
