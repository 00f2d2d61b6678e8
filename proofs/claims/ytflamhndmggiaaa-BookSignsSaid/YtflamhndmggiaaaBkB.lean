
/-
  Contracts of package book: Find, the clone of bytes, Bytes.
-/
import Derived.Test.YtflamhndmggiaaaBkA
namespace Go.Proofs.Ytflamhndmggiaaa
open Go.RowKit

theorem eql_nil_bytes (w : World) (A : Option Addr) (n c : Nat) : (binOp .eql 28 (.slice A n c) (.slice none 0 0)).run Try.prog w = .ok (.bool A.isNone) w := Lib.run_eql_slice_nil w _ _ A n c 0 0 Try.underlying28
theorem numF_look (L : List (List UInt8)) (x : List UInt8) : (numF L (tx x)).getD (.int .i64 0) = .int .i64 (fndN (fnd L x)) ∧ (numF L (tx x)).isSome = (fnd L x).isSome := by
  unfold numF
  rw [tx_data]
  cases fnd L x <;> exact ⟨rfl, rfl⟩
theorem fndN_some {o : Option Nat} (h : o.isSome = true) : fndE o = 0 := by cases o <;> simp_all [fndE]
theorem fndN_none {o : Option Nat} (h : o.isSome = false) : fndE o = 3 ∧ fndN o = 0 := by cases o <;> simp_all [fndE, fndN]
set_option maxHeartbeats 1000000 in
theorem book_Find {G : Nat → Prop} {g : Nat} {L : List (List UInt8)} {sg : Int × Int → Bool} {A : Option Addr} {n c : Nat} {x : List UInt8} (w : World) (h : BkI G w g L sg) (hs : Sl w 1 A n (bytes8 x)) (hn : n ≤ 9223372036854775807) :
    Calls Try.prog 24 #[.pointer (some ⟨g, 0, none⟩), .slice A n c] w fun e w' => e = .returned (.tuple #[.int .i64 (fndN (fnd L x)), .int .i64 (fndE (fnd L x))]) ∧ ∃ q, w' = w.drewN q := by
  obtain ⟨m1, m2, A1, c1, k0, _, _, hl, hm, _⟩ := h.open_
  clear h
  have hc : ∀ q, (convert 28 9 (.slice A n c)).run Try.prog (w.drewN q) = .ok (.string (tx x)) (w.drewN q) := fun q => run_str_of_bytes _ _ _ _ Try.underlying28 (by kernel_rfl) (by kernel_rfl) (hs.drewN q)
  have hr : ∀ q, (Instr.lookup 100 (.map (some m1)) (.string (tx x)) true).run Try.prog (w.drewN q) = .ok (.tuple #[.int .i64 (fndN (fnd L x)), .bool (fnd L x).isSome]) (w.drewN q) := fun q => by
    have := (hm.drewN q).look keys_str under_numbers (zero_int _) (tx x) true
    obtain ⟨e1, e2⟩ := numF_look L x
    rw [e1, e2] at this
    exact this
  clear hm hs
  generalize fnd L x = o at hr ⊢
  generalize tx x = s at hc hr
  obtain ⟨p, HP⟩ : ∃ p, Hid (o.isSome = p) := ⟨_, rfl⟩
  rw [HP.out] at hr
  cases p with
  | true =>
    have HE := hide (fndN_some HP.out)
    rw [HE.out]
    clear HP
    go_enter Try.func24, Try.ntmps24
    go_wp2_with fail
    go_quiet (fail)
    go_wp2_with fail
    go_ret2
    exact ⟨rfl, _, rfl⟩
  | false =>
    have HE := hide (fndN_none HP.out)
    rw [HE.out.1, HE.out.2]
    rw [HE.out.2] at hr
    clear HP
    go_enter Try.func24, Try.ntmps24
    go_wp2_with fail
    go_quiet (fail)
    go_wp2_with fail
    go_ret2
    exact ⟨rfl, _, rfl⟩

set_option maxHeartbeats 1000000 in
set_option maxRecDepth 100000 in
/-- slices.Clone of bytes: new bytes, or nil. -/
theorem clone_bytes {A : Option Addr} {n c : Nat} {x : List UInt8} (w : World) (hs : Sl w 1 A n (bytes8 x)) (hn : n ≤ 140737488355328) :
    Calls Try.prog 69 #[.slice A n c] w fun e w' => ∃ v, e = .returned v ∧ w'.ownsRow w.heap.size 5 1 v n (bytes8 x) ∧ Below w.heap.size w w' := by
  have HN := hide hn
  clear hn
  cases hA : A with
  | none =>
    subst hA
    have h0 : n = 0 := by
      rcases Nat.eq_zero_or_pos n with h | h
      · exact h
      · obtain ⟨b, off, e, _⟩ := hs.2 h
        cases e
    subst h0
    have hx : x = [] := List.eq_nil_of_length_eq_zero hs.blen
    subst hx
    clear hs
    have he := fun w => eql_nil_bytes w none 0 c
    simp only [Option.isNone_none] at he
    go_enter Try.func69, Try.ntmps69
    go_wp2_with fail
    go_ret
    exact ⟨_, rfl, World.ownsRow_nil _ _ _ _, Below.refl _ _⟩
  | some a =>
    subst hA
    obtain ⟨i0, hi, hz0, hz1, hz2⟩ := info_parts Try.infoByte
    have HS := hide hs
    clear hs
    have he := fun w => eql_nil_bytes w (some a) n c
    simp only [Option.isNone_some] at he
    have he := fun w => eql_nil_bytes w none 0 c
    simp only [Option.isNone_none] at he
    go_enter Try.func69, Try.ntmps69
    go_wp2_with (at_builtin; refine wpList_append_any _ rfl _ _ 28 rfl w.heap.size 5 i0 (.int .u8 0) 1 1 Try.underlying28 hi hz0 hz1 hz2 rfl (by decide) _ 0 [] rfl (own_of_blk (size := 1) (n := 0) (cs := #[]) (Blk.new _ _ _) (Nat.le_refl _) rfl (by omega)) (some a) n c (bytes8 x) rfl (HS.out.alloc _) (bytes8_one _) (by have := HN.out; unfold maxLen; omega) (by have := HN.out; omega) (by simp) ?_)
    intro v w1 hown hg
    go_wp2_with fail
    go_ret
    refine ⟨v, rfl, by simpa using hown, ((Below.refl _ _).alloc (Nat.le_refl _) _).grown hg (by simp) (fun g e => ?_)⟩
    simp [Value.ownBlock] at e
    omega

theorem BkI.row {G : Nat → Prop} {w : World} {g : Nat} {L : List (List UInt8)} {sg : Int × Int → Bool} (h : BkI G w g L sg) {i : Nat} {x : List UInt8} (hx : L[i]? = some x) :
    ∃ b c A1 c1, w.cell? ⟨g, 1, none⟩ = some (.slice (some ⟨b, 0, none⟩) L.length c) ∧ w.cell? ⟨b, i, none⟩ = some (.slice A1 x.length c1) ∧ Sl w 1 A1 x.length (bytes8 x) ∧ x.length ≤ 1048576 := by
  have hs := h.sm x (mem_of_at hx)
  obtain ⟨_, _, _, F, E, m1, m2, v, _, _, _, _, _, _, _, hb, hm1, hm2, hr⟩ := h
  obtain ⟨b, c, A1, c1, rfl, _, h1, h2, h3, h4⟩ := hr.at_ hx
  exact ⟨b, c, A1, c1, hb.at_ rfl, h1, h4, hs⟩
set_option maxRecDepth 100000 in
set_option maxHeartbeats 1000000 in
theorem book_Bytes_some {G : Nat → Prop} {g : Nat} {L : List (List UInt8)} {sg : Int × Int → Bool} {x : List UInt8} (i : Nat) (w : World) (h : BkI G w g L sg) (hx : Hid (L[i]? = some x)) :
    Calls Try.prog 25 #[.pointer (some ⟨g, 0, none⟩), .int .i64 ((i : Int) + 1)] w fun e w' => ∃ v, e = .returned (.tuple #[v, .int .i64 0]) ∧ w'.ownsRow w.heap.size 5 1 v x.length (bytes8 x) ∧ Below w.heap.size w w' := by
  obtain ⟨b, c, A1, c1, k1, k2, hs, hsm⟩ := h.row hx.out
  have hlt := lt_of_at hx.out
  have hl : L.length ≤ 9223372036854775807 := by
    obtain ⟨_, _, _, _, _, _, _, hl, _⟩ := h.open_
    exact hl
  have CH := hide (book_has ((i : Int) + 1) w h (r := true) (by rw [Hid, decide_eq_true_eq]; omega))
  have CC := hide (clone_bytes w hs (c := c1) (by omega))
  have hi0 : (0 : Int) ≤ (i : Int) := by omega
  clear h hx hs hsm
  generalize L.length = n at k1 hlt hl
  generalize x.length = m at k2 CC ⊢
  go_enter Try.func25, Try.ntmps25
  go_wp2_with fail
  refine CH.out.mono ?_
  rintro e w' ⟨rfl, rfl⟩
  go_wp2_with fail
  refine CC.out.mono ?_
  rintro e w1 ⟨v, rfl, hown, hb⟩
  go_wp2_with fail
  go_ret2
  exact ⟨v, rfl, hown, hb⟩
set_option maxHeartbeats 1000000 in
theorem book_Bytes_none {G : Nat → Prop} {g : Nat} {L : List (List UInt8)} {sg : Int × Int → Bool} (d : Int) (w : World) (h : BkI G w g L sg) (hd : Hid (¬ (1 ≤ d ∧ d ≤ (L.length : Int)))) :
    Calls Try.prog 25 #[.pointer (some ⟨g, 0, none⟩), .int .i64 d] w fun e w' => e = .returned (.tuple #[.slice none 0 0, .int .i64 3]) ∧ w = w' := by
  have CH := hide (book_has d w h (r := false) (by rw [Hid, decide_eq_false_iff_not]; exact hd.out))
  clear h hd
  go_enter Try.func25, Try.ntmps25
  go_wp2_with fail
  refine CH.out.mono ?_
  rintro e w' ⟨rfl, rfl⟩
  go_wp2_with fail
  go_ret2
  exact ⟨rfl, rfl⟩
end Go.Proofs.Ytflamhndmggiaaa
