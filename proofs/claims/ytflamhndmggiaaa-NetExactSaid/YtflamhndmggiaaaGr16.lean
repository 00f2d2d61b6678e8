/-
  Texts joined: words and contracts that later texts use; lemmas alone, no conditions of a statement.
-/
import Derived.Test.YtflamhndmggiaaaGr14
import Derived.Test.YtflamhndmggiaaaGr10
set_option linter.unusedVariables false
set_option linter.unusedSimpArgs false
/-
  The acts of layer 12 as a function; heavy.
-/
namespace Go.Proofs.Ytflamhndmggiaaa
open Go.RowKit

theorem IntKind.u64_wrap_nonneg (i : Int) : 0 ≤ IntKind.u64.wrap i := by
  rw [IntKind.wrap_u64]; omega
/-- A bool of which R holds. -/
def Ans (R : Bool → Prop) (e : Ending) : Prop := ∃ r, e = .returned (.bool r) ∧ R r
structure ActD where
  z0 : Int
  z1 : Int
  z2 : Int
  z3 : Int
  A : Option Addr
  n : Nat
  c : Nat
  bs : List UInt8
def actC (d : ActD) : Array Value := #[.int .i64 d.z0, .int .i64 d.z1, .int .i64 d.z2, .int .i64 d.z3, .slice d.A d.n d.c]
/-- The k-th act. -/
structure ActAt (w : World) (A : Option Addr) (k : Nat) (d : ActD) : Prop where
  at_ : ∃ b off, A = some ⟨b, off, none⟩ ∧ Rng w b (off + k * 5) (actC d)
  sl : Sl w 1 d.A d.n (bytes8 d.bs)
  nn : d.n ≤ 150000000000001
  nc : d.n ≤ d.c
  cc : d.c ≤ 9223372036854775807
structure ActsF (w : World) (A : Option Addr) (n : Nat) (d : Nat → ActD) : Prop where
  le : n ≤ 9223372036854775807
  all : ∀ k, k < n → ActAt w A k (d k)
theorem ActAt.below {w w' : World} {A : Option Addr} {k : Nat} {d : ActD} (h : ActAt w A k d) (hb : Below w.heap.size w w') : ActAt w' A k d := by
  obtain ⟨⟨b, off, e, hr⟩, h2, h3, h4, h5⟩ := h
  exact ⟨⟨b, off, e, hr.below hb⟩, h2.below hb, h3, h4, h5⟩
theorem ActsF.below {w w' : World} {A : Option Addr} {n : Nat} {d : Nat → ActD} (h : ActsF w A n d) (hb : Below w.heap.size w w') : ActsF w' A n d := ⟨h.le, fun k hk => (h.all k hk).below hb⟩
theorem acts_fun {w : World} {A : Option Addr} {n : Nat} (h : Acts12 w A n) : ∃ d, ActsF w A n d := by
  have hx : ∀ k, ∃ d : ActD, k < n → ActAt w A k d := fun k => by
    by_cases hk : k < n
    · obtain ⟨b, off, e, hc⟩ := h.2 (by omega)
      obtain ⟨z0, z1, z2, z3, A4, n4, c4, bs, q0, q1, q2, q3, q4, _, _, _, _, hs, h1, h2, h3⟩ := hc k hk
      refine ⟨⟨z0, z1, z2, z3, A4, n4, c4, bs⟩, fun _ => ⟨⟨b, off, e, lt_of_cell q0, fun j v hj => ?_⟩, hs, h1, h2, h3⟩⟩
      have hlt : j < 5 := (Array.getElem?_eq_some_iff.1 hj).1
      match j, hj, hlt with
      | 0, hj, _ => obtain rfl := Option.some.inj hj; exact q0
      | 1, hj, _ => obtain rfl := Option.some.inj hj; exact q1
      | 2, hj, _ => obtain rfl := Option.some.inj hj; exact q2
      | 3, hj, _ => obtain rfl := Option.some.inj hj; exact q3
      | 4, hj, _ => obtain rfl := Option.some.inj hj; exact q4
      | j + 5, _, hlt => omega
    · exact ⟨⟨0, 0, 0, 0, none, 0, 0, []⟩, fun h => absurd h hk⟩
  obtain ⟨f, hf⟩ := Classical.axiomOfChoice hx
  exact ⟨f, h.1, hf⟩
def LightA (n : Nat) (d : Nat → ActD) : Prop := ∀ k, k < n → k < 60 → (d k).n ≤ 10000
def Heavy12 (n : Nat) (d : Nat → ActD) (r : Bool) : Prop := r = false → LightA n d
theorem ActsF.cell {w : World} {A : Option Addr} {n : Nat} {d : Nat → ActD} (h : ActsF w A n d) {k : Nat} (hk : k < n) : ∃ b off, A = some ⟨b, off, none⟩ ∧ w.cell? ⟨b, off + k * 5 + 4, none⟩ = some (.slice (d k).A (d k).n (d k).c) := by
  obtain ⟨b, off, e, hr⟩ := (h.all k hk).at_
  exact ⟨b, off, e, hr.2 4 _ rfl⟩
set_option maxRecDepth 100000 in
set_option maxHeartbeats 1000000 in
theorem law12_heavy {A : Option Addr} {n c : Nat} {d : Nat → ActD} (w : World) (h : ActsF w A n d) : Calls Try.prog 40 #[.slice A n c] w fun e w' => Ans (Heavy12 n d) e ∧ w = w' := by
  have hn := h.le
  have HA := hide h
  clear h
  go_enter Try.func40, Try.ntmps40
  go_wp2_with fail
  go_loop [3, 4] (fun s i => ∃ k m : Nat, k ≤ n ∧ k ≤ 60 ∧ m ≤ 10000 ∧ s = .int .i64 m ∧ i = .int .i64 k ∧ Hid (∀ j, j < k → (d j).n ≤ 10000)) (fun _ i => n - (intOf i).toNat)
  case atStart => exact ⟨0, 0, Nat.zero_le _, by omega, by omega, rfl, rfl, (fun j hj => by omega)⟩
  case round =>
    obtain ⟨k, m, hkn, hk60, hm, rfl, rfl, HX⟩ := hrel
    by_cases hlt : k < n
    · by_cases h60 : k < 60
      · have hd60 : decide ((k : Int) < 60) = true := by simp; omega
        obtain ⟨b, off, rfl, q4⟩ := HA.out.cell hlt
        have hn3 := (HA.out.all k hlt).nn
        generalize hN : (d k).n = n3 at q4 hn3
        have HN := hide hN
        clear hN
        by_cases hs : m + n3 ≤ 10000
        · have hsd : decide (10000 < (m : Int) + (n3 : Int)) = false := by simp; omega
          go_wp2_with fail
          go_round
          case rel =>
            refine ⟨k + 1, m + n3, by omega, by omega, hs, by go_num, by go_num, fun j hj => ?_⟩
            rcases Nat.lt_or_ge j k with h' | h'
            · exact HX.out j h'
            · obtain rfl : j = k := by omega
              rw [HN.out]; omega
          case measure => simp [intOf]; omega
        · have hsd : decide (10000 < (m : Int) + (n3 : Int)) = true := by simp; omega
          go_wp2_with fail
          go_ret
          exact ⟨⟨true, rfl, fun h => by cases h⟩, rfl⟩
      · have hd60 : decide ((k : Int) < 60) = false := by simp; omega
        have HF : Hid (Heavy12 n d false) := fun _ j _ hj => HX.out j (by omega)
        go_wp2_with fail
        go_ret
        exact ⟨⟨false, rfl, HF.out⟩, rfl⟩
    · obtain rfl : k = n := by omega
      have HF : Hid (Heavy12 k d false) := fun _ j hjn _ => HX.out j hjn
      go_wp2_with fail
      all_goals
        go_ret
        exact ⟨⟨false, rfl, HF.out⟩, rfl⟩
end Go.Proofs.Ytflamhndmggiaaa
/-
  Words of NetKeeps: small steps, the ways' messages, the counts.
-/
namespace Go.Proofs.Ytflamhndmggiaaa
open Go.RowKit

section
variable {P : Program} {a : Act} {n : Nat} {M : List (Nat × Value)} {ops : Array Oper} {o : Oper} {w w' : World} {v : Value} {Q : Exit → Act → World → Prop} {K : Act → World → Prop} {rest : List Oper}
theorem s_append_any {d : Nat} {s x : Operand} {t : TypeId} (hM : Frm a n M) (hw : Want ops M o) (hd : o.dst = some d) (hn : Nat.blt d n = true) (ho : o.op = .call { callee := .builtin .append, args := #[s, x], argTypes := #[t, t] })
    (base : Nat) (e : TypeId) (i : TypeInfo) (z : Value) (size bytes : Nat) (ht : P.underlying t = some (.slice e)) (hi : P.info? e = some i) (hz : i.zero = some z) (hsize : i.size = size) (hby : i.bytes = bytes) (hzs : z.cells.size = size) (hsz : 0 < size)
    (m : Nat) (xs : List Value) (hs : opv M s = some v) (hown : w.ownsRow base e size v m xs) (A : Option Addr) (k c : Nat) (news : List Value) (hx : opv M x = some (.slice A k c)) (hsl : Sl w size A k news)
    (h1 : ∀ u ∈ news, u.oneCell' = true) (h63 : m + k ≤ maxLen) (hbytes : (m + k) * bytes ≤ 140737488355328) (hbase : base ≤ w.heap.size)
    (h : ∀ v' a' w', Frm a' n ((d, v') :: M) → w'.ownsRow base e size v' (m + k) (xs ++ news) → w.grownBy w' v.ownBlock → wpSeg P ops Q K rest a' w') : wpSeg P ops Q K (o :: rest) a w := by
  obtain ⟨v', w', hr, h2, h3⟩ := run_append_any (P := P) w base t o.type e i z size bytes ht hi hz hsize hby hzs hsz v m xs hown A k c news hsl h1 h63 hbytes hbase
  have hrun : (execOp a.eval o).run P w = .ok (.value v') w' := by
    unfold execOp
    simp only [ho, resolve, invoke, builtin, Sem.run_bind, Sem.run_pure, Result.andThen_ok, List.map_toArray, List.map_cons, List.map_nil, hM.evo hs, hM.evo hx, hr]
  unfold wpSeg
  rw [if_pos (hw.is hM)]
  refine .inl ?_
  unfold Oper.wp
  rw [hrun, Oper.upon_value, hd]
  exact h _ _ _ (hM.put (Nat.le_of_ble_eq_true hn) _) h2 h3
theorem ev_idxk {t e : TypeId} {x i : Operand} {b off sz m c k p : Nat} {kd : IntKind} (ho : o.op = .indexAddr t x i) (hx : opv M x = some (.slice (some ⟨b, off, none⟩) m c)) (hi : opv M i = some (.int kd (k : Int)))
    (hu : P.underlying t = some (.slice e)) (hz : (P.info? e).map (·.size) = some sz) (hk : k < m) (hp : off + k * sz = p) : Ev P M o w (.pointer (some ⟨b, p, none⟩)) := fun a n h => by
  subst hp
  obtain ⟨d, hd, rfl⟩ := Option.map_eq_some_iff.1 hz
  simp [execOp, ho, h.evo hx, h.evo hi, Instr.indexAt, Sem.run_bind, run_underlying hu, asIntOf, hk, sizeOf, typeInfo, hd, add_lit]
theorem ev_idxa {t e : TypeId} {x i : Operand} {b off sz m k p : Nat} {kd : IntKind} (ho : o.op = .indexAddr t x i) (hx : opv M x = some (.pointer (some ⟨b, off, none⟩))) (hi : opv M i = some (.int kd (k : Int)))
    (hu : P.underlying t = some (.array m e)) (hz : (P.info? e).map (·.size) = some sz) (hk : k < m) (hp : off + k * sz = p) : Ev P M o w (.pointer (some ⟨b, p, none⟩)) := fun a n h => by
  subst hp
  obtain ⟨d, hd, rfl⟩ := Option.map_eq_some_iff.1 hz
  simp [execOp, ho, h.evo hx, h.evo hi, Instr.indexAt, Instr.sureAddr, Sem.run_bind, run_underlying hu, asIntOf, hk, sizeOf, typeInfo, hd, add_lit]
theorem ev_min {x y : Operand} {ts : Array TypeId} {p q : Nat} (ho : o.op = .call { callee := .builtin .min, args := #[x, y], argTypes := ts }) (hx : opv M x = some (.int .i64 (p : Int))) (hy : opv M y = some (.int .i64 (q : Int))) : Ev P M o w (.int .i64 ((min p q : Nat) : Int)) := fun a n hM => by
  unfold execOp
  simp only [ho, resolve, invoke, builtin, Sem.run_bind, Sem.run_pure, Result.andThen_ok, List.map_toArray, List.map_cons, List.map_nil, hM.evo hx, hM.evo hy]
  simp [Builtin.min_, Builtin.min2]
  split <;> omega
theorem ev_conv81 {s d : TypeId} {x : Operand} {z : Nat} (ho : o.op = .convert s d x) (hx : opv M x = some (.int .u8 (z : Int))) (hs : P.underlying s = some (.int .u8)) (hd : P.underlying d = some (.int .i64)) (h : z < 256) : Ev P M o w (.int .i64 (z : Int)) := fun a n hM => by
  have e2 : IntKind.i64.wrap (z : Int) = z := by rw [IntKind.wrap_i64]; omega
  simp only [execOp, ho, hM.evo hx]
  simp [convert, Sem.run_bind, run_underlying hs, run_underlying hd, go_sem, e2]
def dropA (A : Option Addr) (c k : Nat) : Option Addr := if c = k then A else A.map (·.add (k * 1))
theorem ev_slice_l {t : TypeId} {x lo : Operand} {A : Option Addr} {n c k : Nat} (ho : o.op = .slice t x (some lo) none none) (hx : opv M x = some (.slice A n c)) (hl : opv M lo = some (.int .i64 (k : Int)))
    (hu : P.underlying t = some (.slice (P.elem t))) (hz : ∀ w, (sizeOf (P.elem t)).run P w = .ok 1 w) (hk : k ≤ n) : Ev P M o w (.slice (dropA A c k) (n - k) (c - k)) := fun a m hM => by
  have h1 := run_slice_l (P := P) (w := w) t A n c hu .i64 (k : Int) (by omega) (by omega)
  rw [hz] at h1
  simp only [Result.andThen_ok, Int.toNat_natCast] at h1
  simp only [execOp, ho, hM.evo hx, hM.evo hl, Option.map_some, Option.map_none]
  simp [Sem.run_bind, run_sliceAt_slice, hu, h1, sliced, dropA]
theorem Sl.dropb {A : Option Addr} {n c k : Nat} {W : List UInt8} (h : Sl w 1 A n (bytes8 W)) (hk : k ≤ n) (hc : n ≤ c) : Sl w 1 (dropA A c k) (n - k) (bytes8 (W.drop k)) := by
  have hl := h.blen
  refine ⟨by rw [bytes8_len, List.length_drop]; omega, fun hn => ?_⟩
  obtain ⟨b, off, e, hb, hcell⟩ := h.2 (by omega)
  refine ⟨b, off + k, ?_, hb, fun j u hu => ?_⟩
  · unfold dropA
    rw [if_neg (by omega), e]
    simp only [Option.map_some, add_lit, Nat.mul_one]
  · rw [show off + k + j = off + (k + j) by omega]
    refine hcell (k + j) u ?_
    have : (bytes8 (W.drop k))[j]? = (bytes8 W)[k + j]? := by simp [bytes8]
    rw [← this]; exact hu
end
theorem b_mul {P : Program} {ty : TypeId} {p q r : Int} (hr : p * q = r) (h : -9223372036854775808 ≤ r ∧ r ≤ 9223372036854775807) (w : World) : (binOp .mul ty (.int .i64 p) (.int .i64 q)).run P w = .ok (.int .i64 r) w := by
  subst hr
  have e : IntKind.i64.wrap (p * q) = p * q := by rw [IntKind.wrap_i64]; omega
  simp [go_sem, e]
theorem below_grown_at {B : Nat} {w wa wb : World} {g : Nat} (hb : Below B w wa) (hg : wa.grownBy wb (some g)) (hB : B ≤ wa.heap.size) (h : B ≤ g) : Below B w wb := hb.grown hg hB (fun k hk => by injection hk with hk; omega)
theorem u8_of {k : Nat} (h : k < 256) : (UInt8.ofNat k).toNat = k := by rw [UInt8.toNat_ofNat']; omega
theorem ev_conv8j {P : Program} {M : List (Nat × Value)} {o : Oper} {w : World} {s d : TypeId} {x : Operand} {j : Nat} (ho : o.op = .convert s d x) (hx : opv M x = some (.int .i64 (j : Int))) (hs : P.underlying s = some (.int .i64)) (hd : P.underlying d = some (.int .u8)) : Ev P M o w (.int .u8 ((UInt8.ofNat j).toNat : Int)) := fun a n hM => by
  have e2 : IntKind.u8.wrap (j : Int) = ((UInt8.ofNat j).toNat : Int) := by
    rw [IntKind.wrap_u8, UInt8.toNat_ofNat']
    omega
  simp only [execOp, ho, hM.evo hx]
  simp [convert, Sem.run_bind, run_underlying hs, run_underlying hd, go_sem, e2]
def wiF (i : Int) (m : Nat) : Nat := ((IntKind.u64.wrap i).tmod m).toNat
theorem wiF_lt {i : Int} {m : Nat} (h : 0 < m) : wiF i m < m := by
  have hu := IntKind.u64_wrap_nonneg i
  have hlt := Int.tmod_lt_of_pos (IntKind.u64.wrap i) (show (0 : Int) < m by omega)
  have hge := Int.tmod_nonneg (m : Int) hu
  unfold wiF
  omega
set_option maxHeartbeats 400000 in
theorem law0_WithinF (i : Int) (m : Nat) (w : World) (h0 : 0 < m) (h1 : m ≤ 100000) : Calls Try.prog 18 #[.int .i64 i, .int .i64 (m : Int)] w fun e w' => e = .returned (.int .i64 (wiF i m : Int)) ∧ w = w' := by
  have hm0 : ((m : Int) == 0) = false := by simp; omega
  go_enter Try.func18, Try.ntmps18
  go_wp2_with fail
  go_ret
  have hu := IntKind.u64_wrap_nonneg i
  have hlt := Int.tmod_lt_of_pos (IntKind.u64.wrap i) (show (0 : Int) < m by omega)
  have hge := Int.tmod_nonneg (m : Int) hu
  refine ⟨ret_int ?_, rfl⟩
  have : wrap64 ((IntKind.u64.wrap i).tmod m) = (IntKind.u64.wrap i).tmod m := by unfold wrap64; omega
  rw [this]
  unfold wiF
  omega
theorem nw_CountK {w0 w : World} {g : Nat} {S : Int × Int → List (List UInt8)} (a b : Int) (h : NtW w0 w g S) {k : Nat} (hk : (S (a, b)).length = k) : Calls Try.prog 45 #[.pointer (some ⟨g, 0, none⟩), .int .i64 a, .int .i64 b] w fun e w' => e = .returned (.int .i64 (k : Int)) ∧ w = w' := by
  have := nw_Count a b h
  rw [hk] at this
  exact this
theorem alloc_40 (w : World) : (Instr.alloc 70 true (.tuple #[])).run Try.prog w = .ok (.pointer (some ⟨w.heap.size, 0, none⟩)) (w.alloc (.cells (Array.replicate 40 (.int .i64 0)) 70)) := by
  kernel_rfl
theorem ActsF.row {w : World} {A : Option Addr} {n b off : Nat} {d : Nat → ActD} (h : ActsF w A n d) (hA : A = some ⟨b, off, none⟩) {k : Nat} (hk : k < n) : Rng w b (off + k * 5) (actC (d k)) := by
  obtain ⟨b', off', e, hr⟩ := (h.all k hk).at_
  rw [hA] at e
  injection e with e
  injection e with e1 e2
  subst e1; subst e2
  exact hr
theorem rmap_succ {α : Type} (f : Nat → α) (j : Nat) : (List.range (j + 1)).map f = (List.range j).map f ++ [f j] := by simp [List.range_succ]
theorem drop_erase {α β : Type} (f : α → β) (l : List α) (i : Nat) : ((l.drop i).map f).eraseIdx 0 = (l.drop (i + 1)).map f := by
  rw [List.eraseIdx_zero, ← List.map_tail, List.tail_drop]
def kb (j : Nat) : List UInt8 := [UInt8.ofNat j]
def xf (d : Nat → ActD) (j : Nat) : List UInt8 := UInt8.ofNat j :: (d j).bs
/-- What is on its way at first: each once, the first one twice. -/
def L0 (c : Nat) : List Nat := if c = 0 then [] else List.range c ++ [0]
theorem xf_len (d : Nat → ActD) (j : Nat) : (xf d j).length = (d j).bs.length + 1 := rfl
theorem L0_map {d : Nat → ActD} {c : Nat} (h : 0 < c) : ((List.range c).map (xf d) ++ [xf d 0]) = (L0 c).map (xf d) := by
  unfold L0
  rw [if_neg (by omega), List.map_append]
  rfl
def KK (L M : List (List UInt8)) : (Int × Int → List (List UInt8)) := updF (updF (fun _ => []) (1, 2) L) (2, 1) M
theorem KK_0 : KK [] [] = fun _ => [] := by
  funext q
  unfold KK updF
  split
  · rfl
  · split <;> rfl
theorem KK_12 {L M : List (List UInt8)} : KK L M (1, 2) = L := by
  unfold KK
  rw [updF_ne (by decide)]
  exact updF_self
theorem KK_21 {L M : List (List UInt8)} : KK L M (2, 1) = M := updF_self
theorem KK_u12 {L L' M : List (List UInt8)} : updF (KK L M) (1, 2) L' = KK L' M := by
  funext q
  unfold KK updF
  by_cases h1 : q = (1, 2)
  · subst h1; rfl
  · rw [if_neg h1]
    by_cases h2 : q = (2, 1)
    · rw [if_pos h2, if_pos h2]
    · rw [if_neg h2, if_neg h2, if_neg h1, if_neg h1]
theorem KK_u21 {L M M' : List (List UInt8)} : updF (KK L M) (2, 1) M' = KK L M' := by
  funext q
  unfold KK updF
  by_cases h2 : q = (2, 1)
  · rw [if_pos h2, if_pos h2]
  · rw [if_neg h2, if_neg h2, if_neg h2]
theorem L0_len {c : Nat} (h : 0 < c) : (L0 c).length = c + 1 := by unfold L0; rw [if_neg (by omega)]; simp
theorem L0_len0 : (L0 0).length = 0 := rfl
theorem L0_lt {c j : Nat} (h : j ∈ L0 c) : j < c := by
  unfold L0 at h
  split at h
  · cases h
  · rcases List.mem_append.1 h with h | h
    · exact List.mem_range.1 h
    · obtain rfl : j = 0 := by simpa using h
      omega
theorem count_range {j c : Nat} (h : j < c) : (List.range c).count j = 1 := by
  rw [(List.nodup_range).count]; simp [h]
theorem L0_count {j c : Nat} (h : j < c) : (L0 c).count j = if j = 0 then 2 else 1 := by
  unfold L0
  rw [if_neg (by omega), List.count_append, count_range h]
  by_cases h0 : j = 0
  · subst h0; rfl
  · rw [if_neg h0, List.count_eq_zero_of_not_mem (by simpa using h0)]
def sN (c : Nat) (L : List Nat) (j : Nat) : Nat := (L0 c).count j - L.count j
theorem sN_nil {c j : Nat} (h : j < c) : sN c [] j = if j = 0 then 2 else 1 := by
  unfold sN
  rw [L0_count h]
  simp
def seenC (c : Nat) (L : List Nat) : Array Value := Array.ofFn (n := 40) fun j => .int .i64 (sN c L j.val : Int)
theorem seenC_at {c j : Nat} {L : List Nat} (h : j < 40) : (seenC c L)[j]? = some (.int .i64 (sN c L j : Int)) := by
  unfold seenC
  rw [Array.getElem?_ofFn, dif_pos h]
theorem seenC_0 {c : Nat} : seenC c (L0 c) = Array.replicate 40 (.int .i64 0) := by
  apply Array.ext (by simp [seenC])
  intro j h1 h2
  simp [seenC, sN]
theorem sN_le {c j : Nat} {L : List Nat} : sN c L j ≤ c + 1 := by
  unfold sN
  have := List.count_le_length (a := j) (l := L0 c)
  have h : (L0 c).length ≤ c + 1 := by
    unfold L0
    split
    · simp
    · simp
  omega
structure SubK (c : Nat) (L : List Nat) (i : Nat) : Prop where
  sub : ∀ j, L.count j ≤ (L0 c).count j
  len : L.length + i = (L0 c).length
theorem SubK.first {c : Nat} : SubK c (L0 c) 0 := ⟨fun _ => Nat.le_refl _, rfl⟩
theorem SubK.lt {c i j : Nat} {L : List Nat} (h : SubK c L i) (hj : j ∈ L) : j < c := by
  have h1 := List.count_pos_iff.2 hj
  have h2 := h.sub j
  exact L0_lt (List.count_pos_iff.1 (by omega))
theorem count_erase {L : List Nat} {k e : Nat} (h : L[k]? = some e) (j : Nat) : L.count j = (L.eraseIdx k).count j + if j = e then 1 else 0 := by
  induction L generalizing k with
  | nil => simp at h
  | cons x L ih =>
    cases k with
    | zero =>
      obtain rfl : x = e := by simpa using h
      rw [List.eraseIdx_zero, List.tail_cons, List.count_cons]
      by_cases hj : j = x
      · subst hj; simp
      · rw [if_neg hj, if_neg (by simpa using fun h => hj h.symm)]
    | succ k =>
      have := ih (k := k) (by simpa using h)
      rw [List.eraseIdx_cons_succ, List.count_cons, List.count_cons, this]
      omega
theorem SubK.next {c i k e : Nat} {L : List Nat} (h : SubK c L i) (he : L[k]? = some e) : SubK c (L.eraseIdx k) (i + 1) := by
  refine ⟨fun j => ?_, ?_⟩
  · have := count_erase he j
    have := h.sub j
    omega
  · obtain ⟨hk, _⟩ := List.getElem?_eq_some_iff.1 he
    have := h.len
    rw [List.length_eraseIdx_of_lt hk]
    omega
theorem seenC_set {c i k e : Nat} {L : List Nat} (h : SubK c L i) (he : L[k]? = some e) : (seenC c L).setIfInBounds e (.int .i64 ((sN c L e + 1 : Nat) : Int)) = seenC c (L.eraseIdx k) := by
  apply Array.ext (by simp [seenC])
  intro j h1 h2
  have hc := count_erase he j
  rw [Array.getElem_setIfInBounds (by simpa using h1)]
  have hs := h.sub j
  split
  · rename_i hj
    subst hj
    rw [if_pos rfl] at hc
    simp only [seenC, Array.getElem_ofFn, sN]
    congr 2
    omega
  · rename_i hj
    rw [if_neg (fun h => hj h.symm)] at hc
    simp only [seenC, Array.getElem_ofFn, sN]
    rw [hc, Nat.add_zero]
/-- A net and a block beside it. -/
def NtZ (w0 w : World) (g : Nat) (S : Int × Int → List (List UInt8)) (s : Nat) (t : TypeId) (C : Array Value) : Prop := ∃ F m rows st, NtJ F w g m rows st ∧ (∀ q, (st q).map (·.2) = S q) ∧ (∀ b, F b → w0.heap.size ≤ b) ∧ Below w0.heap.size w0 w ∧ ¬ F s ∧ Blk w s t C ∧ w0.heap.size ≤ s
section
variable {w0 w w' : World} {g s : Nat} {t : TypeId} {C C' : Array Value} {S : Int × Int → List (List UInt8)}
theorem NtZ.nt (h : NtZ w0 w g S s t C) : NtW w0 w g S := by
  obtain ⟨F, m, rows, st, h1, h2, h3, h4, _⟩ := h
  exact ⟨F, m, rows, st, h1, h2, h3, h4⟩
theorem NtZ.blk (h : NtZ w0 w g S s t C) : Blk w s t C := by
  obtain ⟨F, m, rows, st, h1, h2, h3, h4, h5, h6, h7⟩ := h
  exact h6
theorem NtZ.low (h : NtZ w0 w g S s t C) : w0.heap.size ≤ s := by
  obtain ⟨F, m, rows, st, h1, h2, h3, h4, h5, h6, h7⟩ := h
  exact h7
theorem NtZ.old (h : NtZ w0 w g S s t C) : Below w0.heap.size w0 w := h.nt.old
theorem NtZ.below (h : NtZ w0 w g S s t C) (hb : Below w.heap.size w w') : NtZ w0 w' g S s t C := by
  obtain ⟨F, m, rows, st, h1, h2, h3, h4, h5, h6, h7⟩ := h
  exact ⟨F, m, rows, st, h1.below hb, h2, h3, below_then h4 hb, h5, h6.later hb, h7⟩
theorem NtZ.mk_ (h : NtW w0 w g S) (hb : Below w.heap.size w w') (hk : Blk w' s t C) (hs : w.heap.size ≤ s) : NtZ w0 w' g S s t C := by
  obtain ⟨F, m, rows, st, h1, h2, h3, h4⟩ := h
  exact ⟨F, m, rows, st, h1.below hb, h2, h3, below_then h4 hb, fun h => by have := h1.lt _ h; omega, hk, Nat.le_trans h4.size hs⟩
theorem NtZ.put (h : NtZ w0 w g S s t C) (hk : Blk w' s t C') (hg : w.grownBy w' (some s)) : NtZ w0 w' g S s t C' := by
  obtain ⟨F, m, rows, st, h1, h2, h3, h4, h5, h6, h7⟩ := h
  exact ⟨F, m, rows, st, h1.keep (Chg.of_grown (F := fun b => b = s) hg (fun b e => .inl (by injection e with e; exact e.symm))) (fun b hb e => h5 (e ▸ hb)), h2, h3, h4.grown hg h4.size (fun k hk => by injection hk with hk; omega), h5, hk, h7⟩
theorem nz_Take_ok {i : Nat} {x : List UInt8} (a b : Int) (h : NtZ w0 w g S s t C) (ht : t ≠ 111) (hi : (S (a, b))[i]? = some x) :
    Calls Try.prog 46 #[.pointer (some ⟨g, 0, none⟩), .int .i64 a, .int .i64 b, .int .i64 (i : Int)] w fun e w' => ∃ v, e = .returned (.tuple #[v, .int .i64 0]) ∧ w'.ownsRow 0 5 1 v x.length (bytes8 x) ∧ NtZ w0 w' g (updF S (a, b) ((S (a, b)).eraseIdx i)) s t C := by
  obtain ⟨F, m, rows, st, h1, h2, h3, h4, h5, h6, h7⟩ := h
  obtain ⟨p, hp, rfl⟩ := at_S h2 hi
  refine (net_Take_ok a b h1 hp).mono ?_
  rintro e w' ⟨rfl, V', hJ, ho, hc⟩
  have hS : ∀ q, ((updF st (a, b) ((st (a, b)).eraseIdx i)) q).map (·.2) = updF S (a, b) ((S (a, b)).eraseIdx i) q := fun q => by
    rw [updS h2, ChangeMaps.map_eraseIdx, h2]
  refine ⟨_, rfl, ho, ⟨_, m, _, _, hJ, hS, fun q hq => h3 q hq.1, rowG_low h1 h3 h4 hc, fun hq => h5 hq.1, h6.at_block (hc.at_ h6.lt (fun e => h5 ?_)), h7⟩⟩
  rcases e with e | e
  · subst e; exact h1.fm
  · exact h1.frow _ _ e
end
end Go.Proofs.Ytflamhndmggiaaa
