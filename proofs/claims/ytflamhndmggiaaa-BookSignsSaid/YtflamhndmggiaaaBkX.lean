
/-
  The statements of layer 5: wakes.
-/
import Derived.Test.YtflamhndmggiaaaBkW
import Derived.Lib.SlBytesConst
namespace Go.Proofs.Ytflamhndmggiaaa
open Go.RowKit

theorem Sl.const (w : World) (t : TypeId) (u : Value) (fr : Nat × Nat) : Sl (w.alloc (.cells #[u] t fr)) 1 (some ⟨w.heap.size, 0, none⟩) 1 [u] := by
  refine ⟨rfl, fun _ => ⟨w.heap.size, 0, rfl, by simp, fun j v hv => ?_⟩⟩
  have h := heap_alloc_new w (.cells #[u] t fr)
  rw [Nat.zero_add]
  refine (cell_of_row _ w.heap.size j _ _ _ h).trans ?_
  match j, hv with
  | 0, hv => simpa using hv
/-- What a law's walk keeps of a book. -/
structure BkW (w0 : World) (G : Nat → Prop) (w : World) (g : Nat) (L : List (List UInt8)) (sg : Int × Int → Bool) : Prop where
  bk : BkI G w g L sg
  lo : ∀ b, G b → w0.heap.size ≤ b
  below : Below w0.heap.size w0 w
theorem BkW.next {w0 : World} {G : Nat → Prop} {w w' : World} {g : Nat} {L L' : List (List UInt8)} {sg sg' : Int × Int → Bool} (h : BkW w0 G w g L sg) (hn : BkN G g L' sg' w w') : ∃ G', BkW w0 G' w' g L' sg' ∧ ∀ b, G' b → G b ∨ w.heap.size ≤ b := by
  obtain ⟨G', h1, h2, h3⟩ := hn
  have hs := h.below.size
  refine ⟨G', ⟨h1, fun b hb => ?_, h.below.trans (h3.to_below h.lo hs)⟩, h2⟩
  rcases h2 b hb with hb | hb
  · exact h.lo b hb
  · omega
theorem BkW.step {w0 : World} {G : Nat → Prop} {w w' : World} {g : Nat} {L : List (List UInt8)} {sg : Int × Int → Bool} (h : BkW w0 G w g L sg) (hb : Below w.heap.size w w') : BkW w0 G w' g L sg :=
  ⟨h.bk.below hb, h.lo, below_then h.below hb⟩
theorem BkW.drewN {w0 : World} {G : Nat → Prop} {w : World} {g : Nat} {L : List (List UInt8)} {sg : Int × Int → Bool} (h : BkW w0 G w g L sg) (q : Nat) : BkW w0 G (w.drewN q) g L sg := ⟨h.bk.drewN q, h.lo, below_drewN h.below q⟩
theorem notG_old {G : Nat → Prop} {w : World} {A : Option Addr} {n : Nat} {cs : List Value} (hs : Sl w 1 A n cs) (hlo : ∀ b, G b → w.heap.size ≤ b) : 0 < n → ∀ b off, A = some ⟨b, off, none⟩ → ¬ G b := fun hn b off e hg => by
  obtain ⟨b', off', e', hb, _⟩ := hs.2 hn
  rw [e] at e'
  injection e' with e'
  injection e' with e1 _
  have := hlo b hg
  omega
theorem notG_own {G : Nat → Prop} {w : World} {B n m : Nat} {e : TypeId} {A : Option Addr} {c : Nat} {cs : List Value} (ho : w.ownsRow B e 1 (.slice A m c) n cs) (hlt : ∀ b, G b → b < B) : 0 < m → ∀ b off, A = some ⟨b, off, none⟩ → ¬ G b := fun _ b off e hg => by
  have h1 := hlt b hg
  have h2 := (ho.lt b (by rw [e]; rfl)).1
  omega
theorem quiet_one {P : Program} {f : FuncId} {args : Array Value} {w : World} {n : Nat} {v : Value} (h : Calls P f args (w.drewN n) fun e w' => e = .returned v ∧ ∃ q, w' = (w.drewN n).drewN q) :
    Calls P f args (w.drewN n) fun e w'' => e = .returned v ∧ ∃ m, w'' = w.drewN m :=
  h.mono fun _ _ ⟨he, q, hm⟩ => ⟨he, n + q, by rw [hm, World.drewN_drewN]⟩
/-- Bytes of a new block are no book's. -/
theorem not_G_new {G : Nat → Prop} {w : World} {g : Nat} {L : List (List UInt8)} {sg : Int × Int → Bool} (h : BkI G w g L sg) {A : Option Addr} {B : Nat} (hA : ∀ b off, A = some ⟨b, off, none⟩ → w.heap.size ≤ b) : ∀ b off, A = some ⟨b, off, none⟩ → ¬ G b := fun b off e hg => by
  have := h.lt b hg
  have := hA b off e
  omega
set_option maxRecDepth 100000 in
set_option maxHeartbeats 1000000 in
theorem law5_wakes (w : World) : Calls Try.prog 21 #[] w fun e w' => e = .returned (.bool true) ∧ Below w.heap.size w w' := by
  have kc := fun (w : World) (C : Array Value) (n c : Nat) => Lib.run_convert_bytes_const (P := Try.prog) w 28 5 C n c Try.underlying28 Try.underlying5
  go_enter Try.func21, Try.ntmps21
  go_wp2_with fail
  refine (book_New _).mono ?_
  rintro e w1 ⟨g, G, rfl, hB, hlo, hb⟩
  have HBW := hide (BkW.mk hB hlo hb)
  clear hB hlo hb
  go_wp2_with fail
  have HS := hide (Sl.const w1 5 (.int .u8 97) (1, 2))
  have HB2 := hide (HBW.out.step ((Below.refl _ _).alloc (Nat.le_refl _) (.cells #[.int .u8 97] 5 (1, 2))))
  refine (book_Digest (x := [97]) (n := 1) _ HB2.out.bk HS.out (by show 1 ≤ 1048576; omega) (by show 0 ≤ 65535; omega) (fun _ b off e hg => by
    have h1 := HBW.out.bk.lt b hg
    injection e with e
    injection e with e1 _
    omega) rfl rfl).mono ?_
  rintro e w2 ⟨rfl, hn⟩
  obtain ⟨G2, HB3, _⟩ := HB2.out.next hn
  have HB3 := hide HB3
  have CC := hide (book_Count _ HB3.out.bk)
  clear hn HB2 HS
  have e1 : digN [] [97] = 1 := rfl
  have e2 : addL [] [97] = [[97]] := rfl
  rw [e2] at CC
  go_wp2_with fail
  refine (law5_num _ _).mono ?_
  rintro e w' ⟨rfl, rfl⟩
  go_wp2_with fail
  refine CC.out.mono ?_
  rintro e w' ⟨rfl, rfl⟩
  go_wp2_with fail
  go_ret
  exact ⟨rfl, HB3.out.below⟩
end Go.Proofs.Ytflamhndmggiaaa
