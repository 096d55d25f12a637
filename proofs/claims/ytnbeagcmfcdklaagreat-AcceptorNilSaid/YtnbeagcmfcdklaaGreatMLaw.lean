import Derived.Test.YtnbeagcmfcdklaaGreatMLAccK
import Derived.Test.YtnbeagcmfcdklaaGreatRows
import Derived.Test.YtnbeagcmfcdklaaGreatBase
import Derived.ProofKit
import Derived.OpenShut
/-! gazettelaw08.AcceptorNil. -/
namespace Go.Proofs.YtnbeagcmfcdklaaGreat
open Go.RowKit

/-- No acceptor, or one that nobody made. -/
def NoAcc (W : World) (v : Value) : Prop := v = .pointer none ∨ ∃ g, v = .pointer (some ⟨g, 0, none⟩) ∧ W.cell? ⟨g, 0, none⟩ = some (.pointer none) ∧ W.cell? ⟨g, 1, none⟩ = some (.pointer none)

section
variable {W : World} {v : Value}
set_option maxHeartbeats 800000 in
theorem nac_none (h : NoAcc W v) : Calls Tryz.prog 58 #[v] W fun e w' => e = .returned (.bool true) ∧ w' = W := by
  rcases h with rfl | ⟨g, rfl, hc, hd⟩
  · go_enter Tryz.func58, Tryz.ntmps58
    go_wp2_with fail
    go_ret
    exact ⟨rfl, rfl⟩
  · go_enter Tryz.func58, Tryz.ntmps58
    go_wp2_with fail
    go_ret
    exact ⟨rfl, rfl⟩
set_option maxHeartbeats 800000 in
theorem nac_Up (h : NoAcc W v) : Calls Tryz.prog 33 #[v] W fun e w' => e = .returned (.bool false) ∧ w' = W := by
  rcases h with rfl | ⟨g, rfl, hc, hd⟩
  · go_enter Tryz.func33, Tryz.ntmps33
    go_wp2_with fail
    go_ret
    exact ⟨rfl, rfl⟩
  · go_enter Tryz.func33, Tryz.ntmps33
    go_wp2_with fail
    go_ret
    exact ⟨rfl, rfl⟩
set_option maxHeartbeats 800000 in
theorem nac_Cut (h : NoAcc W v) (k : Int) : Calls Tryz.prog 29 #[v, .int .i64 k] W fun e w' => (∃ x, e = .returned x) ∧ w' = W := by
  go_enter Tryz.func29, Tryz.ntmps29
  go_wp2_with fail
  refine (nac_none h).mono ?_
  rintro e W1 ⟨rfl, hw⟩
  rw [hw]
  clear hw W1
  go_wp2_with fail
  go_end0
  exact ⟨⟨_, rfl⟩, rfl⟩
set_option maxHeartbeats 800000 in
theorem nac_Stop (h : NoAcc W v) : Calls Tryz.prog 30 #[v] W fun e w' => (∃ x, e = .returned x) ∧ w' = W := by
  go_enter Tryz.func30, Tryz.ntmps30
  go_wp2_with fail
  refine (nac_none h).mono ?_
  rintro e W1 ⟨rfl, hw⟩
  rw [hw]
  clear hw W1
  go_wp2_with fail
  go_end0
  exact ⟨⟨_, rfl⟩, rfl⟩
set_option maxHeartbeats 800000 in
theorem nac_Ask (h : NoAcc W v) (a : Option Addr) (n c : Nat) : Calls Tryz.prog 31 #[v, .slice a n c] W fun e w' => e = .returned (.slice none 0 0) ∧ w' = W := by
  go_enter Tryz.func31, Tryz.ntmps31
  go_wp2_with fail
  refine (nac_Up h).mono ?_
  rintro e W1 ⟨rfl, hw⟩
  rw [hw]
  clear hw W1
  go_wp2_with fail
  go_ret
  exact ⟨rfl, rfl⟩
set_option maxHeartbeats 800000 in
theorem nac_Start (h : NoAcc W v) (a : Option Addr) (n c : Nat) : Calls Tryz.prog 32 #[v, .slice a n c] W fun e w' => e = .returned (.int .i64 1) ∧ w' = W := by
  go_enter Tryz.func32, Tryz.ntmps32
  go_wp2_with fail
  refine (nac_none h).mono ?_
  rintro e W1 ⟨rfl, hw⟩
  rw [hw]
  clear hw W1
  go_wp2_with fail
  go_ret
  exact ⟨rfl, rfl⟩
end

set_option maxRecDepth 100000 in
set_option maxHeartbeats 12800000 in
theorem law_accNil (a0 : Option Addr) (n0 c0 : Nat) (a1 : Option Addr) (n1 c1 : Nat) (W : World) :
    Calls Tryz.prog 7 #[.slice a0 n0 c0, .slice a1 n1 c1] W fun e W' => e = .returned (.bool true) ∧ Below W.heap.size W W' := by
  go_enter Tryz.func7, Tryz.ntmps7
  go_wp2_with fail
  go_loopw [5, 6] (fun s i wr => ∃ j : Nat, j ≤ 2 ∧ i = .int .i64 (j : Int) ∧ NoAcc wr s ∧ Below W.heap.size W wr) (fun _ i _ => 2 - (intOf i).toNat)
  case atStart => exact ⟨0, by omega, rfl, .inl rfl, Below.refl _ _⟩
  case round =>
    obtain ⟨j, hj, rfl, hN, hBr⟩ := hrel
    by_cases hlt : j < 2
    · have hd : decide ((j : Int) < 2) = true := decide_eq_true (by omega)
      have HN := hid hN
      have HB := hid hBr
      clear hN hBr
      go_wp2_with fail
      refine (nac_Cut HN.out 1).mono ?_
      rintro e Wx ⟨⟨x1, rfl⟩, hw⟩
      rw [hw]
      clear hw Wx
      go_wp2_with fail
      refine (nac_Stop HN.out).mono ?_
      rintro e Wx ⟨⟨x2, rfl⟩, hw⟩
      rw [hw]
      clear hw Wx
      go_wp2_with fail
      refine (nac_Ask HN.out a0 n0 c0).mono ?_
      rintro e Wx ⟨rfl, hw⟩
      rw [hw]
      clear hw Wx
      go_wp2_with fail
      refine (nac_Start HN.out a1 n1 c1).mono ?_
      rintro e Wx ⟨rfl, hw⟩
      rw [hw]
      clear hw Wx
      go_wp2_with fail
      refine (law8_num _ _).mono ?_
      rintro e Wx ⟨rfl, hw⟩
      rw [hw]
      clear hw Wx
      go_wp2_with fail
      refine (nac_Up HN.out).mono ?_
      rintro e Wx ⟨rfl, hw⟩
      rw [hw]
      clear hw Wx
      go_wp2_with fail
      go_roundw
      case rel => exact ⟨j + 1, by omega, by go_num, .inr ⟨_, rfl, (Blk.new _ _ _).cell rfl, (Blk.new _ _ _).cell rfl⟩, HB.out.alloc HB.out.size _⟩
      case measure => simp [intOf]; omega
    · obtain rfl : j = 2 := by omega
      go_wp2_with fail
      refine (law8_knows _).mono ?_
      rintro e Wk ⟨rfl, bk⟩
      go_wp2_with fail
      go_ret
      exact ⟨rfl, hBr.trans (bk.mono hBr.size)⟩
end Go.Proofs.YtnbeagcmfcdklaaGreat

/-! From a law's contract (it returns true; nothing that was there has turned) to the row. -/
namespace Go.Proofs.YtnbeagcmfcdklaaGreat
open Go.ChangeShapes Go.WideShapes Go.ChangeAt Go.RowKit

theorem law_own : ownKnob Tryz.prog.godebug = none := by kernel_rfl
theorem law_laid : laidOutB Tryz.prog = true := by kernel_rfl
theorem cells_int : Tryz.prog.cellsOf 3 = 1 := by kernel_rfl

theorem all_stay {H : Type} {enc : TypeId × Value → H} {W W' : World} (hb : Below W.heap.size W W') : ∀ (ts : List TypeId) (vs : List Value) (ds : List (DataW H)) (ps : List MemPlace),
    (∀ t ∈ ts, Tryz.prog.readableRec t = true ∧ t < Tryz.prog.types.size) → DataW.TrodAll enc Tryz.prog W 0 (fun _ => true) true ts vs ds ps → (∀ x ∈ ps, x.block < W.heap.size) →
    DataW.TrodAll enc Tryz.prog W' 0 (fun b => decide (b < W.heap.size)) true ts vs ds ps
  | [], vs, ds, ps, _, h, _ => by
    obtain ⟨rfl, rfl, rfl⟩ := trodAll_nil h
    exact trodAll_mk0
  | t :: ts, vs, ds, ps, hr, h, hlt => by
    obtain ⟨v, vs', d, ds', p, q, rfl, rfl, rfl, h1, h2⟩ := trodAll_cons h
    have ht := hr t List.mem_cons_self
    refine trodAll_cons_mk (Below.trod law_laid ht.1 ht.2 h1 hb (fun x hx => hlt x (List.mem_append_left _ hx))) ?_
    exact all_stay hb ts vs' ds' q (fun t' h' => hr t' (List.mem_cons_of_mem _ h')) h2 (fun x hx => hlt x (List.mem_append_right _ hx))

theorem law_post {H : Type} {enc : TypeId × Value → H} {s : ChangeSpec} {f : Func} {W W' : World} {args : Array Value} {ds gs : List (DataW H)} {before : List MemPlace} (hv : s.vars = []) (hrt : f.resultTypes = #[4])
    (hr : ∀ t ∈ f.params.toList, Tryz.prog.readableRec t = true ∧ t < Tryz.prog.types.size) (hW : DataW.Whole enc Tryz.prog f.params.toList s.vars false W args.toList ds gs before)
    (hfn : s.fn H (ds ++ gs) = { results := [.lit (.bool true)], args := ds }) (hb : Below W.heap.size W W') : s.post enc Tryz.prog f false true false false W args (.bool true) W' := by
  have hW' := hW
  obtain ⟨p, q, hA, hV, rfl, _, _⟩ := hW
  rw [hv] at hV
  obtain ⟨rfl, rfl⟩ := trodVars_none hV
  refine ⟨ds, [], p ++ [], [], p, [], hW', ?_, ?_, ?_, hb.frame _, fun h => by cases h⟩
  · rw [hfn, hrt]
    exact trodAll_mk1 (shut_bool Tryz.underlying4 _)
  · rw [hfn]
    exact all_stay hb _ _ _ _ hr hA (fun x hx => hW'.lt x (List.mem_append_left _ hx))
  · rw [hfn, hv]
    rfl

set_option maxRecDepth 100000 in
theorem wf_i64_bounds {n : Int} (h : (Lit.int .i64 n).wf = true) : -9223372036854775808 ≤ n ∧ n ≤ 9223372036854775807 := by
  have e1 : IntKind.i64.min = -9223372036854775808 := rfl
  have e2 : IntKind.i64.max = 9223372036854775807 := rfl
  simpa [Lit.wf, e1, e2] using h

/-- Ints that can be read from a slice on. -/
def Is (w : World) (v : Value) (l : List Int) : Prop := ∃ a c, v = .slice a l.length c ∧ ∀ i x, l[i]? = some x → ∃ g o, a = some ⟨g, o, none⟩ ∧ w.cell? ⟨g, o + i, none⟩ = some (.int .i64 x)
theorem Is.keep {w w' : World} {v : Value} {l : List Int} (h : Is w v l) (hb : Below w.heap.size w w') : Is w' v l := by
  obtain ⟨a, c, rfl, hr⟩ := h
  refine ⟨a, c, rfl, fun i x hi => ?_⟩
  obtain ⟨g, o, e, hc⟩ := hr i x hi
  exact ⟨g, o, e, by rw [hb.cell (World.block_lt_of_cell? w _ hc)]; exact hc⟩

theorem add_spot {w : World} {a : Addr} {v : Value} (h : w.cell? (a.add 0) = some v) : a.spot = none := by
  simpa [Addr.add] using World.cell?_spot h

set_option maxRecDepth 100000 in
theorem open_Is {H : Type} {enc : TypeId × Value → H} {W : World} {v : Value} {d : DataW H} {p : List MemPlace} {t : TypeId} (ht : Tryz.prog.underlying t = some (.slice 3)) (hval : Value.okWide Tryz.prog W .any 0 t v)
    (h : DataW.Trod enc Tryz.prog W 0 (fun _ => true) true t v d p) : ∃ l, Is W v l ∧ l.length ≤ 9223372036854775807 ∧ ∀ x ∈ l, -9223372036854775808 ≤ x ∧ x ≤ 9223372036854775807 := by
  obtain ⟨a0, len, cap, rfl⟩ := okWide_slice ht hval
  obtain ⟨fuel, hf⟩ := h
  rcases open_ints ht Tryz.underlying3 cells_int hf with ⟨hcs, hx⟩ | ⟨a, len', cap', zs, hcs, _, hl, hm, hz, hx, hcell, hwz⟩
  · simp [Value.cells] at hcs
    obtain ⟨rfl, rfl, rfl⟩ := hcs
    exact ⟨[], ⟨none, 0, rfl, fun i x h => by simp at h⟩, by simp, fun x h => by simp at h⟩
  · simp [Value.cells] at hcs
    obtain ⟨rfl, rfl, rfl⟩ := hcs
    simp only [if_true] at hz
    have hlen : (zs.take len).length = len := by simp; omega
    refine ⟨zs.take len, ⟨some a, cap, by rw [hlen], fun i x hi => ?_⟩, ?_, fun x hx => wf_i64_bounds (hwz x (List.mem_of_mem_take hx))⟩
    · rw [List.getElem?_take] at hi
      split at hi
      · have hlt : i < zs.length := by omega
        have hc := hcell i hlt
        have ha := add_spot (hcell 0 (by omega))
        obtain ⟨b, o, s⟩ := a
        simp only at ha
        subst ha
        rw [add_plain] at hc
        refine ⟨b, o, rfl, ?_⟩
        rw [hc, List.getD_eq_getElem?_getD, hi]
        rfl
      · cases hi
    · unfold maxLen at hm
      omega
end Go.Proofs.YtnbeagcmfcdklaaGreat
