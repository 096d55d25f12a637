import Derived.Test.YtnbeagcmfcdklaaGreatMap
import Derived.Test.YtnbeagcmfcdklaaGreatSlices
import Derived.Deep.MidRow
import Derived.Carry
import Derived.Deep.QuietTactic
import Derived.Test.YtnbeagcmfcdklaaGreatRegionB
/-! Package disk: what lies in memory, and the walks of New, none, Blocks, Down. -/
namespace Go.Proofs.YtnbeagcmfcdklaaGreat
open Go.RowKit

/-- A disk. -/
structure Dk where
  texts : List (List UInt8)
  bad : Int → Bool
  vers : Int → Option (List UInt8)
  off : Bool
  fuse : Int

/-- Where it lies: the struct, its rows, its two maps; V: the blocks of what it wrote since. -/
structure DkP where
  d : Nat
  gt : Nat
  mb : Nat
  mv : Nat
  V : Nat → Prop

def VerAt (W : World) (V : Nat → Prop) (v : Value) (t : List UInt8) : Prop := ∃ g c, v = .slice (some ⟨g, 0, none⟩) 1 c ∧ 1 ≤ c ∧ V g ∧ W.rangeAt g 0 (t.map bv)

structure DkAt (W : World) (p : DkP) (D : Dk) : Prop where
  cell : Blk W p.d #[.slice (some ⟨p.gt, 0, none⟩) D.texts.length D.texts.length, .map (some p.mb), .map (some p.mv), .bool D.off, .int .i64 D.fuse] 128
  rows : ∀ i t, D.texts[i]? = some t → W.rangeAt p.gt (256 * i) (t.map bv)
  free : ∀ o, W.frozen? ⟨p.gt, o, none⟩ = false
  lens : ∀ t ∈ D.texts, t.length = 256
  pos : 0 < D.texts.length
  most : D.texts.length ≤ 4096
  bads : ∃ es c, MapAt W p.mb encI es c ∧ (∀ k, D.bad k = mhas es k) ∧ ∀ e ∈ es, e.v = .bool true
  vers : ∃ es c, MapAt W p.mv encI es c ∧ (∀ k, (D.vers k).isSome = mhas es k) ∧ ∀ e ∈ es, ∃ t, D.vers e.k = some t ∧ VerAt W p.V e.v t ∧ 0 ≤ e.k ∧ e.k < D.texts.length ∧ t.length = 256
  ne : p.d ≠ p.gt ∧ p.d ≠ p.mb ∧ p.d ≠ p.mv ∧ p.gt ≠ p.mb ∧ p.gt ≠ p.mv ∧ p.mb ≠ p.mv
  low : ¬ p.V p.d ∧ ¬ p.V p.gt ∧ ¬ p.V p.mb ∧ ¬ p.V p.mv
  base : p.d < W.heap.size ∧ p.gt < W.heap.size ∧ p.mb < W.heap.size ∧ p.mv < W.heap.size ∧ ∀ b, p.V b → b < W.heap.size
  fuse : -1 ≤ D.fuse ∧ D.fuse ≤ 9223372036854775807

theorem rangeAt_ext {fp : Nat → Prop} {W W' : World} {b o : Nat} {cs : List Value} (h : W.rangeAt b o cs) (he : Ext fp W W') (hn : ¬ fp b) : W'.rangeAt b o cs := fun j v hv => ext_cell (h j v hv) he hn
theorem frozen_ext {fp : Nat → Prop} {W W' : World} {a : Addr} (he : Ext fp W W') (hl : a.block < W.heap.size) (hn : ¬ fp a.block) : W'.frozen? a = W.frozen? a := World.frozen?_of_block (he.block a.block hl hn)
theorem VerAt.ext {fp : Nat → Prop} {W W' : World} {V : Nat → Prop} {v : Value} {t : List UInt8} (h : VerAt W V v t) (he : Ext fp W W') (hn : ∀ b, fp b → ¬ V b) : VerAt W' V v t := by
  obtain ⟨g, c, rfl, h1, h2, h3⟩ := h
  exact ⟨g, c, rfl, h1, h2, rangeAt_ext h3 he (fun h => hn g h h2)⟩
theorem DkAt.base' {W W' : World} {p : DkP} (h : p.d < W.heap.size ∧ p.gt < W.heap.size ∧ p.mb < W.heap.size ∧ p.mv < W.heap.size ∧ ∀ b, p.V b → b < W.heap.size) (hs : W.heap.size ≤ W'.heap.size) :
    p.d < W'.heap.size ∧ p.gt < W'.heap.size ∧ p.mb < W'.heap.size ∧ p.mv < W'.heap.size ∧ ∀ b, p.V b → b < W'.heap.size :=
  ⟨by omega, by omega, by omega, by omega, fun b hb => by have := h.2.2.2.2 b hb; omega⟩
/-- The blocks that a disk's calls turn; all of its blocks. -/
def DkP.own (p : DkP) (b : Nat) : Prop := b = p.d ∨ b = p.gt ∨ b = p.mb ∨ b = p.mv
def DkP.all (p : DkP) (b : Nat) : Prop := p.own b ∨ p.V b
/-- The disk where only blocks other than its own were turned. -/
theorem DkAt.ext {fp : Nat → Prop} {W W' : World} {p : DkP} {D : Dk} (h : DkAt W p D) (he : Ext fp W W') (h1 : ¬ fp p.d) (h2 : ¬ fp p.gt) (h3 : ¬ fp p.mb) (h4 : ¬ fp p.mv) (hn : ∀ b, fp b → ¬ p.V b) : DkAt W' p D where
  cell := h.cell.ext he h1
  rows := fun i t ht => rangeAt_ext (h.rows i t ht) he h2
  free := fun o => by rw [frozen_ext he h.base.2.1 h2]; exact h.free o
  lens := h.lens
  pos := h.pos
  most := h.most
  bads := by obtain ⟨es, c, hm, hr⟩ := h.bads; exact ⟨es, c, hm.ext he h3, hr⟩
  vers := by
    obtain ⟨es, c, hm, hr, hv⟩ := h.vers
    refine ⟨es, c, hm.ext he h4, hr, fun e hm => ?_⟩
    obtain ⟨t, q1, q2, q3⟩ := hv e hm
    exact ⟨t, q1, q2.ext he hn, q3⟩
  ne := h.ne
  low := h.low
  base := DkAt.base' h.base he.size
  fuse := h.fuse
theorem DkAt.extAll {fp : Nat → Prop} {W W' : World} {p : DkP} {D : Dk} (h : DkAt W p D) (he : Ext fp W W') (hn : ∀ b, fp b → ¬ p.all b) : DkAt W' p D :=
  h.ext he (fun h => hn _ h (.inl (.inl rfl))) (fun h => hn _ h (.inl (.inr (.inl rfl)))) (fun h => hn _ h (.inl (.inr (.inr (.inl rfl))))) (fun h => hn _ h (.inl (.inr (.inr (.inr rfl))))) (fun b h hv => hn b h (.inr hv))
theorem DkAt.lt {W : World} {p : DkP} {D : Dk} (h : DkAt W p D) {b : Nat} (hb : p.all b) : b < W.heap.size := by
  have := h.base
  rcases hb with (rfl | rfl | rfl | rfl) | hb
  · exact this.1
  · exact this.2.1
  · exact this.2.2.1
  · exact this.2.2.2.1
  · exact this.2.2.2.2 b hb
theorem DkAt.keep {W W' : World} {p : DkP} {D : Dk} (h : DkAt W p D) (hb : Below W.heap.size W W') : DkAt W' p D := h.ext (fp := nofp) (Ext.ofBelow hb) id id id id (fun _ h => h.elim)

def Dk.fresh (n : Nat) : Dk := { texts := List.replicate n (List.replicate 256 0), bad := fun _ => false, vers := fun _ => none, off := false, fuse := -1 }

theorem info_text : ((Tryz.prog.info? 161).map (fun i => (i.zero.map (·.cells), i.size, i.bytes))) = some (some (Array.replicate 256 (.int .u8 0)), 256, 256) := by kernel_rfl

theorem run_make_texts (k : Nat) (hk : k ≤ 4096) (w : World) : (Instr.makeSlice 124 (.int .i64 (k : Int)) (.int .i64 (k : Int))).run Tryz.prog w = .ok (.slice (some ⟨w.heap.size, 0, none⟩) k k) (w.alloc (.cells (madeCells (Array.replicate 256 (.int .u8 0)) (k * 256)) 161)) := by
  obtain ⟨i, hi, he⟩ := Option.map_eq_some_iff.1 info_text
  simp only [Prod.mk.injEq, Option.map_eq_some_iff] at he
  obtain ⟨⟨z, hz, hzc⟩, hs, hb⟩ := he
  have h := run_make (P := Tryz.prog) w 124 161 i z Tryz.underlying124 hi hz .i64 .i64 (k : Int) (k : Int) (by omega) (by omega) (by rw [hb]; omega) (by omega)
  rw [hs, hzc] at h
  simpa using h

theorem made_zero (m j : Nat) (h : j < m) : (madeCells (Array.replicate 256 (Value.int .u8 0)) m)[j]? = some (bv 0) := by
  simp [madeCells, h]
  rw [getElem!_pos _ _ (by simp; exact Nat.mod_lt _ (by decide))]
  simp

set_option maxRecDepth 100000 in
set_option maxHeartbeats 800000 in
theorem disk_New (n : Nat) (w : World) (h1 : 1 ≤ n) (h2 : n ≤ 4096) :
    Calls Tryz.prog 50 #[.int .i64 (n : Int)] w fun e w' => ∃ p, e = .returned (.tuple #[.pointer (some ⟨p.d, 0, none⟩), .int .i64 0]) ∧ DkAt w' p (Dk.fresh n) ∧ Below w.heap.size w w' ∧ (∀ b, p.all b → w.heap.size ≤ b) := by
  have hd1 : decide ((n : Int) < 1) = false := by simp; omega
  have hd2 : decide ((n : Int) > 4096) = false := by simp; omega
  have hmk := run_make_texts n h2 w
  obtain ⟨W1, hW1⟩ : ∃ W1, w.alloc (.cells (madeCells (Array.replicate 256 (.int .u8 0)) (n * 256)) 161) = W1 := ⟨_, rfl⟩
  rw [hW1] at hmk
  have hs1 : W1.heap.size = w.heap.size + 1 := by rw [← hW1]; simp
  have hmm := @run_makeMap Tryz.prog
  go_enter Tryz.func50, Tryz.ntmps50
  go_wp2_with fail
  have hW : Below w.heap.size w W1 := by rw [← hW1]; exact (Below.refl _ w).alloc (Nat.le_refl _) _
  have hrow : ∀ j, j < n * 256 → W1.cell? ⟨w.heap.size, j, none⟩ = some (bv 0) := fun j hj => by
    rw [← hW1]; exact (Blk.new w _ _).cell (made_zero _ _ hj)
  have hfr : ∀ o, W1.frozen? ⟨w.heap.size, o, none⟩ = false := fun o => by rw [← hW1]; exact (Blk.new w _ _).free o
  go_ret2
  refine ⟨⟨w.heap.size + 1 + 1 + 1, w.heap.size, w.heap.size + 1, w.heap.size + 1 + 1, fun _ => False⟩, rfl, ?_, ?_, ?_⟩
  · have hx : Below W1.heap.size W1 (((W1.alloc (.map #[] 0)).alloc (.map #[] 0)).alloc (.cells #[.slice (some ⟨w.heap.size, 0, none⟩) n n, .map (some (w.heap.size + 1)), .map (some (w.heap.size + 1 + 1)), .bool false, .int .i64 (-1)] 128)) :=
      ((((Below.refl _ W1).alloc (Nat.le_refl _) _).alloc (by simp) _).alloc (by simp; omega) _)
    constructor
    · rw [Dk.fresh]
      simp only [List.length_replicate]
      exact Blk.new' _ _ (by simp; omega) _ _
    · intro i t ht j v hv
      simp only [Dk.fresh, List.getElem?_replicate] at ht
      split at ht
      · cases ht
        rename_i hi
        simp only [List.map_replicate, List.getElem?_replicate] at hv
        split at hv
        · cases hv
          rename_i hj
          rw [hx.cell (show w.heap.size < W1.heap.size by omega)]
          exact hrow _ (by omega)
        · cases hv
      · cases ht
    · intro o
      have := World.frozen?_of_block (a := ⟨w.heap.size, o, none⟩) (hx.block w.heap.size (by omega))
      exact this.trans (hfr o)
    · intro t ht
      simp only [Dk.fresh, List.mem_replicate] at ht
      rw [ht.2]; simp
    · simp only [Dk.fresh, List.length_replicate]; omega
    · simp only [Dk.fresh, List.length_replicate]; omega
    · refine ⟨[], 0, ?_, fun k => rfl, fun e he => by simp at he⟩
      have := (MapAt.new W1 encI).keep (w' := ((W1.alloc (.map #[] 0)).alloc (.map #[] 0)).alloc (.cells #[.slice (some ⟨w.heap.size, 0, none⟩) n n, .map (some (w.heap.size + 1)), .map (some (w.heap.size + 1 + 1)), .bool false, .int .i64 (-1)] 128)) (((Below.refl _ _).alloc (Nat.le_refl _) _).alloc (by simp) _)
      rw [hs1] at this
      exact this
    · refine ⟨[], 0, ?_, fun k => rfl, fun e he => by simp at he⟩
      have := (MapAt.new (W1.alloc (.map #[] 0)) encI).keep (w' := ((W1.alloc (.map #[] 0)).alloc (.map #[] 0)).alloc (.cells #[.slice (some ⟨w.heap.size, 0, none⟩) n n, .map (some (w.heap.size + 1)), .map (some (w.heap.size + 1 + 1)), .bool false, .int .i64 (-1)] 128)) ((Below.refl _ _).alloc (Nat.le_refl _) _)
      rw [World.size_alloc, hs1] at this
      exact this
    · simp; omega
    · exact ⟨id, id, id, id⟩
    · refine ⟨?_, ?_, ?_, ?_, fun b hb => hb.elim⟩
      all_goals simp
      all_goals omega
    · simp [Dk.fresh]
  · exact ((hW.alloc (by omega) _).alloc (by simp; omega) _).alloc (by simp; omega) _
  · rintro b ((hb | hb | hb | hb) | hb)
    · simp at hb; omega
    · simp at hb; omega
    · simp at hb; omega
    · simp at hb; omega
    · exact hb.elim

section
variable {W : World} {p : DkP} {D : Dk}

set_option maxHeartbeats 800000 in
theorem disk_none (h : DkAt W p D) : Calls Tryz.prog 86 #[.pointer (some ⟨p.d, 0, none⟩)] W fun e w' => e = .returned (.bool false) ∧ w' = W := by
  have c0 := h.cell.cell (o := 0) rfl
  have hd0 : ¬ ((D.texts.length : Int) = 0) := by have := h.pos; omega
  have hd : decide ((D.texts.length : Int) = 0) = false := decide_eq_false hd0
  have hd2 : ((D.texts.length : Int) == 0) = false := beq_eq_false_iff_ne.2 hd0
  go_enter Tryz.func86, Tryz.ntmps86
  go_wp2_with fail
  go_ret
  exact ⟨rfl, rfl⟩

set_option maxHeartbeats 800000 in
theorem disk_Blocks (h : DkAt W p D) : Calls Tryz.prog 99 #[.pointer (some ⟨p.d, 0, none⟩)] W fun e w' => e = .returned (.int .i64 (D.texts.length : Int)) ∧ w' = W := by
  go_enter Tryz.func99, Tryz.ntmps99
  go_wp2_with fail
  refine (disk_none h).mono ?_
  rintro e W1 ⟨rfl, rfl⟩
  have c0 := h.cell.cell (o := 0) rfl
  go_wp2_with fail
  go_ret
  exact ⟨rfl, rfl⟩

set_option maxHeartbeats 800000 in
theorem disk_Down (h : DkAt W p D) : Calls Tryz.prog 100 #[.pointer (some ⟨p.d, 0, none⟩)] W fun e w' => e = .returned (.bool D.off) ∧ w' = W := by
  go_enter Tryz.func100, Tryz.ntmps100
  go_wp2_with fail
  refine (disk_none h).mono ?_
  rintro e W1 ⟨rfl, rfl⟩
  have c3 := h.cell.cell (o := 3) rfl
  go_wp2_with fail
  go_ret
  exact ⟨rfl, rfl⟩
end

end Go.Proofs.YtnbeagcmfcdklaaGreat

/-! Package disk, on: operation, Cut. -/
namespace Go.Proofs.YtnbeagcmfcdklaaGreat
open Go.RowKit

theorem DkAt.recell {W W' : World} {p : DkP} {D : Dk} (h : DkAt W p D) (he : Ext (fun b => b = p.d) W W') (off : Bool) (fuse : Int) (hf : -1 ≤ fuse ∧ fuse ≤ 9223372036854775807)
    (hc : Blk W' p.d #[.slice (some ⟨p.gt, 0, none⟩) D.texts.length D.texts.length, .map (some p.mb), .map (some p.mv), .bool off, .int .i64 fuse] 128) : DkAt W' p { D with off := off, fuse := fuse } where
  cell := hc
  rows := fun i t ht => rangeAt_ext (h.rows i t ht) he (Ne.symm h.ne.1)
  free := fun o => by rw [frozen_ext he h.base.2.1 (Ne.symm h.ne.1)]; exact h.free o
  lens := h.lens
  pos := h.pos
  most := h.most
  bads := by obtain ⟨es, c, hm, hr⟩ := h.bads; exact ⟨es, c, hm.ext he (Ne.symm h.ne.2.1), hr⟩
  vers := by
    obtain ⟨es, c, hm, hr, hv⟩ := h.vers
    refine ⟨es, c, hm.ext he (Ne.symm h.ne.2.2.1), hr, fun e hm => ?_⟩
    obtain ⟨t, q1, q2, q3⟩ := hv e hm
    exact ⟨t, q1, q2.ext he (fun b hb => by rw [hb]; exact h.low.1), q3⟩
  ne := h.ne
  low := h.low
  base := DkAt.base' h.base he.size
  fuse := hf

/-- The fuse behind an operation that is done. -/
def Dk.spent (D : Dk) : Dk := { D with fuse := if 0 < D.fuse then D.fuse - 1 else D.fuse }
/-- The disk behind one that is not. -/
def Dk.fail (D : Dk) : Dk := if D.off then D else { D with off := true, fuse := -1 }
def Dk.goes (D : Dk) : Bool := !D.off && !(D.fuse == 0)

section
variable {W : World} {p : DkP} {D : Dk}

set_option maxHeartbeats 800000 in
theorem disk_operation (h : DkAt W p D) (hg : D.goes = true) (f : Nat) (caps : Array Value) (eg : ∀ args w, (callFunc f args).run Tryz.prog w = .ok (.enter f args) w) (R : World → Prop)
    (hdo : ∀ W1, DkAt W1 p D.spent → Ext (fun b => b = p.d) W W1 → Calls Tryz.prog f caps W1 (fun e w' => (∃ v, e = .returned v) ∧ R w')) :
    Calls Tryz.prog 132 #[.pointer (some ⟨p.d, 0, none⟩), .func (.func f) #[] caps] W fun e w' => e = .returned (.int .i64 0) ∧ R w' := by
  have hoff : D.off = false := by simp [Dk.goes] at hg; exact hg.1
  have hf0 : ¬ D.fuse = 0 := by simp [Dk.goes] at hg; exact hg.2
  have c3 := h.cell.cell (o := 3) rfl
  have c4 := h.cell.cell (o := 4) rfl
  have f4 := h.cell.free 4
  rw [hoff] at c3
  have hd : decide (D.fuse = 0) = false := decide_eq_false hf0
  have hfu := h.fuse
  by_cases hpos : 0 < D.fuse
  · have hx : Ext (fun b => b = p.d) W (W.setCell ⟨p.d, 4, none⟩ (.int .i64 (D.fuse - 1))) := (Ext.refl (fun b => b = p.d) W).setCell (a := ⟨p.d, 4, none⟩) (.inl rfl) _
    have hD : DkAt (W.setCell ⟨p.d, 4, none⟩ (.int .i64 (D.fuse - 1))) p D.spent := by
      unfold Dk.spent
      rw [if_pos hpos]
      have := h.recell hx D.off (D.fuse - 1) (by omega) (by have := h.cell.set (o := 4) (.int .i64 (D.fuse - 1)); simpa using this)
      exact this
    have hC := hdo _ hD hx
    go_enter Tryz.func132, Tryz.ntmps132
    go_wp2_with fail
    refine hC.mono ?_
    rintro e W2 ⟨⟨v, rfl⟩, hr⟩
    go_wp2_with fail
    go_ret
    exact ⟨rfl, hr⟩
  · have hD : DkAt W p D.spent := by
      unfold Dk.spent
      rw [if_neg hpos]
      exact h
    have hC := hdo W hD (Ext.refl _ _)
    go_enter Tryz.func132, Tryz.ntmps132
    go_wp2_with fail
    refine hC.mono ?_
    rintro e W2 ⟨⟨v, rfl⟩, hr⟩
    go_wp2_with fail
    go_ret
    exact ⟨rfl, hr⟩

theorem DkAt.same {D' : Dk} (h : DkAt W p D) (e : D = D') : DkAt W p D' := e ▸ h

set_option maxHeartbeats 800000 in
theorem disk_operation_fails (h : DkAt W p D) (hg : D.goes = false) (f : Nat) (caps : Array Value) :
    Calls Tryz.prog 132 #[.pointer (some ⟨p.d, 0, none⟩), .func (.func f) #[] caps] W fun e w' => e = .returned (.int .i64 8) ∧ DkAt w' p D.fail ∧ Ext (fun b => b = p.d) W w' := by
  have c3 := h.cell.cell (o := 3) rfl
  have c4 := h.cell.cell (o := 4) rfl
  have f4 := h.cell.free 4
  have f3 := h.cell.free 3
  cases hoff : D.off
  · have hf0 : D.fuse = 0 := by simpa [Dk.goes, hoff] using hg
    rw [hoff] at c3
    rw [hf0] at c4
    have hx : Ext (fun b => b = p.d) W ((W.setCell ⟨p.d, 3, none⟩ (.bool true)).setCell ⟨p.d, 4, none⟩ (.int .i64 (-1))) := ((Ext.refl (fun b => b = p.d) W).setCell (a := ⟨p.d, 3, none⟩) (.inl rfl) _).setCell (a := ⟨p.d, 4, none⟩) (.inl rfl) _
    have hD : DkAt ((W.setCell ⟨p.d, 3, none⟩ (.bool true)).setCell ⟨p.d, 4, none⟩ (.int .i64 (-1))) p D.fail := by
      unfold Dk.fail
      rw [hoff]
      have := h.recell hx true (-1) (by omega) (by have := (h.cell.set (o := 3) (.bool true)).set (o := 4) (.int .i64 (-1)); simpa using this)
      exact this
    have c3' : (W.setCell ⟨p.d, 3, none⟩ (.bool true)).cell? ⟨p.d, 4, none⟩ = some (.int .i64 0) := by rw [World.cell?_setCell_other _ _ _ _ (by simp)]; exact c4
    have f3' : (W.setCell ⟨p.d, 3, none⟩ (.bool true)).frozen? ⟨p.d, 4, none⟩ = false := (h.cell.set (o := 3) (.bool true)).free 4
    have c5 := hD.cell.cell (o := 3) rfl
    rw [show D.fail.off = true by simp [Dk.fail, hoff]] at c5
    generalize hW2 : (W.setCell ⟨p.d, 3, none⟩ (.bool true)).setCell ⟨p.d, 4, none⟩ (.int .i64 (-1)) = W2 at *
    go_enter Tryz.func132, Tryz.ntmps132
    go_wp2_with fail
    go_ret
    exact ⟨rfl, hD, hx⟩
  · rw [hoff] at c3
    have hD : DkAt W p D.fail := by
      unfold Dk.fail
      rw [hoff]
      exact h
    go_enter Tryz.func132, Tryz.ntmps132
    go_wp2_with fail
    go_ret
    exact ⟨rfl, hD, Ext.refl _ _⟩
end

end Go.Proofs.YtnbeagcmfcdklaaGreat
