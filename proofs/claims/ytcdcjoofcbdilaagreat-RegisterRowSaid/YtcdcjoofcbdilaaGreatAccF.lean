import Derived.Test.YtcdcjoofcbdilaaGreatAccG
import Derived.Lib.ConvBytes
/-! Package acceptor: prepare, accept, learn, told. -/
namespace Go.Proofs.YtcdcjoofcbdilaaGreat
open Go.RowKit

theorem size_fact : (Tryz.prog.info? 178).map (·.size) = some 4 := by kernel_rfl
def Fa.cells (f : Fa) : Array Value := #[.int .i64 f.pr, .int .i64 f.ba, .bool f.le, .string ⟨f.va.toArray⟩]

set_option maxRecDepth 100000 in
set_option maxHeartbeats 3200000 in
theorem acc_prepare (f : Fa) (k key ver bal : Int) (v : Value) (b : List UInt8) (W : World) (hv : Bs W v b) :
    Calls Tryz.prog 103 #[.agg f.cells, .agg #[.int .i64 k, .int .i64 key, .int .i64 ver, .int .i64 bal, v]] W fun e w' => e = .returned (.tuple #[.agg (doA 1 f bal b).1.cells, .int .i64 (doA 1 f bal b).2]) ∧ Below W.heap.size W w' := by
  obtain ⟨fp, fb, fl, fv⟩ := f
  unfold Fa.cells
  dsimp only
  obtain ⟨a0, c0, rfl⟩ := hv.form
  obtain ⟨W1, hW1⟩ : ∃ W1, W.alloc (.cells #[.int .i64 fp, .int .i64 fb, .bool fl, .string ⟨fv.toArray⟩] 178) = W1 := ⟨_, rfl⟩
  have b1 : Below W.heap.size W W1 := by rw [← hW1]; exact (Below.refl _ W).alloc (Nat.le_refl _) _
  have kf : Blk W1 W.heap.size #[.int .i64 fp, .int .i64 fb, .bool fl, .string ⟨fv.toArray⟩] 178 := by rw [← hW1]; exact Blk.new W _ _
  obtain ⟨W2, hW2⟩ : ∃ W2, W1.alloc (.cells #[.int .i64 k, .int .i64 key, .int .i64 ver, .int .i64 bal, .slice a0 b.length c0] 48) = W2 := ⟨_, rfl⟩
  have b2 : Below W1.heap.size W1 W2 := by rw [← hW2]; exact (Below.refl _ W1).alloc (Nat.le_refl _) _
  have kq : Blk W2 W1.heap.size #[.int .i64 k, .int .i64 key, .int .i64 ver, .int .i64 bal, .slice a0 b.length c0] 48 := by rw [← hW2]; exact Blk.new W1 _ _
  obtain ⟨W3, hW3⟩ : ∃ W3, W2.alloc (.cells #[.int .i64 0, .int .i64 0, .bool false, .string ⟨#[]⟩] 178) = W3 := ⟨_, rfl⟩
  have b3 : Below W2.heap.size W2 W3 := by rw [← hW3]; exact (Below.refl _ W2).alloc (Nat.le_refl _) _
  have kr : Blk W3 W2.heap.size #[.int .i64 0, .int .i64 0, .bool false, .string ⟨#[]⟩] 178 := by rw [← hW3]; exact Blk.new W2 _ _
  have hs1 := kf.lt
  have hs2 := kq.lt
  have kf := (kf.keep b2).keep b3
  have kq := kq.keep b3
  have bW := (b1.trans (b2.mono b1.size)).trans (b3.mono (Nat.le_trans b1.size b2.size))
  have hv3 := hv.keep bW
  have hsz1 := b1.size
  have hsz2 := b2.size
  clear hv b1 b2 b3
  have x0 := kf.cell (o := 0) rfl
  have x1 := kf.cell (o := 1) rfl
  have x2 := kf.cell (o := 2) rfl
  have x3 := kf.cell (o := 3) rfl
  have y3 := kq.cell (o := 3) rfl
  have y4 := kq.cell (o := 4) rfl
  by_cases h : bal ≤ fp
  · have hd : decide (bal ≤ fp) = true := decide_eq_true h
    have hdo : doA 1 ⟨fp, fb, fl, fv⟩ bal b = (⟨fp, fb, fl, fv⟩, 34) := by simp [doA, h]
    rw [hdo]
    clear hdo
    clear h
    go_enter Tryz.func103, Tryz.ntmps103
    have r0 := kr.cell (o := 0) rfl
    have f0 := kr.free 0
    have r1 := kr.cell (o := 1) rfl
    have f1 := kr.free 1
    have r2 := kr.cell (o := 2) rfl
    have f2 := kr.free 2
    have r3 := kr.cell (o := 3) rfl
    have f3 := kr.free 3
    obtain ⟨W7, hW7⟩ : ∃ W7, ((((W3.setCell ⟨W2.heap.size, 0, none⟩ (.int .i64 fp)).setCell ⟨W2.heap.size, 1, none⟩ (.int .i64 fb)).setCell ⟨W2.heap.size, 2, none⟩ (.bool fl)).setCell ⟨W2.heap.size, 3, none⟩ (.string ⟨fv.toArray⟩)) = W7 := ⟨_, rfl⟩
    have k7 := ((((kr.set (o := 0) (.int .i64 fp)).set (o := 1) (.int .i64 fb)).set (o := 2) (.bool fl)).set (o := 3) (.string ⟨fv.toArray⟩))
    rw [hW7] at k7
    simp only [List.setIfInBounds_toArray, List.set_cons_zero, List.set_cons_succ] at k7
    have b7 : Below W.heap.size W W7 := bW.trans ((by rw [← hW7]; exact (((((Ext.refl (fun b => b = W2.heap.size) W3).setCell (.inl rfl) _).setCell (.inl rfl) _).setCell (.inl rfl) _).setCell (.inl rfl) _) : Ext (fun b => b = W2.heap.size) W3 W7).belowOf bW.size (fun b hb e => by have e2 : b = W2.heap.size := e; omega))
    have HH := hid (And.intro k7 b7)
    have HW7 := hid hW7
    clear k7 b7 hW7
    go_wp2_with fail
    rw [HW7.out]
    have hld := run_loadVar_row (P := Tryz.prog) W7 W2.heap.size 178 178 _ (0, 0) _ HH.out.1 Tryz.underlying178 rfl size_fact
    refine bodyPost_ret (v := .tuple #[.agg #[.int .i64 fp, .int .i64 fb, .bool fl, .string ⟨fv.toArray⟩], .int .i64 34]) ?_ rfl ?_
    · simp [results, Tryz.results103, hld, asAddr]
    · exact ⟨rfl, HH.out.2⟩
  · have hd : decide (bal ≤ fp) = false := decide_eq_false h
    have hdo : doA 1 ⟨fp, fb, fl, fv⟩ bal b = (⟨bal, fb, fl, fv⟩, 0) := by simp [doA, h]
    rw [hdo]
    clear hdo
    clear h
    have g0 := kf.free 0
    obtain ⟨W4, hW4⟩ : ∃ W4, W3.setCell ⟨W.heap.size, 0, none⟩ (.int .i64 bal) = W4 := ⟨_, rfl⟩
    have k4 := kf.set (o := 0) (.int .i64 bal)
    have x4 : Ext (fun b => b = W.heap.size) W3 W4 := by rw [← hW4]; exact (Ext.refl (fun b => b = W.heap.size) W3).setCell (a := ⟨W.heap.size, 0, none⟩) (.inl rfl) _
    rw [hW4] at k4
    simp only [List.setIfInBounds_toArray, List.set_cons_zero, List.set_cons_succ] at k4
    have kr4 := kr.ext x4 (by omega)
    have bW4 := bW.trans (x4.belowOf bW.size (fun b hb e => by have e2 : b = W.heap.size := e; omega))
    have z0 := k4.cell (o := 0) rfl
    have z1 := k4.cell (o := 1) rfl
    have z2 := k4.cell (o := 2) rfl
    have z3 := k4.cell (o := 3) rfl
    go_enter Tryz.func103, Tryz.ntmps103
    have r0 := kr4.cell (o := 0) rfl
    have f0 := kr4.free 0
    have r1 := kr4.cell (o := 1) rfl
    have f1 := kr4.free 1
    have r2 := kr4.cell (o := 2) rfl
    have f2 := kr4.free 2
    have r3 := kr4.cell (o := 3) rfl
    have f3 := kr4.free 3
    obtain ⟨W7, hW7⟩ : ∃ W7, ((((W4.setCell ⟨W2.heap.size, 0, none⟩ (.int .i64 bal)).setCell ⟨W2.heap.size, 1, none⟩ (.int .i64 fb)).setCell ⟨W2.heap.size, 2, none⟩ (.bool fl)).setCell ⟨W2.heap.size, 3, none⟩ (.string ⟨fv.toArray⟩)) = W7 := ⟨_, rfl⟩
    have k7 := ((((kr4.set (o := 0) (.int .i64 bal)).set (o := 1) (.int .i64 fb)).set (o := 2) (.bool fl)).set (o := 3) (.string ⟨fv.toArray⟩))
    rw [hW7] at k7
    simp only [List.setIfInBounds_toArray, List.set_cons_zero, List.set_cons_succ] at k7
    have b7 : Below W.heap.size W W7 := bW4.trans ((by rw [← hW7]; exact (((((Ext.refl (fun b => b = W2.heap.size) W4).setCell (.inl rfl) _).setCell (.inl rfl) _).setCell (.inl rfl) _).setCell (.inl rfl) _) : Ext (fun b => b = W2.heap.size) W4 W7).belowOf bW4.size (fun b hb e => by have e2 : b = W2.heap.size := e; omega))
    have HH := hid (And.intro k7 b7)
    have HW7 := hid hW7
    clear k7 b7 hW7
    go_wp2_with fail
    rw [HW7.out]
    have hld := run_loadVar_row (P := Tryz.prog) W7 W2.heap.size 178 178 _ (0, 0) _ HH.out.1 Tryz.underlying178 rfl size_fact
    refine bodyPost_ret (v := .tuple #[.agg #[.int .i64 bal, .int .i64 fb, .bool fl, .string ⟨fv.toArray⟩], .int .i64 0]) ?_ rfl ?_
    · simp [results, Tryz.results103, hld, asAddr]
    · exact ⟨rfl, HH.out.2⟩

set_option maxRecDepth 100000 in
set_option maxHeartbeats 3200000 in
theorem acc_learn (f : Fa) (k key ver bal : Int) (v : Value) (b : List UInt8) (W : World) (hv : Bs W v b) :
    Calls Tryz.prog 105 #[.agg f.cells, .agg #[.int .i64 k, .int .i64 key, .int .i64 ver, .int .i64 bal, v]] W fun e w' => e = .returned (.tuple #[.agg (doA 3 f bal b).1.cells, .int .i64 (doA 3 f bal b).2]) ∧ Below W.heap.size W w' := by
  obtain ⟨fp, fb, fl, fv⟩ := f
  cases fl
  · unfold Fa.cells
    dsimp only
    obtain ⟨a0, c0, rfl⟩ := hv.form
    obtain ⟨W1, hW1⟩ : ∃ W1, W.alloc (.cells #[.int .i64 fp, .int .i64 fb, .bool false, .string ⟨fv.toArray⟩] 178) = W1 := ⟨_, rfl⟩
    have b1 : Below W.heap.size W W1 := by rw [← hW1]; exact (Below.refl _ W).alloc (Nat.le_refl _) _
    have kf : Blk W1 W.heap.size #[.int .i64 fp, .int .i64 fb, .bool false, .string ⟨fv.toArray⟩] 178 := by rw [← hW1]; exact Blk.new W _ _
    obtain ⟨W2, hW2⟩ : ∃ W2, W1.alloc (.cells #[.int .i64 k, .int .i64 key, .int .i64 ver, .int .i64 bal, .slice a0 b.length c0] 48) = W2 := ⟨_, rfl⟩
    have b2 : Below W1.heap.size W1 W2 := by rw [← hW2]; exact (Below.refl _ W1).alloc (Nat.le_refl _) _
    have kq : Blk W2 W1.heap.size #[.int .i64 k, .int .i64 key, .int .i64 ver, .int .i64 bal, .slice a0 b.length c0] 48 := by rw [← hW2]; exact Blk.new W1 _ _
    obtain ⟨W3, hW3⟩ : ∃ W3, W2.alloc (.cells #[.int .i64 0, .int .i64 0, .bool false, .string ⟨#[]⟩] 178) = W3 := ⟨_, rfl⟩
    have b3 : Below W2.heap.size W2 W3 := by rw [← hW3]; exact (Below.refl _ W2).alloc (Nat.le_refl _) _
    have kr : Blk W3 W2.heap.size #[.int .i64 0, .int .i64 0, .bool false, .string ⟨#[]⟩] 178 := by rw [← hW3]; exact Blk.new W2 _ _
    have hs1 := kf.lt
    have hs2 := kq.lt
    have kf := (kf.keep b2).keep b3
    have kq := kq.keep b3
    have bW := (b1.trans (b2.mono b1.size)).trans (b3.mono (Nat.le_trans b1.size b2.size))
    have hv3 := hv.keep bW
    have hsz1 := b1.size
    have hsz2 := b2.size
    clear hv b1 b2 b3
    have x0 := kf.cell (o := 0) rfl
    have x1 := kf.cell (o := 1) rfl
    have x2 := kf.cell (o := 2) rfl
    have x3 := kf.cell (o := 3) rfl
    have y3 := kq.cell (o := 3) rfl
    have y4 := kq.cell (o := 4) rfl
    have hc := run_bytes_string (P := Tryz.prog) Tryz.underlying30 Tryz.underlying5 Tryz.underlying9 hv3
    by_cases hm : 1 < fb
    · have hdo : doA 3 ⟨fp, fb, false, fv⟩ bal b = (⟨fp, fb, true, b⟩, 0) := by simp [doA]; omega
      rw [hdo]
      clear hdo
      go_enter Tryz.func105, Tryz.ntmps105
      have r0 := kr.cell (o := 0) rfl
      have f0 := kr.free 0
      have r1 := kr.cell (o := 1) rfl
      have f1 := kr.free 1
      have r2 := kr.cell (o := 2) rfl
      have f2 := kr.free 2
      have r3 := kr.cell (o := 3) rfl
      have f3 := kr.free 3
      obtain ⟨W7, hW7⟩ : ∃ W7, ((((W3.setCell ⟨W2.heap.size, 0, none⟩ (.int .i64 fp)).setCell ⟨W2.heap.size, 1, none⟩ (.int .i64 fb)).setCell ⟨W2.heap.size, 2, none⟩ (.bool true)).setCell ⟨W2.heap.size, 3, none⟩ (.string ⟨b.toArray⟩)) = W7 := ⟨_, rfl⟩
      have k7 := ((((kr.set (o := 0) (.int .i64 fp)).set (o := 1) (.int .i64 fb)).set (o := 2) (.bool true)).set (o := 3) (.string ⟨b.toArray⟩))
      rw [hW7] at k7
      simp only [List.setIfInBounds_toArray, List.set_cons_zero, List.set_cons_succ] at k7
      have b7 : Below W.heap.size W W7 := bW.trans ((by rw [← hW7]; exact (((((Ext.refl (fun b => b = W2.heap.size) W3).setCell (.inl rfl) _).setCell (.inl rfl) _).setCell (.inl rfl) _).setCell (.inl rfl) _) : Ext (fun b => b = W2.heap.size) W3 W7).belowOf bW.size (fun b hb e => by have e2 : b = W2.heap.size := e; omega))
      have HH := hid (And.intro k7 b7)
      have HW7 := hid hW7
      clear k7 b7 hW7
      go_wp2_with fail
      rw [HW7.out]
      have hld := run_loadVar_row (P := Tryz.prog) W7 W2.heap.size 178 178 _ (0, 0) _ HH.out.1 Tryz.underlying178 rfl size_fact
      refine bodyPost_ret (v := .tuple #[.agg #[.int .i64 fp, .int .i64 fb, .bool true, .string ⟨b.toArray⟩], .int .i64 0]) ?_ rfl ?_
      · simp [results, Tryz.results105, hld, asAddr]
      · exact ⟨rfl, HH.out.2⟩
    · have hdo : doA 3 ⟨fp, fb, false, fv⟩ bal b = (⟨fp, 1, true, b⟩, 0) := by simp [doA]; omega
      rw [hdo]
      clear hdo
      go_enter Tryz.func105, Tryz.ntmps105
      have r0 := kr.cell (o := 0) rfl
      have f0 := kr.free 0
      have r1 := kr.cell (o := 1) rfl
      have f1 := kr.free 1
      have r2 := kr.cell (o := 2) rfl
      have f2 := kr.free 2
      have r3 := kr.cell (o := 3) rfl
      have f3 := kr.free 3
      obtain ⟨W7, hW7⟩ : ∃ W7, ((((W3.setCell ⟨W2.heap.size, 0, none⟩ (.int .i64 fp)).setCell ⟨W2.heap.size, 1, none⟩ (.int .i64 1)).setCell ⟨W2.heap.size, 2, none⟩ (.bool true)).setCell ⟨W2.heap.size, 3, none⟩ (.string ⟨b.toArray⟩)) = W7 := ⟨_, rfl⟩
      have k7 := ((((kr.set (o := 0) (.int .i64 fp)).set (o := 1) (.int .i64 1)).set (o := 2) (.bool true)).set (o := 3) (.string ⟨b.toArray⟩))
      rw [hW7] at k7
      simp only [List.setIfInBounds_toArray, List.set_cons_zero, List.set_cons_succ] at k7
      have b7 : Below W.heap.size W W7 := bW.trans ((by rw [← hW7]; exact (((((Ext.refl (fun b => b = W2.heap.size) W3).setCell (.inl rfl) _).setCell (.inl rfl) _).setCell (.inl rfl) _).setCell (.inl rfl) _) : Ext (fun b => b = W2.heap.size) W3 W7).belowOf bW.size (fun b hb e => by have e2 : b = W2.heap.size := e; omega))
      have HH := hid (And.intro k7 b7)
      have HW7 := hid hW7
      clear k7 b7 hW7
      go_wp2_with fail
      rw [HW7.out]
      have hld := run_loadVar_row (P := Tryz.prog) W7 W2.heap.size 178 178 _ (0, 0) _ HH.out.1 Tryz.underlying178 rfl size_fact
      refine bodyPost_ret (v := .tuple #[.agg #[.int .i64 fp, .int .i64 1, .bool true, .string ⟨b.toArray⟩], .int .i64 0]) ?_ rfl ?_
      · simp [results, Tryz.results105, hld, asAddr]
      · exact ⟨rfl, HH.out.2⟩
  · unfold Fa.cells
    dsimp only
    obtain ⟨a0, c0, rfl⟩ := hv.form
    obtain ⟨W1, hW1⟩ : ∃ W1, W.alloc (.cells #[.int .i64 fp, .int .i64 fb, .bool true, .string ⟨fv.toArray⟩] 178) = W1 := ⟨_, rfl⟩
    have b1 : Below W.heap.size W W1 := by rw [← hW1]; exact (Below.refl _ W).alloc (Nat.le_refl _) _
    have kf : Blk W1 W.heap.size #[.int .i64 fp, .int .i64 fb, .bool true, .string ⟨fv.toArray⟩] 178 := by rw [← hW1]; exact Blk.new W _ _
    obtain ⟨W2, hW2⟩ : ∃ W2, W1.alloc (.cells #[.int .i64 k, .int .i64 key, .int .i64 ver, .int .i64 bal, .slice a0 b.length c0] 48) = W2 := ⟨_, rfl⟩
    have b2 : Below W1.heap.size W1 W2 := by rw [← hW2]; exact (Below.refl _ W1).alloc (Nat.le_refl _) _
    have kq : Blk W2 W1.heap.size #[.int .i64 k, .int .i64 key, .int .i64 ver, .int .i64 bal, .slice a0 b.length c0] 48 := by rw [← hW2]; exact Blk.new W1 _ _
    obtain ⟨W3, hW3⟩ : ∃ W3, W2.alloc (.cells #[.int .i64 0, .int .i64 0, .bool false, .string ⟨#[]⟩] 178) = W3 := ⟨_, rfl⟩
    have b3 : Below W2.heap.size W2 W3 := by rw [← hW3]; exact (Below.refl _ W2).alloc (Nat.le_refl _) _
    have kr : Blk W3 W2.heap.size #[.int .i64 0, .int .i64 0, .bool false, .string ⟨#[]⟩] 178 := by rw [← hW3]; exact Blk.new W2 _ _
    have hs1 := kf.lt
    have hs2 := kq.lt
    have kf := (kf.keep b2).keep b3
    have kq := kq.keep b3
    have bW := (b1.trans (b2.mono b1.size)).trans (b3.mono (Nat.le_trans b1.size b2.size))
    have hv3 := hv.keep bW
    have hsz1 := b1.size
    have hsz2 := b2.size
    clear hv b1 b2 b3
    have x0 := kf.cell (o := 0) rfl
    have x1 := kf.cell (o := 1) rfl
    have x2 := kf.cell (o := 2) rfl
    have x3 := kf.cell (o := 3) rfl
    have y3 := kq.cell (o := 3) rfl
    have y4 := kq.cell (o := 4) rfl
    have hdo : doA 3 ⟨fp, fb, true, fv⟩ bal b = (⟨fp, fb, true, fv⟩, 0) := by simp [doA]
    rw [hdo]
    clear hdo
    go_enter Tryz.func105, Tryz.ntmps105
    have r0 := kr.cell (o := 0) rfl
    have f0 := kr.free 0
    have r1 := kr.cell (o := 1) rfl
    have f1 := kr.free 1
    have r2 := kr.cell (o := 2) rfl
    have f2 := kr.free 2
    have r3 := kr.cell (o := 3) rfl
    have f3 := kr.free 3
    obtain ⟨W7, hW7⟩ : ∃ W7, ((((W3.setCell ⟨W2.heap.size, 0, none⟩ (.int .i64 fp)).setCell ⟨W2.heap.size, 1, none⟩ (.int .i64 fb)).setCell ⟨W2.heap.size, 2, none⟩ (.bool true)).setCell ⟨W2.heap.size, 3, none⟩ (.string ⟨fv.toArray⟩)) = W7 := ⟨_, rfl⟩
    have k7 := ((((kr.set (o := 0) (.int .i64 fp)).set (o := 1) (.int .i64 fb)).set (o := 2) (.bool true)).set (o := 3) (.string ⟨fv.toArray⟩))
    rw [hW7] at k7
    simp only [List.setIfInBounds_toArray, List.set_cons_zero, List.set_cons_succ] at k7
    have b7 : Below W.heap.size W W7 := bW.trans ((by rw [← hW7]; exact (((((Ext.refl (fun b => b = W2.heap.size) W3).setCell (.inl rfl) _).setCell (.inl rfl) _).setCell (.inl rfl) _).setCell (.inl rfl) _) : Ext (fun b => b = W2.heap.size) W3 W7).belowOf bW.size (fun b hb e => by have e2 : b = W2.heap.size := e; omega))
    have HH := hid (And.intro k7 b7)
    have HW7 := hid hW7
    clear k7 b7 hW7
    go_wp2_with fail
    rw [HW7.out]
    have hld := run_loadVar_row (P := Tryz.prog) W7 W2.heap.size 178 178 _ (0, 0) _ HH.out.1 Tryz.underlying178 rfl size_fact
    refine bodyPost_ret (v := .tuple #[.agg #[.int .i64 fp, .int .i64 fb, .bool true, .string ⟨fv.toArray⟩], .int .i64 0]) ?_ rfl ?_
    · simp [results, Tryz.results105, hld, asAddr]
    · exact ⟨rfl, HH.out.2⟩

set_option maxRecDepth 100000 in
set_option maxHeartbeats 3200000 in
theorem acc_accept (f : Fa) (k key ver bal : Int) (v : Value) (b : List UInt8) (W : World) (hv : Bs W v b) :
    Calls Tryz.prog 104 #[.agg f.cells, .agg #[.int .i64 k, .int .i64 key, .int .i64 ver, .int .i64 bal, v]] W fun e w' => e = .returned (.tuple #[.agg (doA 2 f bal b).1.cells, .int .i64 (doA 2 f bal b).2]) ∧ Below W.heap.size W w' := by
  obtain ⟨fp, fb, fl, fv⟩ := f
  cases fl
  · unfold Fa.cells
    dsimp only
    obtain ⟨a0, c0, rfl⟩ := hv.form
    obtain ⟨W1, hW1⟩ : ∃ W1, W.alloc (.cells #[.int .i64 fp, .int .i64 fb, .bool false, .string ⟨fv.toArray⟩] 178) = W1 := ⟨_, rfl⟩
    have b1 : Below W.heap.size W W1 := by rw [← hW1]; exact (Below.refl _ W).alloc (Nat.le_refl _) _
    have kf : Blk W1 W.heap.size #[.int .i64 fp, .int .i64 fb, .bool false, .string ⟨fv.toArray⟩] 178 := by rw [← hW1]; exact Blk.new W _ _
    obtain ⟨W2, hW2⟩ : ∃ W2, W1.alloc (.cells #[.int .i64 k, .int .i64 key, .int .i64 ver, .int .i64 bal, .slice a0 b.length c0] 48) = W2 := ⟨_, rfl⟩
    have b2 : Below W1.heap.size W1 W2 := by rw [← hW2]; exact (Below.refl _ W1).alloc (Nat.le_refl _) _
    have kq : Blk W2 W1.heap.size #[.int .i64 k, .int .i64 key, .int .i64 ver, .int .i64 bal, .slice a0 b.length c0] 48 := by rw [← hW2]; exact Blk.new W1 _ _
    obtain ⟨W3, hW3⟩ : ∃ W3, W2.alloc (.cells #[.int .i64 0, .int .i64 0, .bool false, .string ⟨#[]⟩] 178) = W3 := ⟨_, rfl⟩
    have b3 : Below W2.heap.size W2 W3 := by rw [← hW3]; exact (Below.refl _ W2).alloc (Nat.le_refl _) _
    have kr : Blk W3 W2.heap.size #[.int .i64 0, .int .i64 0, .bool false, .string ⟨#[]⟩] 178 := by rw [← hW3]; exact Blk.new W2 _ _
    have hs1 := kf.lt
    have hs2 := kq.lt
    have kf := (kf.keep b2).keep b3
    have kq := kq.keep b3
    have bW := (b1.trans (b2.mono b1.size)).trans (b3.mono (Nat.le_trans b1.size b2.size))
    have hv3 := hv.keep bW
    have hsz1 := b1.size
    have hsz2 := b2.size
    clear hv b1 b2 b3
    have x0 := kf.cell (o := 0) rfl
    have x1 := kf.cell (o := 1) rfl
    have x2 := kf.cell (o := 2) rfl
    have x3 := kf.cell (o := 3) rfl
    have y3 := kq.cell (o := 3) rfl
    have y4 := kq.cell (o := 4) rfl
    have hc := run_bytes_string (P := Tryz.prog) Tryz.underlying30 Tryz.underlying5 Tryz.underlying9 hv3
    by_cases h1 : bal < fp
    · have hd : decide (bal < fp) = true := decide_eq_true h1
      have hdo : doA 2 ⟨fp, fb, false, fv⟩ bal b = (⟨fp, fb, false, fv⟩, 34) := by simp [doA, h1]
      rw [hdo]
      clear hdo
      clear h1
      go_enter Tryz.func104, Tryz.ntmps104
      have r0 := kr.cell (o := 0) rfl
      have f0 := kr.free 0
      have r1 := kr.cell (o := 1) rfl
      have f1 := kr.free 1
      have r2 := kr.cell (o := 2) rfl
      have f2 := kr.free 2
      have r3 := kr.cell (o := 3) rfl
      have f3 := kr.free 3
      obtain ⟨W7, hW7⟩ : ∃ W7, ((((W3.setCell ⟨W2.heap.size, 0, none⟩ (.int .i64 fp)).setCell ⟨W2.heap.size, 1, none⟩ (.int .i64 fb)).setCell ⟨W2.heap.size, 2, none⟩ (.bool false)).setCell ⟨W2.heap.size, 3, none⟩ (.string ⟨fv.toArray⟩)) = W7 := ⟨_, rfl⟩
      have k7 := ((((kr.set (o := 0) (.int .i64 fp)).set (o := 1) (.int .i64 fb)).set (o := 2) (.bool false)).set (o := 3) (.string ⟨fv.toArray⟩))
      rw [hW7] at k7
      simp only [List.setIfInBounds_toArray, List.set_cons_zero, List.set_cons_succ] at k7
      have b7 : Below W.heap.size W W7 := bW.trans ((by rw [← hW7]; exact (((((Ext.refl (fun b => b = W2.heap.size) W3).setCell (.inl rfl) _).setCell (.inl rfl) _).setCell (.inl rfl) _).setCell (.inl rfl) _) : Ext (fun b => b = W2.heap.size) W3 W7).belowOf bW.size (fun b hb e => by have e2 : b = W2.heap.size := e; omega))
      have HH := hid (And.intro k7 b7)
      have HW7 := hid hW7
      clear k7 b7 hW7
      go_wp2_with fail
      rw [HW7.out]
      have hld := run_loadVar_row (P := Tryz.prog) W7 W2.heap.size 178 178 _ (0, 0) _ HH.out.1 Tryz.underlying178 rfl size_fact
      refine bodyPost_ret (v := .tuple #[.agg #[.int .i64 fp, .int .i64 fb, .bool false, .string ⟨fv.toArray⟩], .int .i64 34]) ?_ rfl ?_
      · simp [results, Tryz.results104, hld, asAddr]
      · exact ⟨rfl, HH.out.2⟩
    · have hd : decide (bal < fp) = false := decide_eq_false h1
      have hdo : doA 2 ⟨fp, fb, false, fv⟩ bal b = (⟨bal, bal, false, b⟩, 0) := by simp [doA, h1]
      rw [hdo]
      clear hdo
      clear h1
      go_enter Tryz.func104, Tryz.ntmps104
      have r0 := kr.cell (o := 0) rfl
      have f0 := kr.free 0
      have r1 := kr.cell (o := 1) rfl
      have f1 := kr.free 1
      have r2 := kr.cell (o := 2) rfl
      have f2 := kr.free 2
      have r3 := kr.cell (o := 3) rfl
      have f3 := kr.free 3
      obtain ⟨W7, hW7⟩ : ∃ W7, ((((W3.setCell ⟨W2.heap.size, 0, none⟩ (.int .i64 bal)).setCell ⟨W2.heap.size, 1, none⟩ (.int .i64 bal)).setCell ⟨W2.heap.size, 2, none⟩ (.bool false)).setCell ⟨W2.heap.size, 3, none⟩ (.string ⟨b.toArray⟩)) = W7 := ⟨_, rfl⟩
      have k7 := ((((kr.set (o := 0) (.int .i64 bal)).set (o := 1) (.int .i64 bal)).set (o := 2) (.bool false)).set (o := 3) (.string ⟨b.toArray⟩))
      rw [hW7] at k7
      simp only [List.setIfInBounds_toArray, List.set_cons_zero, List.set_cons_succ] at k7
      have b7 : Below W.heap.size W W7 := bW.trans ((by rw [← hW7]; exact (((((Ext.refl (fun b => b = W2.heap.size) W3).setCell (.inl rfl) _).setCell (.inl rfl) _).setCell (.inl rfl) _).setCell (.inl rfl) _) : Ext (fun b => b = W2.heap.size) W3 W7).belowOf bW.size (fun b hb e => by have e2 : b = W2.heap.size := e; omega))
      have HH := hid (And.intro k7 b7)
      have HW7 := hid hW7
      clear k7 b7 hW7
      go_wp2_with fail
      rw [HW7.out]
      have hld := run_loadVar_row (P := Tryz.prog) W7 W2.heap.size 178 178 _ (0, 0) _ HH.out.1 Tryz.underlying178 rfl size_fact
      refine bodyPost_ret (v := .tuple #[.agg #[.int .i64 bal, .int .i64 bal, .bool false, .string ⟨b.toArray⟩], .int .i64 0]) ?_ rfl ?_
      · simp [results, Tryz.results104, hld, asAddr]
      · exact ⟨rfl, HH.out.2⟩
  · unfold Fa.cells
    dsimp only
    obtain ⟨a0, c0, rfl⟩ := hv.form
    obtain ⟨W1, hW1⟩ : ∃ W1, W.alloc (.cells #[.int .i64 fp, .int .i64 fb, .bool true, .string ⟨fv.toArray⟩] 178) = W1 := ⟨_, rfl⟩
    have b1 : Below W.heap.size W W1 := by rw [← hW1]; exact (Below.refl _ W).alloc (Nat.le_refl _) _
    have kf : Blk W1 W.heap.size #[.int .i64 fp, .int .i64 fb, .bool true, .string ⟨fv.toArray⟩] 178 := by rw [← hW1]; exact Blk.new W _ _
    obtain ⟨W2, hW2⟩ : ∃ W2, W1.alloc (.cells #[.int .i64 k, .int .i64 key, .int .i64 ver, .int .i64 bal, .slice a0 b.length c0] 48) = W2 := ⟨_, rfl⟩
    have b2 : Below W1.heap.size W1 W2 := by rw [← hW2]; exact (Below.refl _ W1).alloc (Nat.le_refl _) _
    have kq : Blk W2 W1.heap.size #[.int .i64 k, .int .i64 key, .int .i64 ver, .int .i64 bal, .slice a0 b.length c0] 48 := by rw [← hW2]; exact Blk.new W1 _ _
    obtain ⟨W3, hW3⟩ : ∃ W3, W2.alloc (.cells #[.int .i64 0, .int .i64 0, .bool false, .string ⟨#[]⟩] 178) = W3 := ⟨_, rfl⟩
    have b3 : Below W2.heap.size W2 W3 := by rw [← hW3]; exact (Below.refl _ W2).alloc (Nat.le_refl _) _
    have kr : Blk W3 W2.heap.size #[.int .i64 0, .int .i64 0, .bool false, .string ⟨#[]⟩] 178 := by rw [← hW3]; exact Blk.new W2 _ _
    have hs1 := kf.lt
    have hs2 := kq.lt
    have kf := (kf.keep b2).keep b3
    have kq := kq.keep b3
    have bW := (b1.trans (b2.mono b1.size)).trans (b3.mono (Nat.le_trans b1.size b2.size))
    have hv3 := hv.keep bW
    have hsz1 := b1.size
    have hsz2 := b2.size
    clear hv b1 b2 b3
    have x0 := kf.cell (o := 0) rfl
    have x1 := kf.cell (o := 1) rfl
    have x2 := kf.cell (o := 2) rfl
    have x3 := kf.cell (o := 3) rfl
    have y3 := kq.cell (o := 3) rfl
    have y4 := kq.cell (o := 4) rfl
    have hc := run_bytes_string (P := Tryz.prog) Tryz.underlying30 Tryz.underlying5 Tryz.underlying9 hv3
    have hbq := bytes_beq fv b
    have hq2 : ((⟨fv.toArray⟩ : ByteArray).toList != (⟨b.toArray⟩ : ByteArray).toList) = !(fv == b) := by rw [bne, hbq]
    clear hbq
    by_cases h1 : bal < fp
    · have hd : decide (bal < fp) = true := decide_eq_true h1
      have hdo : doA 2 ⟨fp, fb, true, fv⟩ bal b = (⟨fp, fb, true, fv⟩, 34) := by simp [doA, h1]
      rw [hdo]
      clear hdo
      clear h1 hq2
      go_enter Tryz.func104, Tryz.ntmps104
      have r0 := kr.cell (o := 0) rfl
      have f0 := kr.free 0
      have r1 := kr.cell (o := 1) rfl
      have f1 := kr.free 1
      have r2 := kr.cell (o := 2) rfl
      have f2 := kr.free 2
      have r3 := kr.cell (o := 3) rfl
      have f3 := kr.free 3
      obtain ⟨W7, hW7⟩ : ∃ W7, ((((W3.setCell ⟨W2.heap.size, 0, none⟩ (.int .i64 fp)).setCell ⟨W2.heap.size, 1, none⟩ (.int .i64 fb)).setCell ⟨W2.heap.size, 2, none⟩ (.bool true)).setCell ⟨W2.heap.size, 3, none⟩ (.string ⟨fv.toArray⟩)) = W7 := ⟨_, rfl⟩
      have k7 := ((((kr.set (o := 0) (.int .i64 fp)).set (o := 1) (.int .i64 fb)).set (o := 2) (.bool true)).set (o := 3) (.string ⟨fv.toArray⟩))
      rw [hW7] at k7
      simp only [List.setIfInBounds_toArray, List.set_cons_zero, List.set_cons_succ] at k7
      have b7 : Below W.heap.size W W7 := bW.trans ((by rw [← hW7]; exact (((((Ext.refl (fun b => b = W2.heap.size) W3).setCell (.inl rfl) _).setCell (.inl rfl) _).setCell (.inl rfl) _).setCell (.inl rfl) _) : Ext (fun b => b = W2.heap.size) W3 W7).belowOf bW.size (fun b hb e => by have e2 : b = W2.heap.size := e; omega))
      have HH := hid (And.intro k7 b7)
      have HW7 := hid hW7
      clear k7 b7 hW7
      go_wp2_with fail
      rw [HW7.out]
      have hld := run_loadVar_row (P := Tryz.prog) W7 W2.heap.size 178 178 _ (0, 0) _ HH.out.1 Tryz.underlying178 rfl size_fact
      refine bodyPost_ret (v := .tuple #[.agg #[.int .i64 fp, .int .i64 fb, .bool true, .string ⟨fv.toArray⟩], .int .i64 34]) ?_ rfl ?_
      · simp [results, Tryz.results104, hld, asAddr]
      · exact ⟨rfl, HH.out.2⟩
    · have hd : decide (bal < fp) = false := decide_eq_false h1
      by_cases h3 : fv = b
      · have hq3 : (fv == b) = true := by simp [h3]
        have hdo : doA 2 ⟨fp, fb, true, fv⟩ bal b = (⟨fp, fb, true, fv⟩, 0) := by simp [doA, h1, h3]
        rw [hdo]
        clear hdo
        clear h1 h3 hq2
        go_enter Tryz.func104, Tryz.ntmps104
        have r0 := kr.cell (o := 0) rfl
        have f0 := kr.free 0
        have r1 := kr.cell (o := 1) rfl
        have f1 := kr.free 1
        have r2 := kr.cell (o := 2) rfl
        have f2 := kr.free 2
        have r3 := kr.cell (o := 3) rfl
        have f3 := kr.free 3
        obtain ⟨W7, hW7⟩ : ∃ W7, ((((W3.setCell ⟨W2.heap.size, 0, none⟩ (.int .i64 fp)).setCell ⟨W2.heap.size, 1, none⟩ (.int .i64 fb)).setCell ⟨W2.heap.size, 2, none⟩ (.bool true)).setCell ⟨W2.heap.size, 3, none⟩ (.string ⟨fv.toArray⟩)) = W7 := ⟨_, rfl⟩
        have k7 := ((((kr.set (o := 0) (.int .i64 fp)).set (o := 1) (.int .i64 fb)).set (o := 2) (.bool true)).set (o := 3) (.string ⟨fv.toArray⟩))
        rw [hW7] at k7
        simp only [List.setIfInBounds_toArray, List.set_cons_zero, List.set_cons_succ] at k7
        have b7 : Below W.heap.size W W7 := bW.trans ((by rw [← hW7]; exact (((((Ext.refl (fun b => b = W2.heap.size) W3).setCell (.inl rfl) _).setCell (.inl rfl) _).setCell (.inl rfl) _).setCell (.inl rfl) _) : Ext (fun b => b = W2.heap.size) W3 W7).belowOf bW.size (fun b hb e => by have e2 : b = W2.heap.size := e; omega))
        have HH := hid (And.intro k7 b7)
        have HW7 := hid hW7
        clear k7 b7 hW7
        go_wp2_with fail
        rw [HW7.out]
        have hld := run_loadVar_row (P := Tryz.prog) W7 W2.heap.size 178 178 _ (0, 0) _ HH.out.1 Tryz.underlying178 rfl size_fact
        refine bodyPost_ret (v := .tuple #[.agg #[.int .i64 fp, .int .i64 fb, .bool true, .string ⟨fv.toArray⟩], .int .i64 0]) ?_ rfl ?_
        · simp [results, Tryz.results104, hld, asAddr]
        · exact ⟨rfl, HH.out.2⟩
      · have hq3 : (fv == b) = false := by simp [h3]
        have hdo : doA 2 ⟨fp, fb, true, fv⟩ bal b = (⟨fp, fb, true, fv⟩, 34) := by simp [doA, h1, h3]
        rw [hdo]
        clear hdo
        clear h1 h3 hq2
        go_enter Tryz.func104, Tryz.ntmps104
        have r0 := kr.cell (o := 0) rfl
        have f0 := kr.free 0
        have r1 := kr.cell (o := 1) rfl
        have f1 := kr.free 1
        have r2 := kr.cell (o := 2) rfl
        have f2 := kr.free 2
        have r3 := kr.cell (o := 3) rfl
        have f3 := kr.free 3
        obtain ⟨W7, hW7⟩ : ∃ W7, ((((W3.setCell ⟨W2.heap.size, 0, none⟩ (.int .i64 fp)).setCell ⟨W2.heap.size, 1, none⟩ (.int .i64 fb)).setCell ⟨W2.heap.size, 2, none⟩ (.bool true)).setCell ⟨W2.heap.size, 3, none⟩ (.string ⟨fv.toArray⟩)) = W7 := ⟨_, rfl⟩
        have k7 := ((((kr.set (o := 0) (.int .i64 fp)).set (o := 1) (.int .i64 fb)).set (o := 2) (.bool true)).set (o := 3) (.string ⟨fv.toArray⟩))
        rw [hW7] at k7
        simp only [List.setIfInBounds_toArray, List.set_cons_zero, List.set_cons_succ] at k7
        have b7 : Below W.heap.size W W7 := bW.trans ((by rw [← hW7]; exact (((((Ext.refl (fun b => b = W2.heap.size) W3).setCell (.inl rfl) _).setCell (.inl rfl) _).setCell (.inl rfl) _).setCell (.inl rfl) _) : Ext (fun b => b = W2.heap.size) W3 W7).belowOf bW.size (fun b hb e => by have e2 : b = W2.heap.size := e; omega))
        have HH := hid (And.intro k7 b7)
        have HW7 := hid hW7
        clear k7 b7 hW7
        go_wp2_with fail
        rw [HW7.out]
        have hld := run_loadVar_row (P := Tryz.prog) W7 W2.heap.size 178 178 _ (0, 0) _ HH.out.1 Tryz.underlying178 rfl size_fact
        refine bodyPost_ret (v := .tuple #[.agg #[.int .i64 fp, .int .i64 fb, .bool true, .string ⟨fv.toArray⟩], .int .i64 34]) ?_ rfl ?_
        · simp [results, Tryz.results104, hld, asAddr]
        · exact ⟨rfl, HH.out.2⟩
end Go.Proofs.YtcdcjoofcbdilaaGreat
