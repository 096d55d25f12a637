import Derived.Test.YtcdcjoofcbdilaaGreatAccU
import Derived.Test.YtcdcjoofcbdilaaGreatAccQ
import Derived.Test.YtcdcjoofcbdilaaGreatRegionX
/-! Package acceptor: answer. -/
namespace Go.Proofs.YtcdcjoofcbdilaaGreat
open Go.RowKit

theorem doA_code (k : Int) (f : Fa) (bal : Int) (v : List UInt8) : (doA k f bal v).2 = 0 ∨ (doA k f bal v).2 = 34 := by
  unfold doA
  split
  · split <;> simp
  split
  · split
    · simp
    · split <;> simp
  · split <;> simp
theorem doA_ok {f : Fa} (hf : f.ok) (k : Int) {bal : Int} {v : List UInt8} (hb : 0 ≤ bal ∧ bal < 281474976710656) (hv : v.length ≤ 4000) : (doA k f bal v).1.ok := by
  have hf0 := hf
  obtain ⟨h1, h2, h3⟩ := hf
  unfold doA
  split
  · split
    · exact hf0
    · exact ⟨hb, h2, h3⟩
  split
  · split
    · exact hf0
    · split
      · exact hf0
      · exact ⟨hb, hb, hv⟩
  · split
    · exact hf0
    · exact ⟨h1, by simp only []; omega, hv⟩
theorem keepA_code (F : Fs) (S : St) (D : Dk) (key ver : Int) (f : Fa) : (keepA F S D key ver f).1 ≠ 8 ∧ 0 ≤ (keepA F S D key ver f).1 ∧ (keepA F S D key ver f).1 ≤ 255 := by
  unfold keepA
  split
  · simp
  · split
    · split
      · simp
      · exact (putF_not1 S D key (tailF S key) (factB ver f) false).2
    · simp

def FRow (w : World) (g : Nat) : Prop := ∃ c0 c1 c2 c3, Blk w g #[c0, c1, c2, c3] 178
def setFact (w : World) (g : Nat) (f1 : Fa) : World := ((((w.setCell ⟨g, 0, none⟩ (.int .i64 f1.pr)).setCell ⟨g, 1, none⟩ (.int .i64 f1.ba)).setCell ⟨g, 2, none⟩ (.bool f1.le)).setCell ⟨g, 3, none⟩ (.string ⟨f1.va.toArray⟩))
theorem setFact_ext (w : World) (g : Nat) (f1 : Fa) : Ext (fun b => b = g) w (setFact w g f1) := (((((Ext.refl (fun b => b = g) w).setCell (.inl rfl) _).setCell (.inl rfl) _).setCell (.inl rfl) _).setCell (.inl rfl) _)
theorem FRow.set {w : World} {g : Nat} (h : FRow w g) (f1 : Fa) : Blk (setFact w g f1) g f1.cells 178 := by
  obtain ⟨c0, c1, c2, c3, h⟩ := h
  have := ((((h.set (o := 0) (.int .i64 f1.pr)).set (o := 1) (.int .i64 f1.ba)).set (o := 2) (.bool f1.le)).set (o := 3) (.string ⟨f1.va.toArray⟩))
  simp only [List.setIfInBounds_toArray, List.set_cons_zero, List.set_cons_succ] at this
  exact this
/-- How the world may grow while a fact is asked for and laid down. -/
structure GrowF (B : Nat) (f1 : Fa) (w w' : World) : Prop where
  below : Below B w w'
  row : ∀ g, FRow w g → FRow w' g
  got : ∀ g, Blk w g f1.cells 178 → Blk w' g f1.cells 178
theorem GrowF.refl (B : Nat) (f1 : Fa) (w : World) : GrowF B f1 w w := ⟨Below.refl _ _, fun _ h => h, fun _ h => h⟩
theorem GrowF.trans {B : Nat} {f1 : Fa} {x y z : World} (h : GrowF B f1 x y) (k : GrowF B f1 y z) : GrowF B f1 x z := ⟨h.below.trans k.below, fun g hg => k.row g (h.row g hg), fun g hg => k.got g (h.got g hg)⟩
theorem GrowF.of_below {B : Nat} {f1 : Fa} {w w' : World} (hB : B ≤ w.heap.size) (h : Below w.heap.size w w') : GrowF B f1 w w' :=
  ⟨h.mono hB, fun g ⟨c0, c1, c2, c3, hg⟩ => ⟨c0, c1, c2, c3, hg.keep h⟩, fun g hg => hg.keep h⟩
theorem GrowF.set {B : Nat} {f1 : Fa} {w : World} {g : Nat} (hB : B ≤ g) (h : FRow w g) : GrowF B f1 w (setFact w g f1) := by
  have hx := setFact_ext w g f1
  have hk := h.set f1
  have hlt : g < w.heap.size := by obtain ⟨_, _, _, _, h⟩ := h; exact h.lt
  refine ⟨hx.belowOf (by omega) (fun b hb e => by have e2 : b = g := e; omega), fun g' ⟨c0, c1, c2, c3, hg⟩ => ?_, fun g' hg => ?_⟩
  · by_cases hgg : g' = g
    · subst hgg; exact ⟨_, _, _, _, hk⟩
    · exact ⟨c0, c1, c2, c3, hg.ext hx hgg⟩
  · by_cases hgg : g' = g
    · subst hgg; exact hk
    · exact hg.ext hx hgg
theorem store_one_at {w : World} {g o : Nat} {c : Array Value} {t : TypeId} {u v : Value} (hb : Blk w g c t) (hu : c[o]? = some u) (h1 : v.oneCell' = true) :
    ∃ w', (store ⟨g, o, none⟩ v).run Tryz.prog w = .ok () w' ∧ Blk w' g (c.setIfInBounds o v) t ∧ Ext (fun b => b = g) w w' :=
  ⟨_, run_store_one (hb.cell hu) (hb.free o) h1, hb.set v, (Ext.refl (fun b => b = g) w).setCell (a := ⟨g, o, none⟩) (.inl rfl) v⟩
theorem func_stores {w : World} {g : Nat} (hb : Blk w g #[.nilFunc, .nilFunc, .nilFunc, .nilFunc, .nilFunc] 192) :
    ∃ w1 w2 w3 w4 w5, (store ⟨g, 0, none⟩ .nilFunc).run Tryz.prog w = .ok () w1 ∧ (store ⟨g, 1, none⟩ (.func (.func 103) #[] #[])).run Tryz.prog w1 = .ok () w2 ∧ (store ⟨g, 2, none⟩ (.func (.func 104) #[] #[])).run Tryz.prog w2 = .ok () w3 ∧ (store ⟨g, 3, none⟩ (.func (.func 105) #[] #[])).run Tryz.prog w3 = .ok () w4 ∧ (store ⟨g, 4, none⟩ .nilFunc).run Tryz.prog w4 = .ok () w5 ∧ Blk w5 g #[.nilFunc, .func (.func 103) #[] #[], .func (.func 104) #[] #[], .func (.func 105) #[] #[], .nilFunc] 192 ∧ Ext (fun b => b = g) w w5 := by
  obtain ⟨w1, e1, b1, x1⟩ := store_one_at (o := 0) (v := .nilFunc) hb rfl rfl
  obtain ⟨w2, e2, b2, x2⟩ := store_one_at (o := 1) (v := (.func (.func 103) #[] #[])) b1 rfl rfl
  obtain ⟨w3, e3, b3, x3⟩ := store_one_at (o := 2) (v := (.func (.func 104) #[] #[])) b2 rfl rfl
  obtain ⟨w4, e4, b4, x4⟩ := store_one_at (o := 3) (v := (.func (.func 105) #[] #[])) b3 rfl rfl
  obtain ⟨w5, e5, b5, x5⟩ := store_one_at (o := 4) (v := .nilFunc) b4 rfl rfl
  exact ⟨w1, w2, w3, w4, w5, e1, e2, e3, e4, e5, b5, (((x1.trans x2 fun _ h => .inl h).trans x3 fun _ h => .inl h).trans x4 fun _ h => .inl h).trans x5 fun _ h => .inl h⟩

section
variable {W : World} {n mf : Nat} {pv : Value} {q : StP} {F : Fs} {S : St} {D : Dk}
def AnswerPost (W : World) (n mf : Nat) (pv : Value) (q : StP) (R : Ans × Fs × St × Dk) (e : Ending) (w' : World) : Prop :=
  ∃ v9, e = .returned (.tuple #[.agg #[.int .i64 R.1.e, .int .i64 R.1.ver, .int .i64 R.1.f.pr, .int .i64 R.1.f.ba, .bool R.1.f.le, v9], .bool true]) ∧ Bs w' v9 R.1.f.va ∧ (∀ g, v9.ownBlock = some g → W.heap.size ≤ g) ∧ (∃ q', AccAt w' n mf pv q' R.2.1 R.2.2.1 R.2.2.2 ∧ Went q q' W.heap.size) ∧ Ext (fun b => b = mf ∨ q.own b) W w'
set_option maxRecDepth 100000 in
set_option maxHeartbeats 6400000 in
theorem acc_answer_do (h : AccAt W n mf pv q F S D) (k : Nat) (key ver bal : Int) (v : Value) (l : List UInt8) (hv : Bs W v l) (hok : askOk (k : Int) key ver bal l.length = true) (FN : FuncId)
    (hCF : ∀ (args : Array Value) (w : World), (callFunc FN args).run Tryz.prog w = .ok (.enter FN args) w) (hF9 : (#[.nilFunc, .func (.func 103) #[] #[], .func (.func 104) #[] #[], .func (.func 105) #[] #[], .nilFunc] : Array Value)[k]? = some (.func (.func FN) #[] #[])) (hk9 : 1 ≤ k ∧ k ≤ 3)
    (hH : ∀ (f : Fa) (v : Value) (b : List UInt8) (w : World), Bs w v b → Calls Tryz.prog FN #[.agg f.cells, .agg #[.int .i64 (k : Int), .int .i64 key, .int .i64 ver, .int .i64 bal, v]] w fun e w' => e = .returned (.tuple #[.agg (doA k f bal b).1.cells, .int .i64 (doA k f bal b).2]) ∧ Below w.heap.size w w') :
    Calls Tryz.prog 65 #[.pointer (some ⟨n, 0, none⟩), .agg #[.int .i64 (k : Int), .int .i64 key, .int .i64 ver, .int .i64 bal, v]] W (AnswerPost W n mf pv q (answerA F S D k key ver bal l)) := by
  obtain ⟨a0, c0, rfl⟩ := hv.form
  have hoo := of_decide_eq_true hok
  have hbal : 0 ≤ bal ∧ bal < 281474976710656 := by omega
  have hver : 0 ≤ ver ∧ ver < 281474976710656 := by omega
  have hkey : 0 ≤ key ∧ key < 281474976710656 := by omega
  have hll : l.length ≤ 4000 := by omega
  clear hoo hok
  obtain ⟨W1, hW1⟩ : ∃ W1, W.alloc (.cells #[.int .i64 (k : Int), .int .i64 key, .int .i64 ver, .int .i64 bal, .slice a0 l.length c0] 48) = W1 := ⟨_, rfl⟩
  have b1 : Below W.heap.size W W1 := by rw [← hW1]; exact (Below.refl _ W).alloc (Nat.le_refl _) _
  have s1 : W.heap.size < W1.heap.size := by rw [← hW1]; simp
  have kq : Blk W1 W.heap.size #[.int .i64 (k : Int), .int .i64 key, .int .i64 ver, .int .i64 bal, .slice a0 l.length c0] 48 := by rw [← hW1]; exact Blk.new W _ _
  obtain ⟨W2, hW2⟩ : ∃ W2, W1.alloc (.cells #[.int .i64 0, .int .i64 0, .int .i64 0, .int .i64 0, .bool false, .slice none 0 0] 44) = W2 := ⟨_, rfl⟩
  have b2 : Below W1.heap.size W1 W2 := by rw [← hW2]; exact (Below.refl _ W1).alloc (Nat.le_refl _) _
  have s2 : W1.heap.size < W2.heap.size := by rw [← hW2]; simp
  have kr : Blk W2 W1.heap.size #[.int .i64 0, .int .i64 0, .int .i64 0, .int .i64 0, .bool false, .slice none 0 0] 44 := by rw [← hW2]; exact Blk.new W1 _ _
  obtain ⟨W3, hW3⟩ : ∃ W3, W2.alloc (.cells #[.int .i64 0, .int .i64 0] 180) = W3 := ⟨_, rfl⟩
  have b3 : Below W2.heap.size W2 W3 := by rw [← hW3]; exact (Below.refl _ W2).alloc (Nat.le_refl _) _
  have kx0 : Blk W3 W2.heap.size #[.int .i64 0, .int .i64 0] 180 := by rw [← hW3]; exact Blk.new W2 _ _
  have s3 := kx0.lt
  have x0 := kx0.cell (o := 0) rfl
  have x1 := kx0.cell (o := 1) rfl
  have xf0 := kx0.free 0
  have xf1 := kx0.free 1
  obtain ⟨W4, hW4⟩ : ∃ W4, (W3.setCell ⟨W2.heap.size, 0, none⟩ (.int .i64 key)).setCell ⟨W2.heap.size, 1, none⟩ (.int .i64 ver) = W4 := ⟨_, rfl⟩
  have kx := (kx0.set (o := 0) (.int .i64 key)).set (o := 1) (.int .i64 ver)
  rw [hW4] at kx
  simp only [List.setIfInBounds_toArray, List.set_cons_zero, List.set_cons_succ] at kx
  have e4 : Ext (fun b => b = W2.heap.size) W3 W4 := by rw [← hW4]; exact ((Ext.refl (fun b => b = W2.heap.size) W3).setCell (.inl rfl) _).setCell (.inl rfl) _
  have b24 : Below W2.heap.size W2 W4 := b3.trans (e4.belowOf b3.size (fun b hb e => by have e9 : b = W2.heap.size := e; omega))
  have s4 := kx.lt
  obtain ⟨W5, hW5⟩ : ∃ W5, W4.alloc (.cells #[.nilFunc, .nilFunc, .nilFunc, .nilFunc, .nilFunc] 192) = W5 := ⟨_, rfl⟩
  have b5 : Below W4.heap.size W4 W5 := by rw [← hW5]; exact (Below.refl _ W4).alloc (Nat.le_refl _) _
  have kt0 : Blk W5 W4.heap.size #[.nilFunc, .nilFunc, .nilFunc, .nilFunc, .nilFunc] 192 := by rw [← hW5]; exact Blk.new W4 _ _
  obtain ⟨w1, w2, w3, w4, W6, e0, e1, e2, e3, e4', kt, xt⟩ := func_stores kt0
  have s5 := kt0.lt
  have b46 : Below W4.heap.size W4 W6 := b5.trans (xt.belowOf b5.size (fun b hb e => by have e9 : b = W4.heap.size := e; omega))
  have b26 := b24.trans (b46.mono b24.size)
  have b16 := b2.trans (b26.mono b2.size)
  have b06 := b1.trans (b16.mono b1.size)
  have q0 := ((kq.keep b2)).cell (o := 0) rfl
  have q0' := (kq.keep b2).cell (o := 1) rfl
  have q2 := (kq.keep b2).cell (o := 2) rfl
  have HA := hid (h.keep b06)
  have HQ := hid (kq.keep b16)
  have HR := hid (kr.keep b26)
  have HX := hid (kx.keep b46)
  have HT := hid kt
  have HB := hid b06
  have HZ := hid (And.intro s1 (And.intro s2 (And.intro s4 (And.intro kt.lt (And.intro h.cell.lt h.mlt)))))
  have HS := hid (show ∀ b, q.all b → b < W.heap.size from fun b hb => h.st.size hb)
  have HK := hid hk9
  have HF := hid hF9
  have HOK := hid (And.intro hkey (And.intro hver (doA_ok (Fs.get_ok h.small (key, ver)) k hbal hll)))
  have hcd := doA_code (k : Int) (F.get (key, ver)) bal l
  have HDO := hid (show answerA F S D k key ver bal l = if (doA k (F.get (key, ver)) bal l).2 = 0 then (⟨(keepA F S D key ver (doA k (F.get (key, ver)) bal l).1).1, ver, (keepA F S D key ver (doA k (F.get (key, ver)) bal l).1).2.1.get (key, ver)⟩, (keepA F S D key ver (doA k (F.get (key, ver)) bal l).1).2) else (⟨(doA k (F.get (key, ver)) bal l).2, ver, F.get (key, ver)⟩, F, S, D) by
    unfold answerA
    rw [if_neg (by omega)])
  have HH := hid (fun x (hb : Below W6.heap.size W6 x) => hH (F.get (key, ver)) (.slice a0 l.length c0) l x ((hv.keep b06).keep hb))
  have hk4 : ((k : Int) == 4) = false := by
    have := hk9.2
    simp
    omega
  clear kq kr kx kx0 kt kt0 xt e4 b1 b2 b3 b5 b24 b46 b26 b16 b06 s1 s2 s3 s4 s5 h hv hk9 hF9 hH hkey hver hbal hll
  generalize doA (k : Int) (F.get (key, ver)) bal l = R at *
  obtain ⟨f1, cd⟩ := R
  simp only at hcd HOK HDO HH
  go_enter Tryz.func65, Tryz.ntmps65
  go_wp2_with fail
  refine wp_region_invX rfl (GrowF W6.heap.size f1) (fun i => match i with | 16 => [8] | _ => []) (fun i ts v x => match i with
      | 0 => v = .pointer (some ⟨W.heap.size, 0, none⟩)
      | 1 => v = .int .i64 (k : Int)
      | 2 => v = .pointer (some ⟨W4.heap.size, k, none⟩)
      | 3 => v = .func (.func FN) #[] #[]
      | 4 => v = .pointer (some ⟨n, 0, none⟩)
      | 5 => v = .pointer (some ⟨n, 0, none⟩)
      | 6 => v = .pointer (some ⟨n, 2, none⟩)
      | 7 => v = .map (some mf)
      | 8 => v = .agg #[.int .i64 key, .int .i64 ver]
      | 9 => v = .agg (F.get (key, ver)).cells
      | 10 => v = .agg #[.int .i64 (k : Int), .int .i64 key, .int .i64 ver, .int .i64 bal, .slice a0 l.length c0]
      | 11 => v = .tuple #[.agg f1.cells, .int .i64 cd]
      | 12 => v = .tuple #[.agg f1.cells, .int .i64 cd]
      | 13 => v = .agg f1.cells
      | 14 => v = .int .i64 cd
      | 15 => ∃ g, v = .pointer (some ⟨g, 0, none⟩) ∧ W6.heap.size ≤ g ∧ FRow x g
      | 16 => ∃ g, ts = [.pointer (some ⟨g, 0, none⟩)] ∧ Blk x g f1.cells 178
      | 17 => v = .int .i64 cd
      | _ => True) (by kernel_rfl) (by kernel_rfl) (GrowF.refl _ _ _) GrowF.trans ?rstab ?rsteps ?rfin
  case rstab =>
    intro i ts v x y hg h
    match i with
    | 0 | 1 | 2 | 3 | 4 | 5 | 6 | 7 | 8 | 9 | 10 | 11 | 12 | 13 | 14 | 17 => exact h
    | 15 => exact (by obtain ⟨g9, e9, l9, h9⟩ := h; exact ⟨g9, e9, l9, hg.row _ h9⟩)
    | 16 => exact (by obtain ⟨g9, e9, h9⟩ := h; exact ⟨g9, e9, hg.got _ h9⟩)
    | n + 18 => trivial
  case rsteps =>
    refine ⟨?_, ?_, ?_, ?_, ?_, ?_, ?_, ?_, ?_, ?_, ?_, ?_, ?_, ?_, ?_, ?_, ?_, ?_, trivial⟩
    · intro a x hA
      have t3 := hA.at_ 3 (by first | rfl | kernel_rfl) rfl
      refine step_value (w' := x) (v := .pointer (some ⟨W.heap.size, 0, none⟩)) ?_ (GrowF.refl _ _ _) ?_
      · go_simp
      · rfl
    · intro a x hA
      have t24 : a.tmps[24]?.getD undef = .pointer (some ⟨W.heap.size, 0, none⟩) := hA.dep_ ⟨0, .data⟩ (by simp) _ 24 rfl rfl
      have h9 := HQ.out.keep (Below.trans (below_of_drewN _ _ 1) hA.grow.below)
      have q0 := h9.cell (o := 0) rfl
      clear h9
      refine step_value (w' := x) (v := .int .i64 (k : Int)) ?_ (GrowF.refl _ _ _) rfl
      clear hA
      go_simp
    · intro a x hA
      have t7 := hA.at_ 7 (by first | rfl | kernel_rfl) rfl
      have t25 : a.tmps[25]?.getD undef = .int .i64 (k : Int) := hA.dep_ ⟨1, .data⟩ (by simp) _ 25 rfl rfl
      have hk1 := HK.out.1
      have hk7 : (k : Int) < 5 := by have := HK.out.2; omega
      refine step_value (w' := x) (v := .pointer (some ⟨W4.heap.size, k, none⟩)) ?_ (GrowF.refl _ _ _) rfl
      clear hA
      go_simp
    · intro a x hA
      have t26 : a.tmps[26]?.getD undef = .pointer (some ⟨W4.heap.size, k, none⟩) := hA.dep_ ⟨2, .data⟩ (by simp) _ 26 rfl rfl
      have h9 := HT.out.keep (Below.trans (below_of_drewN _ _ 1) hA.grow.below)
      have g9 : x.cell? ⟨W4.heap.size, k, none⟩ = some (.func (.func FN) #[] #[]) := h9.cell (o := k) HF.out
      clear h9
      refine step_value (w' := x) (v := .func (.func FN) #[] #[]) ?_ (GrowF.refl _ _ _) rfl
      clear hA
      go_simp
    · intro a x hA
      have t0 := hA.at_ 0 (by first | rfl | kernel_rfl) rfl
      refine step_value (w' := x) (v := .pointer (some ⟨n, 0, none⟩)) ?_ (GrowF.refl _ _ _) ?_
      · go_simp
      · rfl
    · intro a x hA
      have t28 : a.tmps[28]?.getD undef = .pointer (some ⟨n, 0, none⟩) := hA.dep_ ⟨4, .data⟩ (by simp) _ 28 rfl rfl
      refine step_value (w' := x) (v := .pointer (some ⟨n, 0, none⟩)) ?_ (GrowF.refl _ _ _) ?_
      · go_simp
      · rfl
    · intro a x hA
      have t29 : a.tmps[29]?.getD undef = .pointer (some ⟨n, 0, none⟩) := hA.dep_ ⟨5, .data⟩ (by simp) _ 29 rfl rfl
      refine step_value (w' := x) (v := .pointer (some ⟨n, 2, none⟩)) ?_ (GrowF.refl _ _ _) ?_
      · go_simp
      · rfl
    · intro a x hA
      have t30 : a.tmps[30]?.getD undef = .pointer (some ⟨n, 2, none⟩) := hA.dep_ ⟨6, .data⟩ (by simp) _ 30 rfl rfl
      have h9 := HA.out.cell.keep (Below.trans (below_of_drewN _ _ 1) hA.grow.below)
      have n2 := h9.cell (o := 2) rfl
      clear h9
      refine step_value (w' := x) (v := .map (some mf)) ?_ (GrowF.refl _ _ _) rfl
      clear hA
      go_simp
    · intro a x hA
      have t6 := hA.at_ 6 (by first | rfl | kernel_rfl) rfl
      have h9 := HX.out.keep (Below.trans (below_of_drewN _ _ 1) hA.grow.below)
      have x0 := h9.cell (o := 0) rfl
      have x1 := h9.cell (o := 1) rfl
      clear h9
      refine step_value (w' := x) (v := .agg #[.int .i64 key, .int .i64 ver]) ?_ (GrowF.refl _ _ _) rfl
      clear hA
      go_simp
    · intro a x hA
      have t31 : a.tmps[31]?.getD undef = .map (some mf) := hA.dep_ ⟨7, .data⟩ (by simp) _ 31 rfl rfl
      have t32 : a.tmps[32]?.getD undef = .agg #[.int .i64 key, .int .i64 ver] := hA.dep_ ⟨8, .data⟩ (by simp) _ 32 rfl rfl
      have hlk := (HA.out.keep (Below.trans (below_of_drewN _ _ 1) hA.grow.below)).look (key, ver)
      simp only [encS] at hlk
      refine step_value (w' := x) (v := .agg (F.get (key, ver)).cells) ?_ (GrowF.refl _ _ _) rfl
      clear hA
      go_simp
    · intro a x hA
      have t3 := hA.at_ 3 (by first | rfl | kernel_rfl) rfl
      have h9 := HQ.out.keep (Below.trans (below_of_drewN _ _ 1) hA.grow.below)
      have q0 := h9.cell (o := 0) rfl
      have q1 := h9.cell (o := 1) rfl
      have q2 := h9.cell (o := 2) rfl
      have q3 := h9.cell (o := 3) rfl
      have q4 := h9.cell (o := 4) rfl
      clear h9
      refine step_value (w' := x) (v := .agg #[.int .i64 (k : Int), .int .i64 key, .int .i64 ver, .int .i64 bal, .slice a0 l.length c0]) ?_ (GrowF.refl _ _ _) rfl
      clear hA
      go_simp
    · intro a x hA
      have t27 : a.tmps[27]?.getD undef = .func (.func FN) #[] #[] := hA.dep_ ⟨3, .data⟩ (by simp) _ 27 rfl rfl
      have t33 : a.tmps[33]?.getD undef = .agg (F.get (key, ver)).cells := hA.dep_ ⟨9, .data⟩ (by simp) _ 33 rfl rfl
      have t34 : a.tmps[34]?.getD undef = .agg #[.int .i64 (k : Int), .int .i64 key, .int .i64 ver, .int .i64 bal, .slice a0 l.length c0] := hA.dep_ ⟨10, .data⟩ (by simp) _ 34 rfl rfl
      have hs : W6.heap.size ≤ x.heap.size := hA.grow.below.size
      refine step_call (f := FN) (args := #[.agg (F.get (key, ver)).cells, .agg #[.int .i64 (k : Int), .int .i64 key, .int .i64 ver, .int .i64 bal, .slice a0 l.length c0]]) (by clear hA; have hcf9 := hCF; go_simp) ((HH.out x (Below.trans (below_of_drewN _ _ 1) hA.grow.below)).mono ?_)
      rintro e w' ⟨rfl, hb⟩
      exact ⟨_, rfl, GrowF.of_below hs hb, rfl⟩
    · intro a x hA
      have t35 : a.tmps[35]?.getD undef = .tuple #[.agg f1.cells, .int .i64 cd] := hA.dep_ ⟨11, .data⟩ (by simp) _ 35 rfl rfl
      refine step_value (w' := x) (v := .tuple #[.agg f1.cells, .int .i64 cd]) ?_ (GrowF.refl _ _ _) ?_
      · go_simp
      · rfl
    · intro a x hA
      have t23 : a.tmps[23]?.getD undef = .tuple #[.agg f1.cells, .int .i64 cd] := hA.dep_ ⟨12, .data⟩ (by simp) _ 23 rfl rfl
      refine step_value (w' := x) (v := .agg f1.cells) ?_ (GrowF.refl _ _ _) ?_
      · go_simp
      · rfl
    · intro a x hA
      have t23 : a.tmps[23]?.getD undef = .tuple #[.agg f1.cells, .int .i64 cd] := hA.dep_ ⟨12, .data⟩ (by simp) _ 23 rfl rfl
      refine step_value (w' := x) (v := .int .i64 cd) ?_ (GrowF.refl _ _ _) ?_
      · go_simp
      · rfl
    · intro a x hA
      have hs : W6.heap.size ≤ x.heap.size := hA.grow.below.size
      refine step_value (w' := x.alloc (.cells #[.int .i64 0, .int .i64 0, .bool false, .string ⟨#[]⟩] 178)) (v := .pointer (some ⟨x.heap.size, 0, none⟩)) (by go_simp) (GrowF.of_below hs ((Below.refl _ x).alloc (Nat.le_refl _) _)) ?_
      exact ⟨_, rfl, hs, _, _, _, _, Blk.new x _ _⟩
    · intro a x hA
      have t8 : ∃ g, (a.tmps[8]?.getD undef) = .pointer (some ⟨g, 0, none⟩) ∧ W6.heap.size ≤ g ∧ FRow x g := hA.dep_ ⟨15, .data⟩ (by simp) _ 8 rfl rfl
      have t36 : a.tmps[36]?.getD undef = .agg f1.cells := hA.dep_ ⟨13, .data⟩ (by simp) _ 36 rfl rfl
      obtain ⟨g, e8, hge, hrow⟩ := t8
      have hset := hrow.set f1
      have hgr := GrowF.set (f1 := f1) hge hrow
      obtain ⟨z0, z1, z2, z3, hk⟩ := hrow
      have r0 := hk.cell (o := 0) rfl
      have r1 := hk.cell (o := 1) rfl
      have r2 := hk.cell (o := 2) rfl
      have r3 := hk.cell (o := 3) rfl
      have f0 := hk.free 0
      have f9 := hk.free 1
      have f2 := hk.free 2
      have f3 := hk.free 3
      refine step_skip_ (w' := setFact x g f1) ?_ hgr ⟨g, (tms1 a 8).trans (by rw [e8]), hset⟩
      unfold setFact
      unfold Fa.cells at t36
      clear hA hset hgr hk
      go_simp
    · intro a x hA
      have t37 : a.tmps[37]?.getD undef = .int .i64 cd := hA.dep_ ⟨14, .data⟩ (by simp) _ 37 rfl rfl
      refine step_value (w' := x) (v := .int .i64 cd) ?_ (GrowF.refl _ _ _) ?_
      · go_simp
      · rfl
  case rfin =>
    intro y W' hg hV
    simp only [AllValsX, List.map_cons, List.map_nil] at hV
    obtain ⟨_, _, _, _, _, _, _, _, _, _, _, _, _, _, _, ⟨gf, e8, hge, _⟩, ⟨_, g9, e9, kf⟩, hcd9, _⟩ := hV
    rw [e8] at e9
    obtain rfl : gf = g9 := by simpa using e9
    clear e9
    have hg2 := Below.trans (below_of_drewN _ _ 1) hg.below
    have HA7 := hid (HA.out.keep hg2)
    have HX7 := hid (HX.out.keep hg2)
    have HR7 := hid (HR.out.keep hg2)
    have HB7 := hid (HB.out.trans (hg2.mono HB.out.size))
    have hsz7 := hg2.size
    have HKF := hid kf
    have hkfl := kf.lt
    have HZ7 := hid (And.intro hge (And.intro hsz7 hkfl))
    clear hg hg2
    simp only [putAll, Act.put, List.setIfInBounds_toArray, List.set_cons_zero, List.set_cons_succ]
    rw [hcd9, e8]
    clear hcd9 e8 hge hsz7 hkfl
    unfold Fa.cells at kf
    have kx7 := HX7.out
    have x0 := kx7.cell (o := 0) rfl
    have x1 := kx7.cell (o := 1) rfl
    have y0 := kf.cell (o := 0) rfl
    have y1 := kf.cell (o := 1) rfl
    have y2 := kf.cell (o := 2) rfl
    have y3 := kf.cell (o := 3) rfl
    clear kf kx7 e0 e1 e2 e3 e4' hW1 hW2 hW3 hW4 hW5 xf0 xf1
    rcases hcd with rfl | rfl
    · rw [if_pos rfl] at HDO
      go_wp2_with fail
      refine (acc_keep HA7.out key ver f1 HOK.out.1 HOK.out.2.1 HOK.out.2.2).mono ?_
      intro e W8 hpost
      unfold KeepPost at hpost
      obtain ⟨rfl, ⟨q8, a8, w8⟩, x8⟩ := hpost
      have hkc := keepA_code F S D key ver f1
      have HE := hid HDO.out
      generalize keepA F S D key ver f1 = K at *
      obtain ⟨er, F8, S8, D8⟩ := K
      simp only at hkc a8 HE ⊢
      have hown : ∀ b, q.own b → b < W.heap.size := fun b hb => HS.out b (.inl hb)
      have HA8 := hid a8
      have HX8 := hid (HX7.out.ext x8 (fun hc => by
        have hz := HZ.out
        rcases hc with hc | hc
        · omega
        · have := hown _ hc
          omega))
      have HR8 := hid (HR7.out.ext x8 (fun hc => by
        have hz := HZ.out
        rcases hc with hc | hc
        · omega
        · have := hown _ hc
          omega))
      have HW8 := hid ((Ext.ofBelow HB7.out : Ext (fun b => b = mf ∨ q.own b) W _).trans' x8)
      have HWq := hid (w8.le HB7.out.size)
      have HZ8 := hid (show ¬ q8.all W1.heap.size ∧ W1.heap.size < W8.heap.size ∧ W.heap.size ≤ W8.heap.size by
        have hz := HZ.out
        have hz7 := HZ7.out
        have h8 := x8.size
        refine ⟨fun hc => ?_, by omega, by omega⟩
        rcases w8.2.2.2.2 _ hc with h9 | h9
        · have := HS.out _ h9
          omega
        · omega)
      have d0 : (er == 8) = false := by simp [hkc.1]
      clear a8 w8 x8 hown hkc HDO
      go_wp2_with fail
      refine wp_region_tail 9 rfl Grows (fun i v x => match i with
          | 0 => v = .agg #[.int .i64 key, .int .i64 ver]
          | 1 => v = .pointer (some ⟨n, 0, none⟩)
          | 2 => v = .pointer (some ⟨n, 0, none⟩)
          | 3 => v = .pointer (some ⟨n, 2, none⟩)
          | 4 => v = .map (some mf)
          | 5 => v = .agg #[.int .i64 key, .int .i64 ver]
          | 6 => v = .agg (F8.get (key, ver)).cells
          | 7 => v = .int .i64 er
          | 8 => ∃ v9, v = .agg #[.int .i64 er, .int .i64 ver, .int .i64 (F8.get (key, ver)).pr, .int .i64 (F8.get (key, ver)).ba, .bool (F8.get (key, ver)).le, v9] ∧ Bs x v9 (F8.get (key, ver)).va ∧ ∀ g, v9.ownBlock = some g → W8.heap.size ≤ g
          | _ => True) (by kernel_rfl) (Grows.refl _) Grows.trans ?rstab ?rsteps ?rfin
      case rstab =>
        intro i v x y hg h
        match i with
        | 0 | 1 | 2 | 3 | 4 | 5 | 6 | 7 => exact h
        | 8 => exact (by obtain ⟨v9, e9, h9, g9⟩ := h; exact ⟨v9, e9, h9.keep hg, g9⟩)
        | n + 9 => trivial
      case rsteps =>
        simp only [List.take_succ_cons, List.take_zero]
        refine ⟨?_, ?_, ?_, ?_, ?_, ?_, ?_, ?_, ?_, trivial⟩
        · intro a x hA
          have t6 := hA.at_ 6 (by first | rfl | kernel_rfl) rfl
          have h9 := HX8.out.keep hA.grown
          have x0 := h9.cell (o := 0) rfl
          have x1 := h9.cell (o := 1) rfl
          clear h9
          refine step_value (w' := x) (v := .agg #[.int .i64 key, .int .i64 ver]) ?_ (Grows.refl _) rfl
          clear hA
          go_simp
        · intro a x hA
          have t0 := hA.at_ 0 (by first | rfl | kernel_rfl) rfl
          refine step_value (w' := x) (v := .pointer (some ⟨n, 0, none⟩)) ?_ (Grows.refl _) ?_
          · go_simp
          · rfl
        · intro a x hA
          have t51 : a.tmps[51]?.getD undef = .pointer (some ⟨n, 0, none⟩) := hA.dep_ ⟨1, .data⟩ (by simp) _ 51 rfl rfl
          refine step_value (w' := x) (v := .pointer (some ⟨n, 0, none⟩)) ?_ (Grows.refl _) ?_
          · go_simp
          · rfl
        · intro a x hA
          have t52 : a.tmps[52]?.getD undef = .pointer (some ⟨n, 0, none⟩) := hA.dep_ ⟨2, .data⟩ (by simp) _ 52 rfl rfl
          refine step_value (w' := x) (v := .pointer (some ⟨n, 2, none⟩)) ?_ (Grows.refl _) ?_
          · go_simp
          · rfl
        · intro a x hA
          have t53 : a.tmps[53]?.getD undef = .pointer (some ⟨n, 2, none⟩) := hA.dep_ ⟨3, .data⟩ (by simp) _ 53 rfl rfl
          have h9 := HA8.out.cell.keep hA.grown
          have n2 := h9.cell (o := 2) rfl
          clear h9
          refine step_value (w' := x) (v := .map (some mf)) ?_ (Grows.refl _) rfl
          clear hA
          go_simp
        · intro a x hA
          have t6 := hA.at_ 6 (by first | rfl | kernel_rfl) rfl
          have h9 := HX8.out.keep hA.grown
          have x0 := h9.cell (o := 0) rfl
          have x1 := h9.cell (o := 1) rfl
          clear h9
          refine step_value (w' := x) (v := .agg #[.int .i64 key, .int .i64 ver]) ?_ (Grows.refl _) rfl
          clear hA
          go_simp
        · intro a x hA
          have t54 : a.tmps[54]?.getD undef = .map (some mf) := hA.dep_ ⟨4, .data⟩ (by simp) _ 54 rfl rfl
          have t55 : a.tmps[55]?.getD undef = .agg #[.int .i64 key, .int .i64 ver] := hA.dep_ ⟨5, .data⟩ (by simp) _ 55 rfl rfl
          have hlk := (HA8.out.keep hA.grown).look (key, ver)
          simp only [encS] at hlk
          refine step_value (w' := x) (v := .agg (F8.get (key, ver)).cells) ?_ (Grows.refl _) rfl
          clear hA
          go_simp
        · intro a x hA
          have t9 := hA.at_ 9 (by first | rfl | kernel_rfl) rfl
          refine step_value (w' := x) (v := .int .i64 er) ?_ (Grows.refl _) ?_
          · go_simp
          · rfl
        · intro a x hA
          have t50 : a.tmps[50]?.getD undef = .agg #[.int .i64 key, .int .i64 ver] := hA.dep_ ⟨0, .data⟩ (by simp) _ 50 rfl rfl
          have t56 : a.tmps[56]?.getD undef = .agg (F8.get (key, ver)).cells := hA.dep_ ⟨6, .data⟩ (by simp) _ 56 rfl rfl
          have t57 : a.tmps[57]?.getD undef = .int .i64 er := hA.dep_ ⟨7, .data⟩ (by simp) _ 57 rfl rfl
          have hs := hA.grow.size
          refine step_call (f := 107) (args := #[encS (key, ver), .agg (F8.get (key, ver)).cells, .int .i64 er]) (by unfold encS; go_simp) ((acc_told (key, ver) (F8.get (key, ver)) er x (by have := (Fs.get_ok HA8.out.small (key, ver)).va; omega)).mono ?_)
          rintro e w' ⟨v, rfl, hbs, ho, hb⟩
          exact ⟨_, rfl, hb, v, rfl, hbs, fun g hg => Nat.le_trans hs (ho g hg)⟩
      case rfin =>
        intro y W' hg hV
        simp only [List.take_succ_cons, List.take_zero, AllVals] at hV
        obtain ⟨_, _, _, _, _, _, _, _, ⟨v9, e9, h9, g9⟩, _⟩ := hV
        have hg2 := Below.trans (below_of_drewN _ _ 1) hg
        have kr := HR8.out.keep hg2
        have a9 := HA8.out.keep hg2
        have xw := HW8.out.then hg2
        have HV := hid (And.intro h9 g9)
        obtain ⟨av, cv, eF⟩ := h9.form
        clear hg hg2 h9 g9
        simp only [List.take_succ_cons, List.take_zero, List.drop_succ_cons, List.drop_zero, putAll, Act.put, List.setIfInBounds_toArray, List.set_cons_zero, List.set_cons_succ]
        rw [e9]
        clear e9
        rw [eF] at HV ⊢
        clear eF
        have r0 := kr.cell (o := 0) rfl
        have f0 := kr.free 0
        have r1 := kr.cell (o := 1) rfl
        have f1 := kr.free 1
        have r2 := kr.cell (o := 2) rfl
        have f2 := kr.free 2
        have r3 := kr.cell (o := 3) rfl
        have f3 := kr.free 3
        have r4 := kr.cell (o := 4) rfl
        have f4 := kr.free 4
        have r5 := kr.cell (o := 5) rfl
        have f5 := kr.free 5
        obtain ⟨W9, hW9⟩ : ∃ W9, ((((((W'.setCell ⟨W1.heap.size, 0, none⟩ (.int .i64 er)).setCell ⟨W1.heap.size, 1, none⟩ (.int .i64 ver)).setCell ⟨W1.heap.size, 2, none⟩ (.int .i64 (F8.get (key, ver)).pr)).setCell ⟨W1.heap.size, 3, none⟩ (.int .i64 (F8.get (key, ver)).ba)).setCell ⟨W1.heap.size, 4, none⟩ (.bool (F8.get (key, ver)).le)).setCell ⟨W1.heap.size, 5, none⟩ (.slice av (F8.get (key, ver)).va.length cv)) = W9 := ⟨_, rfl⟩
        have k9 := ((((((kr.set (o := 0) (.int .i64 er)).set (o := 1) (.int .i64 ver)).set (o := 2) (.int .i64 (F8.get (key, ver)).pr)).set (o := 3) (.int .i64 (F8.get (key, ver)).ba)).set (o := 4) (.bool (F8.get (key, ver)).le)).set (o := 5) (.slice av (F8.get (key, ver)).va.length cv))
        rw [hW9] at k9
        simp only [List.setIfInBounds_toArray, List.set_cons_zero, List.set_cons_succ] at k9
        have x9 : Ext (fun b => b = W1.heap.size) W' W9 := by rw [← hW9]; exact (((((((Ext.refl (fun b => b = W1.heap.size) W').setCell (.inl rfl) _).setCell (.inl rfl) _).setCell (.inl rfl) _).setCell (.inl rfl) _).setCell (.inl rfl) _).setCell (.inl rfl) _)
        have s9 : Bs W9 (.slice av (F8.get (key, ver)).va.length cv) (F8.get (key, ver)).va := HV.out.1.ext x9 (fun k hk _ e => by
          have e2 : k = W1.heap.size := e
          have := HV.out.2 k hk
          have := HZ8.out.2.1
          omega)
        have a10 := a9.ext2 x9 (fun b hb hc => by
          have e2 : b = W1.heap.size := hb
          subst e2
          exact HZ8.out.1 hc) (by have := HZ.out; omega) (by have := HZ.out; omega)
        have x10 := xw.trans x9 (fun b hb => by
          have e2 : b = W1.heap.size := hb
          have := HZ.out
          exact .inr (by omega))
        have HH9 := hid (And.intro k9 (And.intro s9 (And.intro a10 x10)))
        have HW9 := hid hW9
        clear k9 hW9 x9 s9 a9 a10 x10 xw kr
        go_wp2_with fail
        rw [HW9.out]
        have hld := run_loadVar_row (P := Tryz.prog) W9 W1.heap.size 44 44 _ (0, 0) _ HH9.out.1 Tryz.underlying44 rfl size_ans
        refine bodyPost_ret (v := .tuple #[.agg #[.int .i64 er, .int .i64 ver, .int .i64 (F8.get (key, ver)).pr, .int .i64 (F8.get (key, ver)).ba, .bool (F8.get (key, ver)).le, .slice av (F8.get (key, ver)).va.length cv], .bool true]) ?_ rfl ?_
        · simp [results, Tryz.results65, hld, asAddr]
        · unfold AnswerPost
          rw [HE.out]
          exact ⟨_, rfl, HH9.out.2.1, fun g hg => Nat.le_trans HZ8.out.2.2 (HV.out.2 g hg), ⟨q8, HH9.out.2.2.1, HWq.out⟩, HH9.out.2.2.2⟩
    · rw [if_neg (by decide)] at HDO
      have HE := hid HDO.out
      obtain ⟨W8, hW8⟩ : ∃ W8, W8 = W' := ⟨_, rfl⟩
      subst hW8
      have HA8 := HA7
      have HX8 := HX7
      have HR8 := HR7
      have HW8 := hid (Ext.ofBelow HB7.out : Ext (fun b => b = mf ∨ q.own b) W _)
      have HWq := hid (Went.refl q W.heap.size)
      have HZ8 := hid (show ¬ q.all W1.heap.size ∧ W1.heap.size < W8.heap.size ∧ W.heap.size ≤ W8.heap.size by
        have hz := HZ.out
        have hz7 := HZ7.out
        refine ⟨fun hc => ?_, by omega, by omega⟩
        have := HS.out _ hc
        omega)
      clear HDO
      go_wp2_with fail
      refine wp_region_tail 9 rfl Grows (fun i v x => match i with
          | 0 => v = .agg #[.int .i64 key, .int .i64 ver]
          | 1 => v = .pointer (some ⟨n, 0, none⟩)
          | 2 => v = .pointer (some ⟨n, 0, none⟩)
          | 3 => v = .pointer (some ⟨n, 2, none⟩)
          | 4 => v = .map (some mf)
          | 5 => v = .agg #[.int .i64 key, .int .i64 ver]
          | 6 => v = .agg (F.get (key, ver)).cells
          | 7 => v = .int .i64 34
          | 8 => ∃ v9, v = .agg #[.int .i64 34, .int .i64 ver, .int .i64 (F.get (key, ver)).pr, .int .i64 (F.get (key, ver)).ba, .bool (F.get (key, ver)).le, v9] ∧ Bs x v9 (F.get (key, ver)).va ∧ ∀ g, v9.ownBlock = some g → W8.heap.size ≤ g
          | _ => True) (by kernel_rfl) (Grows.refl _) Grows.trans ?rstab ?rsteps ?rfin
      case rstab =>
        intro i v x y hg h
        match i with
        | 0 | 1 | 2 | 3 | 4 | 5 | 6 | 7 => exact h
        | 8 => exact (by obtain ⟨v9, e9, h9, g9⟩ := h; exact ⟨v9, e9, h9.keep hg, g9⟩)
        | n + 9 => trivial
      case rsteps =>
        simp only [List.take_succ_cons, List.take_zero]
        refine ⟨?_, ?_, ?_, ?_, ?_, ?_, ?_, ?_, ?_, trivial⟩
        · intro a x hA
          have t6 := hA.at_ 6 (by first | rfl | kernel_rfl) rfl
          have h9 := HX8.out.keep hA.grown
          have x0 := h9.cell (o := 0) rfl
          have x1 := h9.cell (o := 1) rfl
          clear h9
          refine step_value (w' := x) (v := .agg #[.int .i64 key, .int .i64 ver]) ?_ (Grows.refl _) rfl
          clear hA
          go_simp
        · intro a x hA
          have t0 := hA.at_ 0 (by first | rfl | kernel_rfl) rfl
          refine step_value (w' := x) (v := .pointer (some ⟨n, 0, none⟩)) ?_ (Grows.refl _) ?_
          · go_simp
          · rfl
        · intro a x hA
          have t51 : a.tmps[51]?.getD undef = .pointer (some ⟨n, 0, none⟩) := hA.dep_ ⟨1, .data⟩ (by simp) _ 51 rfl rfl
          refine step_value (w' := x) (v := .pointer (some ⟨n, 0, none⟩)) ?_ (Grows.refl _) ?_
          · go_simp
          · rfl
        · intro a x hA
          have t52 : a.tmps[52]?.getD undef = .pointer (some ⟨n, 0, none⟩) := hA.dep_ ⟨2, .data⟩ (by simp) _ 52 rfl rfl
          refine step_value (w' := x) (v := .pointer (some ⟨n, 2, none⟩)) ?_ (Grows.refl _) ?_
          · go_simp
          · rfl
        · intro a x hA
          have t53 : a.tmps[53]?.getD undef = .pointer (some ⟨n, 2, none⟩) := hA.dep_ ⟨3, .data⟩ (by simp) _ 53 rfl rfl
          have h9 := HA8.out.cell.keep hA.grown
          have n2 := h9.cell (o := 2) rfl
          clear h9
          refine step_value (w' := x) (v := .map (some mf)) ?_ (Grows.refl _) rfl
          clear hA
          go_simp
        · intro a x hA
          have t6 := hA.at_ 6 (by first | rfl | kernel_rfl) rfl
          have h9 := HX8.out.keep hA.grown
          have x0 := h9.cell (o := 0) rfl
          have x1 := h9.cell (o := 1) rfl
          clear h9
          refine step_value (w' := x) (v := .agg #[.int .i64 key, .int .i64 ver]) ?_ (Grows.refl _) rfl
          clear hA
          go_simp
        · intro a x hA
          have t54 : a.tmps[54]?.getD undef = .map (some mf) := hA.dep_ ⟨4, .data⟩ (by simp) _ 54 rfl rfl
          have t55 : a.tmps[55]?.getD undef = .agg #[.int .i64 key, .int .i64 ver] := hA.dep_ ⟨5, .data⟩ (by simp) _ 55 rfl rfl
          have hlk := (HA8.out.keep hA.grown).look (key, ver)
          simp only [encS] at hlk
          refine step_value (w' := x) (v := .agg (F.get (key, ver)).cells) ?_ (Grows.refl _) rfl
          clear hA
          go_simp
        · intro a x hA
          have t9 := hA.at_ 9 (by first | rfl | kernel_rfl) rfl
          refine step_value (w' := x) (v := .int .i64 34) ?_ (Grows.refl _) ?_
          · go_simp
          · rfl
        · intro a x hA
          have t50 : a.tmps[50]?.getD undef = .agg #[.int .i64 key, .int .i64 ver] := hA.dep_ ⟨0, .data⟩ (by simp) _ 50 rfl rfl
          have t56 : a.tmps[56]?.getD undef = .agg (F.get (key, ver)).cells := hA.dep_ ⟨6, .data⟩ (by simp) _ 56 rfl rfl
          have t57 : a.tmps[57]?.getD undef = .int .i64 34 := hA.dep_ ⟨7, .data⟩ (by simp) _ 57 rfl rfl
          have hs := hA.grow.size
          refine step_call (f := 107) (args := #[encS (key, ver), .agg (F.get (key, ver)).cells, .int .i64 34]) (by unfold encS; go_simp) ((acc_told (key, ver) (F.get (key, ver)) 34 x (by have := (Fs.get_ok HA8.out.small (key, ver)).va; omega)).mono ?_)
          rintro e w' ⟨v, rfl, hbs, ho, hb⟩
          exact ⟨_, rfl, hb, v, rfl, hbs, fun g hg => Nat.le_trans hs (ho g hg)⟩
      case rfin =>
        intro y W' hg hV
        simp only [List.take_succ_cons, List.take_zero, AllVals] at hV
        obtain ⟨_, _, _, _, _, _, _, _, ⟨v9, e9, h9, g9⟩, _⟩ := hV
        have hg2 := Below.trans (below_of_drewN _ _ 1) hg
        have kr := HR8.out.keep hg2
        have a9 := HA8.out.keep hg2
        have xw := HW8.out.then hg2
        have HV := hid (And.intro h9 g9)
        obtain ⟨av, cv, eF⟩ := h9.form
        clear hg hg2 h9 g9
        simp only [List.take_succ_cons, List.take_zero, List.drop_succ_cons, List.drop_zero, putAll, Act.put, List.setIfInBounds_toArray, List.set_cons_zero, List.set_cons_succ]
        rw [e9]
        clear e9
        rw [eF] at HV ⊢
        clear eF
        have r0 := kr.cell (o := 0) rfl
        have f0 := kr.free 0
        have r1 := kr.cell (o := 1) rfl
        have f1 := kr.free 1
        have r2 := kr.cell (o := 2) rfl
        have f2 := kr.free 2
        have r3 := kr.cell (o := 3) rfl
        have f3 := kr.free 3
        have r4 := kr.cell (o := 4) rfl
        have f4 := kr.free 4
        have r5 := kr.cell (o := 5) rfl
        have f5 := kr.free 5
        obtain ⟨W9, hW9⟩ : ∃ W9, ((((((W'.setCell ⟨W1.heap.size, 0, none⟩ (.int .i64 34)).setCell ⟨W1.heap.size, 1, none⟩ (.int .i64 ver)).setCell ⟨W1.heap.size, 2, none⟩ (.int .i64 (F.get (key, ver)).pr)).setCell ⟨W1.heap.size, 3, none⟩ (.int .i64 (F.get (key, ver)).ba)).setCell ⟨W1.heap.size, 4, none⟩ (.bool (F.get (key, ver)).le)).setCell ⟨W1.heap.size, 5, none⟩ (.slice av (F.get (key, ver)).va.length cv)) = W9 := ⟨_, rfl⟩
        have k9 := ((((((kr.set (o := 0) (.int .i64 34)).set (o := 1) (.int .i64 ver)).set (o := 2) (.int .i64 (F.get (key, ver)).pr)).set (o := 3) (.int .i64 (F.get (key, ver)).ba)).set (o := 4) (.bool (F.get (key, ver)).le)).set (o := 5) (.slice av (F.get (key, ver)).va.length cv))
        rw [hW9] at k9
        simp only [List.setIfInBounds_toArray, List.set_cons_zero, List.set_cons_succ] at k9
        have x9 : Ext (fun b => b = W1.heap.size) W' W9 := by rw [← hW9]; exact (((((((Ext.refl (fun b => b = W1.heap.size) W').setCell (.inl rfl) _).setCell (.inl rfl) _).setCell (.inl rfl) _).setCell (.inl rfl) _).setCell (.inl rfl) _).setCell (.inl rfl) _)
        have s9 : Bs W9 (.slice av (F.get (key, ver)).va.length cv) (F.get (key, ver)).va := HV.out.1.ext x9 (fun k hk _ e => by
          have e2 : k = W1.heap.size := e
          have := HV.out.2 k hk
          have := HZ8.out.2.1
          omega)
        have a10 := a9.ext2 x9 (fun b hb hc => by
          have e2 : b = W1.heap.size := hb
          subst e2
          exact HZ8.out.1 hc) (by have := HZ.out; omega) (by have := HZ.out; omega)
        have x10 := xw.trans x9 (fun b hb => by
          have e2 : b = W1.heap.size := hb
          have := HZ.out
          exact .inr (by omega))
        have HH9 := hid (And.intro k9 (And.intro s9 (And.intro a10 x10)))
        have HW9 := hid hW9
        clear k9 hW9 x9 s9 a9 a10 x10 xw kr
        go_wp2_with fail
        rw [HW9.out]
        have hld := run_loadVar_row (P := Tryz.prog) W9 W1.heap.size 44 44 _ (0, 0) _ HH9.out.1 Tryz.underlying44 rfl size_ans
        refine bodyPost_ret (v := .tuple #[.agg #[.int .i64 34, .int .i64 ver, .int .i64 (F.get (key, ver)).pr, .int .i64 (F.get (key, ver)).ba, .bool (F.get (key, ver)).le, .slice av (F.get (key, ver)).va.length cv], .bool true]) ?_ rfl ?_
        · simp [results, Tryz.results65, hld, asAddr]
        · unfold AnswerPost
          rw [HE.out]
          exact ⟨_, rfl, HH9.out.2.1, fun g hg => Nat.le_trans HZ8.out.2.2 (HV.out.2 g hg), ⟨q, HH9.out.2.2.1, HWq.out⟩, HH9.out.2.2.2⟩
end
end Go.Proofs.YtcdcjoofcbdilaaGreat
