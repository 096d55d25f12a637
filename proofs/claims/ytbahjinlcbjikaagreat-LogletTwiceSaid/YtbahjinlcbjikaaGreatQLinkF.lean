import Derived.Test.YtbahjinlcbjikaaGreatMQLinkE
import Derived.Test.YtbahjinlcbjikaaGreatMQLog1
/-! Package loglet: replies, ask. -/
namespace Go.Proofs.YtbahjinlcbjikaaGreat
open Go.RowKit
attribute [local go_sem] Oper.semAt_some

section
variable {W : World} {L : Nat} {p : LkP} {s : LkS}
set_option maxRecDepth 100000 in
set_option maxHeartbeats 1600000 in
theorem log_replies (L : Nat) (iz k lo po : Int) (na : Option Addr) (nn nc : Nat) (da : Option Addr) (dn dc : Nat) :
    Calls Tryz.prog 41 #[.pointer (some ⟨L, 0, none⟩), .agg #[.int .i64 iz, .slice na nn nc], .agg #[.int .i64 k, .int .i64 lo, .int .i64 po, .slice da dn dc]] W fun e w' => e = .returned (.func (.func 70) #[] #[.pointer (some ⟨W.heap.size + 1, 0, none⟩), .pointer (some ⟨W.heap.size, 0, none⟩), .pointer (some ⟨W.heap.size + 2, 0, none⟩)]) ∧
      w' = ((W.alloc (.cells #[.pointer (some ⟨L, 0, none⟩)] 36)).alloc (.cells #[.int .i64 iz, .slice na nn nc] 24)).alloc (.cells #[.int .i64 k, .int .i64 iz, .int .i64 po, .slice da dn dc] 55) := by
  go_enter Tryz.func41, Tryz.ntmps41
  go_wp2_with fail
  go_ret
  exact ⟨rfl, rfl⟩

theorem b8_keep {W8 W' : World} {n : Nat} (h : W8.heap.size = n + 8) (hb : Below W8.heap.size W8 W') : Below W8.heap.size W8 W' := hb
/-- The replies' count by error, as the map holds it. -/
def cntF (rs : List LRp) (e : Int) : Value := .int .i64 (cntE e rs : Int)
theorem cntE_le (e : Int) (rs : List LRp) : cntE e rs ≤ rs.length := by
  unfold cntE
  exact List.length_filter_le _ _
theorem cntF_snoc {rs : List LRp} {j : Nat} {r : LRp} (h : rs[j]? = some r) (y : Int) : (if y = r.e then Value.int .i64 ((cntE r.e (rs.take j) : Int) + 1) else cntF (rs.take j) y) = cntF (rs.take (j + 1)) y := by
  have ht : rs.take (j + 1) = rs.take j ++ [r] := by rw [List.take_add_one, h]; rfl
  unfold cntF
  rw [ht]
  unfold cntE
  rw [List.filter_append]
  by_cases hy : y = r.e
  · rw [if_pos hy]
    subst hy
    simp
  · rw [if_neg hy]
    have : decide (r.e = y) = false := decide_eq_false (fun e => hy e.symm)
    simp [this]
theorem repliesL_length {k lo po : Int} {l : List UInt8} : ∀ (ns : List Int) (s : LkS), (repliesL s k lo po l ns).1.length ≤ ns.length
  | [], s => by simp [repliesL]
  | n :: r, s => by
    have := repliesL_length (k := k) (lo := lo) (po := po) (l := l) r (askL s n k lo po l).2
    simp only [repliesL, List.length_append, List.length_cons]
    cases (askL s n k lo po l).1 <;> simp <;> omega
/-- The blocks that ask must not lose: its own first ones, the nodes' numbers, the data. -/
def keptB (W : World) (nv dv : Value) (b : Nat) : Prop := (W.heap.size + 5 ≤ b ∧ b < W.heap.size + 8) ∨ nv.ownBlock = some b ∨ dv.ownBlock = some b
/-- What ask gives back. -/
def AskPost7 (W : World) (L : Nat) (p : LkP) (R : List LRp × LkS) (cs : Nat → Prop) (JC : (Nat → Prop) → World → Prop) (e : Ending) (w' : World) : Prop :=
  ∃ m p', e = .returned (.map (some m)) ∧ W.heap.size ≤ m ∧ TabAt w' m (.int .i64 0) (cntF R.1) ∧ LkAt w' L p' R.2 ∧ (∀ b, p'.all L b → p.all L b ∨ W.heap.size ≤ b) ∧ ¬ p'.all L m ∧ JC (p'.all L) w' ∧ Ext (fun b => p.all L b ∨ cs b) W w'

set_option maxRecDepth 100000 in
set_option maxHeartbeats 12800000 in
theorem log_ask_nil (h : LkAt W L p s) (hpr : s.room 1073741824) (iz k lo po : Int) (nv dv : Value) (nodes : List Int) (l : List UInt8) (hn : Is W nv nodes) (hd : Bs W dv l) (hnl : nodes.length ≤ 1073741824) (k4 : ∀ g, nv.ownBlock = some g → ¬ p.all L g ∧ g < W.heap.size) (k5 : ∀ g, dv.ownBlock = some g → ¬ p.all L g ∧ g < W.heap.size)  :
    Calls Tryz.prog 39 #[.pointer (some ⟨L, 0, none⟩), .agg #[.int .i64 iz, nv], .agg #[.int .i64 k, .int .i64 lo, .int .i64 po, dv], .nilFunc] W (AskPost7 W L p (repliesL s k iz po l nodes) (fun _ => False) (fun _ _ => True)) := by
  obtain ⟨rs, hrs⟩ : ∃ rs, (repliesL s k iz po l nodes).1 = rs := ⟨_, rfl⟩
  have hrl : rs.length ≤ nodes.length := by rw [← hrs]; exact repliesL_length _ _
  have HRS := hid hrs
  obtain ⟨na, nc, hnv⟩ : ∃ a c, nv = .slice a nodes.length c := by obtain ⟨a, c, e, _⟩ := hn; exact ⟨a, c, e⟩
  obtain ⟨da, dc, hdv⟩ := hd.form
  subst hnv
  subst hdv
  have hmm := @run_makeMap Tryz.prog
  obtain ⟨W3, hW3⟩ : ∃ W3, ((W.alloc (.cells #[.int .i64 iz, .slice na nodes.length nc] 24)).alloc (.cells #[.int .i64 k, .int .i64 lo, .int .i64 po, .slice da l.length dc] 55)).alloc (.cells #[.nilFunc] 109) = W3 := ⟨_, rfl⟩
  have s3 : W3.heap.size = W.heap.size + 3 := by rw [← hW3]; simp
  have b3 : Below W.heap.size W W3 := by rw [← hW3]; exact (((Below.refl _ W).alloc (Nat.le_refl _) _).alloc (by simp) _).alloc (by simp; omega) _
  have q5 : Blk W3 W.heap.size #[.int .i64 iz, .slice na nodes.length nc] 24 := by rw [← hW3]; exact ((Blk.new W _ _).alloc _).alloc _
  have q6 : Blk W3 (W.heap.size + 1) #[.int .i64 k, .int .i64 lo, .int .i64 po, .slice da l.length dc] 55 := by rw [← hW3]; exact (Blk.new' _ _ (by simp) _ _).alloc _
  have q7 : Blk W3 (W.heap.size + 2) #[.nilFunc] 109 := by rw [← hW3]; exact Blk.new' _ _ (by simp) _ _
  obtain ⟨W5, hW5⟩ : ∃ W5, (W3.alloc (.map #[] 0)).alloc (.cells #[.map (some (W.heap.size + 3))] 102) = W5 := ⟨_, rfl⟩
  have s5 : W5.heap.size = W.heap.size + 5 := by rw [← hW5]; simp [s3]
  have b35 : Below W3.heap.size W3 W5 := by rw [← hW5]; exact ((Below.refl _ W3).alloc (Nat.le_refl _) _).alloc (by simp) _
  have q9 : Blk W5 (W.heap.size + 4) #[.map (some (W.heap.size + 3))] 102 := by rw [← hW5]; exact Blk.new' _ _ (by simp [s3]) _ _
  have t9 : TabAt W5 (W.heap.size + 3) (.int .i64 0) (fun _ => .int .i64 0) := by
    have h1 := TabAt.new W3 (.int .i64 0)
    rw [s3] at h1
    rw [← hW5]
    exact h1.keep ((Below.refl _ _).alloc (Nat.le_refl _) _)
  have q5 := q5.keep b35
  have q6 := q6.keep b35
  have q7 := q7.keep b35
  have b5 := b3.trans (b35.mono b3.size)
  have e0 := q5.cell (o := 0) rfl
  have e1 := q5.cell (o := 1) rfl
  have e2 := q6.cell (o := 0) rfl
  have e3 := q6.cell (o := 1) rfl
  have e4 := q6.cell (o := 2) rfl
  have e5 := q6.cell (o := 3) rfl
  clear b3 b35
  refine callsIn_wide.1 (callsIn_of_wp_marks (n := 0) Tryz.func39 rfl trivial ?_)
  simp only [Tryz.ntmps39, List.size_toArray, List.length_cons, List.length_nil, Nat.reduceAdd, Nat.reduceSub, Array.replicate_succ, Array.replicate_zero, List.push_toArray, List.append_toArray, List.nil_append, List.cons_append]
  gi_wp2
  refine ⟨trivial, rfl, callsIn_wide.2 ((log_replies L iz k lo po na nodes.length nc da l.length dc).mono ?_)⟩
  rintro e W8 ⟨rfl, hW8⟩
  have s8 : W8.heap.size = W.heap.size + 8 := by rw [hW8]; simp [s5]
  have b58 : Below W5.heap.size W5 W8 := by rw [hW8]; exact (((Below.refl _ W5).alloc (Nat.le_refl _) _).alloc (by simp) _).alloc (by simp; omega) _
  have kl : Blk W8 (W.heap.size + 5) #[.pointer (some ⟨L, 0, none⟩)] 36 := by rw [hW8]; exact ((Blk.new' W5 _ (by omega) _ _).alloc _).alloc _
  have kc : Blk W8 (W.heap.size + 6) #[.int .i64 iz, .slice na nodes.length nc] 24 := by rw [hW8]; exact (Blk.new' _ _ (by simp; omega) _ _).alloc _
  have kr : Blk W8 (W.heap.size + 7) #[.int .i64 k, .int .i64 iz, .int .i64 po, .slice da l.length dc] 55 := by rw [hW8]; exact Blk.new' _ _ (by simp; omega) _ _
  have q7 := q7.keep b58
  have q9 := q9.keep b58
  have t9 := t9.keep b58
  have b8 := b5.trans (b58.mono b5.size)
  have HS := hid (And.intro h (And.intro hpr (And.intro hn (And.intro hd (And.intro kl (And.intro kc kr))))))
  have HK := hid (And.intro k4 k5)
  have HT := hid (And.intro q7 (And.intro q9 (And.intro t9 b8)))
  have hpl : ∀ b, p.all L b → b < W.heap.size := fun b hb => h.size hb
  have HPL := hid hpl
  rw [s5]
  clear hW8 hW5 hW3 e0 e1 e2 e3 e4 e5 q5 q6 q7 q9 t9 b5 b8 b58 kl kc kr h hpr hn hd k4 k5 hpl hmm
  gi_wp2
  refine wpIn_rangeL (gf := 70) (lb := #[.pointer (some ⟨W.heap.size + 6, 0, none⟩), .pointer (some ⟨W.heap.size + 5, 0, none⟩), .pointer (some ⟨W.heap.size + 7, 0, none⟩)]) ?g ?eg (N := rs.length) (Y := RepY rs (W.heap.size + 10)) (kp := keptB W (.slice na nodes.length nc) (.slice da l.length dc)) (Fin := RepFin L (repliesL s k iz po l nodes).2) (FinX := fun j => RepFin L (afterL k iz po l s nodes j)) (al0 := p.all L) (M := W.heap.size + 10) ?hM ?hit
    (fun j al WX => True ∧ TabAt WX (W.heap.size + 3) (.int .i64 0) (cntF (rs.take j)) ∧ Blk WX (W.heap.size + 4) #[.map (some (W.heap.size + 3))] 102 ∧ Blk WX (W.heap.size + 2) #[.nilFunc] 109 ∧ (∀ b, al b → p.all L b ∨ W.heap.size + 8 ≤ b) ∧ Ext (fun b => p.all L b ∨ False) W WX ∧ W.heap.size + 8 ≤ WX.heap.size)
    (fun _ _ _ _ => False) ?hI ?hIx ?hYs ?hFin ?hFinX ?hal ?hkp ?h0 (fun _ W0 t => t.setIfInBounds 10 (.pointer (some ⟨W0.heap.size, 0, none⟩))) (fun (args : Array Value) (W0 : World) => match args[0]? with | some (Value.agg cs) => W0.alloc (.cells cs 51) | _ => W0) ?hAW ?hassign ?hbody ?hdone ?hstop
  case g => rfl
  case eg => intro args w; rfl
  case hM => omega
  case hit =>
    intro W' hb hs
    obtain ⟨h, hpr, hn, hd, kl, kc, kr⟩ := HS.out
    have hb := b8_keep s8 hb
    have hno : ∀ b, W.heap.size ≤ b → ¬ p.all L b := fun b hb hc => by have := HPL.out b hc; omega
    have := replies_iter (W.heap.size + 6) (W.heap.size + 5) (W.heap.size + 7) iz k po (.slice na nodes.length nc) (.slice da l.length dc) nodes l (keptB W (.slice na nodes.length nc) (.slice da l.length dc)) (h.keep (HT.out.2.2.2.trans (hb.mono (by omega)))) (hpr.le hnl) (kc.keep hb) (kl.keep hb) (kr.keep hb) (hn.keep (HT.out.2.2.2.trans (hb.mono (by omega)))) (hd.keep (HT.out.2.2.2.trans (hb.mono (by omega)))) (by omega)
      ⟨.inl ⟨by omega, by omega⟩, hno _ (by omega)⟩ ⟨.inl ⟨by omega, by omega⟩, hno _ (by omega)⟩ ⟨.inl ⟨by omega, by omega⟩, hno _ (by omega)⟩ (fun g hg => ⟨.inr (.inl hg), (HK.out.1 g hg).1⟩) (fun g hg => ⟨.inr (.inr hg), (HK.out.2 g hg).1⟩)
    rw [HRS.out, show W'.heap.size = W.heap.size + 10 from by omega] at this
    exact this
  case hI =>
    rintro j al al' A B ⟨h1, h2, h3, h4, h5, h6, h7⟩ he hg
    have hno : ∀ b, W.heap.size ≤ b → b < W.heap.size + 8 → ¬ (al b ∨ W8.heap.size ≤ b ∧ b < W.heap.size + 10) := fun b hb1 hb2 hc => by
      rcases hc with hc | hc
      · rcases h5 b hc with h9 | h9
        · have := HPL.out b h9; omega
        · omega
      · omega
    refine ⟨trivial, h2.ext he (hno _ (by omega) (by omega)), h3.ext he (hno _ (by omega) (by omega)), h4.ext he (hno _ (by omega) (by omega)), fun b hb => (hg b hb).elim (h5 b) (fun h => .inr (by omega)), h6.trans he (fun b hb => ?_), Nat.le_trans h7 he.size⟩
    rcases hb with hb | hb
    · exact (h5 b hb).imp .inl (fun h => by omega)
    · exact .inr (by omega)
  case hIx => rintro c j al al' A B h _ _; exact h
  case hYs => rintro j al A args ⟨r, v, _, rfl, _⟩; rfl
  case hFin => intro al A B h he; exact h.ext he
  case hFinX => intro j al A B h he; exact h.ext he
  case hal => intro b hb; have := HPL.out b hb; omega
  case hkp =>
    rintro b (hb | hb | hb)
    · omega
    · have := (HK.out.1 b hb).2; omega
    · have := (HK.out.2 b hb).2; omega
  case h0 =>
    obtain ⟨h1, h2, h3, h4⟩ := HT.out
    exact ⟨trivial, h3, h2, h1, fun b hb => .inl hb, Ext.ofBelow h4, by omega⟩
  case hAW =>
    rintro j al A args ⟨r, v, _, rfl, _⟩
    exact (Below.refl _ A).alloc (Nat.le_refl _) _
  case hassign =>
    rintro m j al args A K ⟨r, v, _, rfl, hbv, _⟩ hK
    obtain ⟨va, vc, rfl⟩ := hbv.form
    rw [zip_one] at hK ⊢
    simp only [List.setIfInBounds_toArray, List.set_cons_zero, List.set_cons_succ] at hK ⊢
    gi_wp2
    exact hK
  case hstop => intro c j al A hf; exact hf.elim
  case hdone =>
    rintro al A ⟨h1, h2, h3, h4, h5, h6, h7⟩ ⟨p', rfl, hL⟩ hna hdf
    have z0 : A.cell? ⟨W.heap.size + 3 + 1, 0, none⟩ = some (.map (some (W.heap.size + 3))) := h3.cell (o := 0) rfl
    rw [List.take_length] at h2
    have hxd : ∀ o, Ext (fun b => b = W8.heap.size) A (A.putObj W8.heap.size o) := fun o => ext_putObj _ _ _
    have hfin : ∀ o, AskPost7 W L p (repliesL s k iz po l nodes) (fun _ => False) (fun _ _ => True) (.returned (.map (some (W.heap.size + 3)))) (A.putObj W8.heap.size o) := fun o => by
      refine ⟨W.heap.size + 3, p', rfl, by omega, ?_, hL.ext (hxd o) (fun b e hb => by rw [e] at hb; exact hna hb), fun b hb => (h5 b hb).imp id (fun h => by omega), fun hc => ?_, trivial, h6.trans (hxd o) (fun b e => .inr (by omega))⟩
      · rw [HRS.out]
        exact h2.ext (hxd o) (by omega)
      · rcases h5 _ hc with h9 | h9
        · have := HPL.out _ h9; omega
        · omega
    have HFN := hid hfin
    clear hfin hxd h1 h2 h3 h4 h5 h6 h7 hL
    gi_wp2
    exact ⟨by simp, .inl ⟨_, _, rfl, run_takeDeferred hdf, _, by simp [results, Tryz.results39, go_sem], HFN.out _⟩⟩
  case hbody =>
    rintro m j al A0 A args hj hna ⟨h1, h2, h3, h4, h5, h6, h7⟩ ⟨r, v, hr, rfl, hbv, hvo, hal9⟩ hM hxA
    obtain ⟨va, vc, rfl⟩ := hbv.form
    rw [zip_one]
    simp only [List.setIfInBounds_toArray, List.set_cons_zero, List.set_cons_succ]
    have k0 : Blk (A0.alloc (.cells #[.int .i64 r.e, .int .i64 r.tl, .bool r.sl, .slice va r.b.length vc] 51)) A0.heap.size #[.int .i64 r.e, .int .i64 r.tl, .bool r.sl, .slice va r.b.length vc] 51 := Blk.new _ _ _
    have k1 : Blk A A0.heap.size #[.int .i64 r.e, .int .i64 r.tl, .bool r.sl, .slice va r.b.length vc] 51 := k0.ext hxA (by omega)
    have hsA : A0.heap.size + 1 ≤ A.heap.size := by
      have h9 := hxA.size
      have h8 : (A0.alloc (.cells #[.int .i64 r.e, .int .i64 r.tl, .bool r.sl, .slice va r.b.length vc] 51)).heap.size = A0.heap.size + 1 := by simp
      have h7 : (A0.alloc (.cells #[.int .i64 r.e, .int .i64 r.tl, .bool r.sl, .slice va r.b.length vc] 51)).heap.size ≤ A.heap.size := h9
      omega
    have m0 := k1.cell (o := 0) rfl
    have m1 := k1.cell (o := 1) rfl
    have m2 := k1.cell (o := 2) rfl
    have m3 := k1.cell (o := 3) rfl
    have z0 : A.cell? ⟨W.heap.size + 3 + 1, 0, none⟩ = some (.map (some (W.heap.size + 3))) := h3.cell (o := 0) rfl
    have z1 : A.cell? ⟨W.heap.size + 1 + 1, 0, none⟩ = some (.nilFunc) := h4.cell (o := 0) rfl
    have hcl := cntE_le r.e (rs.take j)
    have hrj : (rs.take j).length ≤ rs.length := by simp; omega
    obtain ⟨cn, hcn⟩ : ∃ cn, cntE r.e (rs.take j) = cn := ⟨_, rfl⟩
    have hlk := h2.look (P := Tryz.prog) Tryz.underlying102 Tryz.underlying28 (fun w => by kernel_rfl) r.e
    have hcf : cntF (rs.take j) r.e = .int .i64 (cn : Int) := by unfold cntF; rw [hcn]
    rw [hcf] at hlk
    have hw : wrap64 ((cn : Int) + 1) = (cn : Int) + 1 := by unfold wrap64; omega
    obtain ⟨A2, hup, ht2, hx2⟩ := h2.put (P := Tryz.prog) Tryz.underlying102 Tryz.underlying28 r.e (.int .i64 ((cn : Int) + 1))
    have ht2 := ht2.of (g := cntF (rs.take (j + 1))) (fun y => by rw [← hcn]; exact cntF_snoc hr y)
    have k2 := k1.ext hx2 (by omega)
    have n0 := k2.cell (o := 0) rfl
    have n1 := k2.cell (o := 1) rfl
    have n2 := k2.cell (o := 2) rfl
    have n3 := k2.cell (o := 3) rfl
    have q9 := h3.ext hx2 (by omega)
    have q7 := h4.ext hx2 (by omega)
    have y1 : A2.cell? ⟨W.heap.size + 1 + 1, 0, none⟩ = some (.nilFunc) := q7.cell (o := 0) rfl
    have hno : ¬ al (W.heap.size + 3) := fun hc => by
      rcases h5 _ hc with h9 | h9
      · have := HPL.out _ h9; omega
      · omega
    have HX2 := hid (show Ext (fun b => ¬ al b ∧ ¬ (W8.heap.size ≤ b ∧ b < W.heap.size + 10) ∧ b = W.heap.size + 3) A A2 from hx2.mono (fun b _ e => by have e2 : b = W.heap.size + 3 := e; subst e2; exact ⟨hno, by omega, rfl⟩))
    have HB := hid (And.intro h1 (And.intro ht2 (And.intro q9 (And.intro q7 (And.intro h5 (And.intro (h6.trans hx2 (fun b e => .inr (by have e2 : b = W.heap.size + 3 := e; omega))) (Nat.le_trans h7 hx2.size)))))))
    have HBV := hid (And.intro hbv (And.intro hvo hr))
    have HAL9 := hid hal9
    have HXA := hid hxA
    clear hxA k0 k1 k2 h1 h2 h3 h4 h5 h6 h7 ht2 hx2 q9 q7 hcl hrj hcn hcf hbv hvo hr hno hal9
    have hnf : ∀ w, (binOp .neq 109 .nilFunc .nilFunc).run Tryz.prog w = .ok (.bool false) w := fun w => by kernel_rfl
    have hend : roundEndL al (keptB W (.slice na nodes.length nc) (.slice da l.length dc)) W8.heap.size (W.heap.size + 10)
      (fun j al WX => True ∧ TabAt WX (W.heap.size + 3) (.int .i64 0) (cntF (rs.take j)) ∧ Blk WX (W.heap.size + 4) #[.map (some (W.heap.size + 3))] 102 ∧ Blk WX (W.heap.size + 2) #[.nilFunc] 109 ∧ (∀ b, al b → p.all L b ∨ W.heap.size + 8 ≤ b) ∧ Ext (fun b => p.all L b ∨ False) W WX ∧ W.heap.size + 8 ≤ WX.heap.size)
      (fun _ _ _ _ => False) j A .normal { tmps := #[], defers := [] } A2 := ⟨HX2.out.mono (fun b _ hb => ⟨hb.1, fun hc => by
        obtain ⟨_, _, rfl⟩ := hb
        rcases hc with hc | hc | hc
        · omega
        · have := (HK.out.1 _ hc).2; omega
        · have := (HK.out.2 _ hc).2; omega, hb.2.1⟩), HB.out⟩
    have HE := hid hend
    clear hend
    by_cases hre : r.e = 0
    · have he : (r.e == 0) = true := beq_iff_eq.2 hre
      clear hre
      gi_wp2
      exact HE.out
    · have he : (r.e == 0) = false := beq_eq_false_iff_ne.2 hre
      clear hre
      gi_wp2
      exact HE.out

set_option maxRecDepth 100000 in
set_option maxHeartbeats 12800000 in
theorem log_ask_fn (h : LkAt W L p s) (hpr : s.room 1073741824) (iz k lo po : Int) (nv dv : Value) (nodes : List Int) (l : List UInt8) (F : FuncId) (lb : Array Value) (eg : ∀ args w, (callFunc F args).run Tryz.prog w = .ok (.enter F args) w) (hn : Is W nv nodes) (hd : Bs W dv l) (hnl : nodes.length ≤ 1073741824) (k4 : ∀ g, nv.ownBlock = some g → ¬ p.all L g ∧ g < W.heap.size) (k5 : ∀ g, dv.ownBlock = some g → ¬ p.all L g ∧ g < W.heap.size) (cs : Nat → Prop) (JC : Nat → (Nat → Prop) → World → Prop) (hJ0 : JC 0 (p.all L) W) (hcs : ∀ b, cs b → b < W.heap.size ∧ ¬ p.all L b)
    (hst : ∀ j, StaysL W.heap.size (W.heap.size + 10) (JC j))
    (hskip : ∀ j al W1 r, (repliesL s k iz po l nodes).1[j]? = some r → r.e ≠ 0 → JC j al W1 → JC (j + 1) al W1)
    (hlook : ∀ j al W1 r v, (repliesL s k iz po l nodes).1[j]? = some r → r.e = 0 → JC j al W1 → Bs W1 v r.b → (∀ g, v.ownBlock = some g → ¬ al g ∧ g < W1.heap.size ∧ W.heap.size + 10 ≤ g) → (∀ b, al b → (p.all L b ∨ W.heap.size ≤ b) ∧ b < W1.heap.size) → W.heap.size + 10 ≤ W1.heap.size →
      Calls Tryz.prog F (#[.agg #[.int .i64 r.e, .int .i64 r.tl, .bool r.sl, v]] ++ lb) W1 fun e W' => (∃ x, e = .returned x) ∧ JC (j + 1) al W' ∧ Ext (fun b => ¬ al b ∧ ¬ keptB W nv dv b ∧ (cs b ∨ W.heap.size + 10 ≤ b)) W1 W') :
    Calls Tryz.prog 39 #[.pointer (some ⟨L, 0, none⟩), .agg #[.int .i64 iz, nv], .agg #[.int .i64 k, .int .i64 lo, .int .i64 po, dv], .func (.func F) #[] lb] W (AskPost7 W L p (repliesL s k iz po l nodes) cs (fun al w => JC (repliesL s k iz po l nodes).1.length al w)) := by
  obtain ⟨rs, hrs⟩ : ∃ rs, (repliesL s k iz po l nodes).1 = rs := ⟨_, rfl⟩
  have hrl : rs.length ≤ nodes.length := by rw [← hrs]; exact repliesL_length _ _
  have HRS := hid hrs
  obtain ⟨na, nc, hnv⟩ : ∃ a c, nv = .slice a nodes.length c := by obtain ⟨a, c, e, _⟩ := hn; exact ⟨a, c, e⟩
  obtain ⟨da, dc, hdv⟩ := hd.form
  subst hnv
  subst hdv
  have hmm := @run_makeMap Tryz.prog
  obtain ⟨W3, hW3⟩ : ∃ W3, ((W.alloc (.cells #[.int .i64 iz, .slice na nodes.length nc] 24)).alloc (.cells #[.int .i64 k, .int .i64 lo, .int .i64 po, .slice da l.length dc] 55)).alloc (.cells #[.func (.func F) #[] lb] 109) = W3 := ⟨_, rfl⟩
  have s3 : W3.heap.size = W.heap.size + 3 := by rw [← hW3]; simp
  have b3 : Below W.heap.size W W3 := by rw [← hW3]; exact (((Below.refl _ W).alloc (Nat.le_refl _) _).alloc (by simp) _).alloc (by simp; omega) _
  have q5 : Blk W3 W.heap.size #[.int .i64 iz, .slice na nodes.length nc] 24 := by rw [← hW3]; exact ((Blk.new W _ _).alloc _).alloc _
  have q6 : Blk W3 (W.heap.size + 1) #[.int .i64 k, .int .i64 lo, .int .i64 po, .slice da l.length dc] 55 := by rw [← hW3]; exact (Blk.new' _ _ (by simp) _ _).alloc _
  have q7 : Blk W3 (W.heap.size + 2) #[.func (.func F) #[] lb] 109 := by rw [← hW3]; exact Blk.new' _ _ (by simp) _ _
  obtain ⟨W5, hW5⟩ : ∃ W5, (W3.alloc (.map #[] 0)).alloc (.cells #[.map (some (W.heap.size + 3))] 102) = W5 := ⟨_, rfl⟩
  have s5 : W5.heap.size = W.heap.size + 5 := by rw [← hW5]; simp [s3]
  have b35 : Below W3.heap.size W3 W5 := by rw [← hW5]; exact ((Below.refl _ W3).alloc (Nat.le_refl _) _).alloc (by simp) _
  have q9 : Blk W5 (W.heap.size + 4) #[.map (some (W.heap.size + 3))] 102 := by rw [← hW5]; exact Blk.new' _ _ (by simp [s3]) _ _
  have t9 : TabAt W5 (W.heap.size + 3) (.int .i64 0) (fun _ => .int .i64 0) := by
    have h1 := TabAt.new W3 (.int .i64 0)
    rw [s3] at h1
    rw [← hW5]
    exact h1.keep ((Below.refl _ _).alloc (Nat.le_refl _) _)
  have q5 := q5.keep b35
  have q6 := q6.keep b35
  have q7 := q7.keep b35
  have b5 := b3.trans (b35.mono b3.size)
  have e0 := q5.cell (o := 0) rfl
  have e1 := q5.cell (o := 1) rfl
  have e2 := q6.cell (o := 0) rfl
  have e3 := q6.cell (o := 1) rfl
  have e4 := q6.cell (o := 2) rfl
  have e5 := q6.cell (o := 3) rfl
  clear b3 b35
  refine callsIn_wide.1 (callsIn_of_wp_marks (n := 0) Tryz.func39 rfl trivial ?_)
  simp only [Tryz.ntmps39, List.size_toArray, List.length_cons, List.length_nil, Nat.reduceAdd, Nat.reduceSub, Array.replicate_succ, Array.replicate_zero, List.push_toArray, List.append_toArray, List.nil_append, List.cons_append]
  gi_wp2
  refine ⟨trivial, rfl, callsIn_wide.2 ((log_replies L iz k lo po na nodes.length nc da l.length dc).mono ?_)⟩
  rintro e W8 ⟨rfl, hW8⟩
  have s8 : W8.heap.size = W.heap.size + 8 := by rw [hW8]; simp [s5]
  have b58 : Below W5.heap.size W5 W8 := by rw [hW8]; exact (((Below.refl _ W5).alloc (Nat.le_refl _) _).alloc (by simp) _).alloc (by simp; omega) _
  have kl : Blk W8 (W.heap.size + 5) #[.pointer (some ⟨L, 0, none⟩)] 36 := by rw [hW8]; exact ((Blk.new' W5 _ (by omega) _ _).alloc _).alloc _
  have kc : Blk W8 (W.heap.size + 6) #[.int .i64 iz, .slice na nodes.length nc] 24 := by rw [hW8]; exact (Blk.new' _ _ (by simp; omega) _ _).alloc _
  have kr : Blk W8 (W.heap.size + 7) #[.int .i64 k, .int .i64 iz, .int .i64 po, .slice da l.length dc] 55 := by rw [hW8]; exact Blk.new' _ _ (by simp; omega) _ _
  have q7 := q7.keep b58
  have q9 := q9.keep b58
  have t9 := t9.keep b58
  have b8 := b5.trans (b58.mono b5.size)
  have HS := hid (And.intro h (And.intro hpr (And.intro hn (And.intro hd (And.intro kl (And.intro kc kr))))))
  have HK := hid (And.intro k4 k5)
  have HT := hid (And.intro q7 (And.intro q9 (And.intro t9 b8)))
  have hpl : ∀ b, p.all L b → b < W.heap.size := fun b hb => h.size hb
  have HPL := hid hpl
  rw [s5]
  clear hW8 hW5 hW3 e0 e1 e2 e3 e4 e5 q5 q6 q7 q9 t9 b5 b8 b58 kl kc kr h hpr hn hd k4 k5 hpl hmm
  gi_wp2
  refine wpIn_rangeL (gf := 70) (lb := #[.pointer (some ⟨W.heap.size + 6, 0, none⟩), .pointer (some ⟨W.heap.size + 5, 0, none⟩), .pointer (some ⟨W.heap.size + 7, 0, none⟩)]) ?g ?eg (N := rs.length) (Y := RepY rs (W.heap.size + 10)) (kp := keptB W (.slice na nodes.length nc) (.slice da l.length dc)) (Fin := RepFin L (repliesL s k iz po l nodes).2) (FinX := fun j => RepFin L (afterL k iz po l s nodes j)) (al0 := p.all L) (M := W.heap.size + 10) ?hM ?hit
    (fun j al WX => JC j al WX ∧ TabAt WX (W.heap.size + 3) (.int .i64 0) (cntF (rs.take j)) ∧ Blk WX (W.heap.size + 4) #[.map (some (W.heap.size + 3))] 102 ∧ Blk WX (W.heap.size + 2) #[.func (.func F) #[] lb] 109 ∧ (∀ b, al b → p.all L b ∨ W.heap.size + 8 ≤ b) ∧ Ext (fun b => p.all L b ∨ cs b) W WX ∧ W.heap.size + 8 ≤ WX.heap.size)
    (fun _ _ _ _ => False) ?hI ?hIx ?hYs ?hFin ?hFinX ?hal ?hkp ?h0 (fun _ W0 t => t.setIfInBounds 10 (.pointer (some ⟨W0.heap.size, 0, none⟩))) (fun (args : Array Value) (W0 : World) => match args[0]? with | some (Value.agg cs) => W0.alloc (.cells cs 51) | _ => W0) ?hAW ?hassign ?hbody ?hdone ?hstop
  case g => rfl
  case eg => intro args w; rfl
  case hM => omega
  case hit =>
    intro W' hb hs
    obtain ⟨h, hpr, hn, hd, kl, kc, kr⟩ := HS.out
    have hb := b8_keep s8 hb
    have hno : ∀ b, W.heap.size ≤ b → ¬ p.all L b := fun b hb hc => by have := HPL.out b hc; omega
    have := replies_iter (W.heap.size + 6) (W.heap.size + 5) (W.heap.size + 7) iz k po (.slice na nodes.length nc) (.slice da l.length dc) nodes l (keptB W (.slice na nodes.length nc) (.slice da l.length dc)) (h.keep (HT.out.2.2.2.trans (hb.mono (by omega)))) (hpr.le hnl) (kc.keep hb) (kl.keep hb) (kr.keep hb) (hn.keep (HT.out.2.2.2.trans (hb.mono (by omega)))) (hd.keep (HT.out.2.2.2.trans (hb.mono (by omega)))) (by omega)
      ⟨.inl ⟨by omega, by omega⟩, hno _ (by omega)⟩ ⟨.inl ⟨by omega, by omega⟩, hno _ (by omega)⟩ ⟨.inl ⟨by omega, by omega⟩, hno _ (by omega)⟩ (fun g hg => ⟨.inr (.inl hg), (HK.out.1 g hg).1⟩) (fun g hg => ⟨.inr (.inr hg), (HK.out.2 g hg).1⟩)
    rw [HRS.out, show W'.heap.size = W.heap.size + 10 from by omega] at this
    exact this
  case hI =>
    rintro j al al' A B ⟨h1, h2, h3, h4, h5, h6, h7⟩ he hg
    have hno : ∀ b, W.heap.size ≤ b → b < W.heap.size + 8 → ¬ (al b ∨ W8.heap.size ≤ b ∧ b < W.heap.size + 10) := fun b hb1 hb2 hc => by
      rcases hc with hc | hc
      · rcases h5 b hc with h9 | h9
        · have := HPL.out b h9; omega
        · omega
      · omega
    refine ⟨hst j al al' A B h1 (he.mono (fun b _ h => h.imp id (fun h => by omega))) hg, h2.ext he (hno _ (by omega) (by omega)), h3.ext he (hno _ (by omega) (by omega)), h4.ext he (hno _ (by omega) (by omega)), fun b hb => (hg b hb).elim (h5 b) (fun h => .inr (by omega)), h6.trans he (fun b hb => ?_), Nat.le_trans h7 he.size⟩
    rcases hb with hb | hb
    · exact (h5 b hb).imp .inl (fun h => by omega)
    · exact .inr (by omega)
  case hIx => rintro c j al al' A B h _ _; exact h
  case hYs => rintro j al A args ⟨r, v, _, rfl, _⟩; rfl
  case hFin => intro al A B h he; exact h.ext he
  case hFinX => intro j al A B h he; exact h.ext he
  case hal => intro b hb; have := HPL.out b hb; omega
  case hkp =>
    rintro b (hb | hb | hb)
    · omega
    · have := (HK.out.1 b hb).2; omega
    · have := (HK.out.2 b hb).2; omega
  case h0 =>
    obtain ⟨h1, h2, h3, h4⟩ := HT.out
    exact ⟨hst 0 _ _ W W8 hJ0 (Ext.ofBelow h4) (fun b h => .inl h), h3, h2, h1, fun b hb => .inl hb, Ext.ofBelow h4, by omega⟩
  case hAW =>
    rintro j al A args ⟨r, v, _, rfl, _⟩
    exact (Below.refl _ A).alloc (Nat.le_refl _) _
  case hassign =>
    rintro m j al args A K ⟨r, v, _, rfl, hbv, _⟩ hK
    obtain ⟨va, vc, rfl⟩ := hbv.form
    rw [zip_one] at hK ⊢
    simp only [List.setIfInBounds_toArray, List.set_cons_zero, List.set_cons_succ] at hK ⊢
    gi_wp2
    exact hK
  case hstop => intro c j al A hf; exact hf.elim
  case hdone =>
    rintro al A ⟨h1, h2, h3, h4, h5, h6, h7⟩ ⟨p', rfl, hL⟩ hna hdf
    have z0 : A.cell? ⟨W.heap.size + 3 + 1, 0, none⟩ = some (.map (some (W.heap.size + 3))) := h3.cell (o := 0) rfl
    rw [List.take_length] at h2
    have hxd : ∀ o, Ext (fun b => b = W8.heap.size) A (A.putObj W8.heap.size o) := fun o => ext_putObj _ _ _
    have hfin : ∀ o, AskPost7 W L p (repliesL s k iz po l nodes) cs (fun al w => JC (repliesL s k iz po l nodes).1.length al w) (.returned (.map (some (W.heap.size + 3)))) (A.putObj W8.heap.size o) := fun o => by
      refine ⟨W.heap.size + 3, p', rfl, by omega, ?_, hL.ext (hxd o) (fun b e hb => by rw [e] at hb; exact hna hb), fun b hb => (h5 b hb).imp id (fun h => by omega), fun hc => ?_, (by rw [HRS.out]; exact hst _ _ _ A _ h1 ((hxd o).mono (fun b _ e => .inr (by omega))) (fun b h => .inl h)), h6.trans (hxd o) (fun b e => .inr (by omega))⟩
      · rw [HRS.out]
        exact h2.ext (hxd o) (by omega)
      · rcases h5 _ hc with h9 | h9
        · have := HPL.out _ h9; omega
        · omega
    have HFN := hid hfin
    clear hfin hxd h1 h2 h3 h4 h5 h6 h7 hL
    gi_wp2
    exact ⟨by simp, .inl ⟨_, _, rfl, run_takeDeferred hdf, _, by simp [results, Tryz.results39, go_sem], HFN.out _⟩⟩
  case hbody =>
    rintro m j al A0 A args hj hna ⟨h1, h2, h3, h4, h5, h6, h7⟩ ⟨r, v, hr, rfl, hbv, hvo, hal9⟩ hM hxA
    obtain ⟨va, vc, rfl⟩ := hbv.form
    rw [zip_one]
    simp only [List.setIfInBounds_toArray, List.set_cons_zero, List.set_cons_succ]
    have k0 : Blk (A0.alloc (.cells #[.int .i64 r.e, .int .i64 r.tl, .bool r.sl, .slice va r.b.length vc] 51)) A0.heap.size #[.int .i64 r.e, .int .i64 r.tl, .bool r.sl, .slice va r.b.length vc] 51 := Blk.new _ _ _
    have k1 : Blk A A0.heap.size #[.int .i64 r.e, .int .i64 r.tl, .bool r.sl, .slice va r.b.length vc] 51 := k0.ext hxA (by omega)
    have hsA : A0.heap.size + 1 ≤ A.heap.size := by
      have h9 := hxA.size
      have h8 : (A0.alloc (.cells #[.int .i64 r.e, .int .i64 r.tl, .bool r.sl, .slice va r.b.length vc] 51)).heap.size = A0.heap.size + 1 := by simp
      have h7 : (A0.alloc (.cells #[.int .i64 r.e, .int .i64 r.tl, .bool r.sl, .slice va r.b.length vc] 51)).heap.size ≤ A.heap.size := h9
      omega
    have m0 := k1.cell (o := 0) rfl
    have m1 := k1.cell (o := 1) rfl
    have m2 := k1.cell (o := 2) rfl
    have m3 := k1.cell (o := 3) rfl
    have z0 : A.cell? ⟨W.heap.size + 3 + 1, 0, none⟩ = some (.map (some (W.heap.size + 3))) := h3.cell (o := 0) rfl
    have z1 : A.cell? ⟨W.heap.size + 1 + 1, 0, none⟩ = some (.func (.func F) #[] lb) := h4.cell (o := 0) rfl
    have hcl := cntE_le r.e (rs.take j)
    have hrj : (rs.take j).length ≤ rs.length := by simp; omega
    obtain ⟨cn, hcn⟩ : ∃ cn, cntE r.e (rs.take j) = cn := ⟨_, rfl⟩
    have hlk := h2.look (P := Tryz.prog) Tryz.underlying102 Tryz.underlying28 (fun w => by kernel_rfl) r.e
    have hcf : cntF (rs.take j) r.e = .int .i64 (cn : Int) := by unfold cntF; rw [hcn]
    rw [hcf] at hlk
    have hw : wrap64 ((cn : Int) + 1) = (cn : Int) + 1 := by unfold wrap64; omega
    obtain ⟨A2, hup, ht2, hx2⟩ := h2.put (P := Tryz.prog) Tryz.underlying102 Tryz.underlying28 r.e (.int .i64 ((cn : Int) + 1))
    have ht2 := ht2.of (g := cntF (rs.take (j + 1))) (fun y => by rw [← hcn]; exact cntF_snoc hr y)
    have k2 := k1.ext hx2 (by omega)
    have n0 := k2.cell (o := 0) rfl
    have n1 := k2.cell (o := 1) rfl
    have n2 := k2.cell (o := 2) rfl
    have n3 := k2.cell (o := 3) rfl
    have q9 := h3.ext hx2 (by omega)
    have q7 := h4.ext hx2 (by omega)
    have y1 : A2.cell? ⟨W.heap.size + 1 + 1, 0, none⟩ = some (.func (.func F) #[] lb) := q7.cell (o := 0) rfl
    have hno : ¬ al (W.heap.size + 3) := fun hc => by
      rcases h5 _ hc with h9 | h9
      · have := HPL.out _ h9; omega
      · omega
    have HX2 := hid (show Ext (fun b => ¬ al b ∧ ¬ (W8.heap.size ≤ b ∧ b < W.heap.size + 10) ∧ b = W.heap.size + 3) A A2 from hx2.mono (fun b _ e => by have e2 : b = W.heap.size + 3 := e; subst e2; exact ⟨hno, by omega, rfl⟩))
    have HB := hid (And.intro h1 (And.intro ht2 (And.intro q9 (And.intro q7 (And.intro h5 (And.intro (h6.trans hx2 (fun b e => .inr (by have e2 : b = W.heap.size + 3 := e; omega))) (Nat.le_trans h7 hx2.size)))))))
    have HBV := hid (And.intro hbv (And.intro hvo hr))
    have HAL9 := hid hal9
    have HXA := hid hxA
    clear hxA k0 k1 k2 h1 h2 h3 h4 h5 h6 h7 ht2 hx2 q9 q7 hcl hrj hcn hcf hbv hvo hr hno hal9
    have hnf : ∀ w, (binOp .neq 109 (.func (.func F) #[] lb) .nilFunc).run Tryz.prog w = .ok (.bool true) w := fun w => by first | kernel_rfl | rfl
    have hkx : ∀ b, (¬ al b ∧ ¬ (W8.heap.size ≤ b ∧ b < W.heap.size + 10) ∧ b = W.heap.size + 3) → ¬ al b ∧ ¬ keptB W (.slice na nodes.length nc) (.slice da l.length dc) b ∧ ¬ (W8.heap.size ≤ b ∧ b < W.heap.size + 10) := fun b hb => ⟨hb.1, fun hc => by
        obtain ⟨_, _, rfl⟩ := hb
        rcases hc with hc | hc | hc
        · omega
        · have := (HK.out.1 _ hc).2; omega
        · have := (HK.out.2 _ hc).2; omega, hb.2.1⟩
    have HKX := hid hkx
    clear hkx
    have HJA : Hid (JC j al A2) := hid (hst j al al A A2 HB.out.1 (HX2.out.mono (fun b _ hb => .inr (by have := hb.2.2; omega))) (fun b h => .inl h))
    by_cases hre : r.e = 0
    · have he : (r.e == 0) = true := beq_iff_eq.2 hre
      have hre2 := hid hre
      have hbA := (HBV.out.1.keep ((Below.refl _ A0).alloc (Nat.le_refl _) (.cells #[.int .i64 r.e, .int .i64 r.tl, .bool r.sl, .slice va r.b.length vc] 51))).ext HXA.out (fun g hg _ e => by have e2 : g = W8.heap.size + 1 := e; have := (HBV.out.2.1 g hg).2.2; omega)
      have hbA2 := hbA.ext HX2.out (fun g hg _ hb => by have := (HBV.out.2.1 g hg).2.2; have := hb.2.2; omega)
      have HCL := hid (hlook j al A2 r (.slice va r.b.length vc) (by rw [HRS.out]; exact HBV.out.2.2) hre HJA.out hbA2 (fun g hg => ⟨(HBV.out.2.1 g hg).1, Nat.lt_of_lt_of_le (HBV.out.2.1 g hg).2.1 (by have := HX2.out.size; omega), (HBV.out.2.1 g hg).2.2⟩) (fun b hb => ⟨(HB.out.2.2.2.2.1 b hb).imp id (fun h => by omega), by have h91 := HAL9.out b hb; have h92 := HXA.out.size; have h93 := HX2.out.size; have h94 : A0.heap.size ≤ (A0.alloc (.cells #[.int .i64 r.e, .int .i64 r.tl, .bool r.sl, .slice va r.b.length vc] 51)).heap.size := (by simp); exact Nat.lt_of_lt_of_le h91 (Nat.le_trans h94 (Nat.le_trans h92 h93))⟩) (by have := HX2.out.size; omega))
      clear hbA hbA2
      clear hre
      gi_wp2
      refine ⟨trivial, fun h => by simp [Fence.wide, Fence.inRound] at h, CallsIn.inRound _ ((callsIn_wide.2 HCL.out).mono ?_)⟩
      rintro e A3 ⟨⟨x, rfl⟩, hJ3, hx3⟩
      obtain ⟨_, g2, g3, g4, g5, g6, g7⟩ := HB.out
      have hnc : ∀ b, W.heap.size ≤ b → b < W.heap.size + 10 → ¬ (¬ al b ∧ ¬ keptB W (.slice na nodes.length nc) (.slice da l.length dc) b ∧ (cs b ∨ W.heap.size + 10 ≤ b)) := fun b hb1 hb2 hc => by
        rcases hc.2.2 with h9 | h9
        · have := (hcs b h9).1; omega
        · omega
      have HE := hid (And.intro (((HX2.out.mono (fun b _ hb => HKX.out b hb)).trans' (hx3.mono (fun b _ hb => ⟨hb.1, hb.2.1, fun h9 => hnc b (by omega) (by omega) hb⟩)) : Ext (fun b => ¬ al b ∧ ¬ keptB W (.slice na nodes.length nc) (.slice da l.length dc) b ∧ ¬ (W8.heap.size ≤ b ∧ b < W.heap.size + 10)) A A3)) (And.intro hJ3 (And.intro (g2.ext hx3 (hnc _ (by omega) (by omega))) (And.intro (g3.ext hx3 (hnc _ (by omega) (by omega))) (And.intro (g4.ext hx3 (hnc _ (by omega) (by omega))) (And.intro g5 (And.intro (g6.trans hx3 (fun b hb => hb.2.2.imp .inr (fun h => by omega))) (Nat.le_trans g7 hx3.size))))))))
      clear g2 g3 g4 g5 g6 g7 hnc hJ3 hx3
      gi_wp2
      exact HE.out
    · have he : (r.e == 0) = false := beq_eq_false_iff_ne.2 hre
      have hsk := hskip j al A2 r (by rw [HRS.out]; exact HBV.out.2.2) hre HJA.out
      have HE := hid (And.intro (HX2.out.mono (fun b _ hb => HKX.out b hb)) (And.intro hsk HB.out.2))
      clear hre hsk
      gi_wp2
      exact HE.out
end
end Go.Proofs.YtbahjinlcbjikaaGreat
