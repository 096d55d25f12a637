import Derived.Test.YtbahjinlcbjikaaGreatMQCop
/-! Package loglet: place. -/
namespace Go.Proofs.YtbahjinlcbjikaaGreat
open Go.RowKit

/-- The copies that came so far: a row of slices behind the variable; the first of them is remembered. -/
def CopJ (T base : Nat) (cs : List (List UInt8)) (al : Nat → Prop) (w : World) : Prop :=
  ∃ v xs, Blk w T #[v] 157 ∧ w.ownsRow base 35 1 v xs.length xs ∧ xs.length = cs.length ∧ (xs = [] → v = .slice none 0 0) ∧ (∀ k, v.ownBlock = some k → ¬ al k) ∧ ¬ al T ∧
    ∀ l r, cs = l :: r → ∃ x r', xs = x :: r' ∧ Bs w x l ∧ ∀ g, x.ownBlock = some g → ¬ al g ∧ g < w.heap.size ∧ base ≤ g ∧ v.ownBlock ≠ some g
theorem CopJ.ext {T base : Nat} {cs : List (List UInt8)} {al al' fp : Nat → Prop} {A B : World} (h : CopJ T base cs al A) (he : Ext fp A B) (hT : ¬ fp T) (hf : ∀ b, base ≤ b → ¬ al b → ¬ fp b) (hg : ∀ b, al' b → al b ∨ A.heap.size ≤ b) : CopJ T base cs al' B := by
  obtain ⟨v, xs, h1, h2, h3, h4, h5, h6, h7⟩ := h
  have hlt := World.ownsRow.lt h2
  refine ⟨v, xs, h1.ext he hT, ?_, h3, h4, fun k hk hc => (hg k hc).elim (h5 k hk) (fun h => by have := (hlt k hk).2; omega), fun hc => (hg T hc).elim h6 (fun h => by have := h1.lt; omega), ?_⟩
  · refine ⟨h2.1, h2.2.imp id ?_⟩
    rintro ⟨g, cap, cur, e, q1, q2, r⟩
    exact ⟨g, cap, cur, e, q1, (he.block g (Array.getElem?_eq_some_iff.1 q2).1 (hf g q1 (h5 g (by rw [e]; rfl)))).trans q2, r⟩
  · intro l r e
    obtain ⟨x, r', e1, e2, e3⟩ := h7 l r e
    refine ⟨x, r', e1, e2.ext he (fun k hk _ => hf k (e3 k hk).2.2.1 (e3 k hk).1), fun g hgx => ?_⟩
    obtain ⟨f1, f2, f3, f4⟩ := e3 g hgx
    exact ⟨fun hc => (hg g hc).elim f1 (fun h => by omega), Nat.lt_of_lt_of_le f2 he.size, f3, f4⟩
theorem CopJ.stays {T base lo hi : Nat} {cs : List (List UInt8)} (hT : T < lo) (hb : hi ≤ base) : StaysL lo hi (CopJ T base cs) := by
  intro al al' A B h he hg
  have h6 : ¬ al T := by obtain ⟨_, _, _, _, _, _, _, h6, _⟩ := h; exact h6
  exact h.ext he (fun hc => hc.elim h6 (fun h => by omega)) (fun b h1 h2 hc => hc.elim h2 (fun h => by omega)) hg
theorem copiesL_snoc {rs : List LRp} {j : Nat} {r : LRp} (h : rs[j]? = some r) : copiesL (rs.take (j + 1)) = if r.e = 0 then copiesL (rs.take j) ++ [r.b] else copiesL (rs.take j) := by
  have ht : rs.take (j + 1) = rs.take j ++ [r] := by rw [List.take_add_one, h]; rfl
  unfold copiesL
  rw [ht, List.filter_append, List.map_append]
  by_cases hr : r.e = 0
  · simp [hr]
  · simp [hr]
theorem copiesL_length (rs : List LRp) : (copiesL rs).length ≤ rs.length := by
  unfold copiesL
  rw [List.length_map]
  exact List.length_filter_le _ _
section
variable {W : World}
theorem cop_look {T base : Nat} {cs : List (List UInt8)} {al : Nat → Prop} {A : World} (h : CopJ T base cs al A) (hb : base ≤ A.heap.size) (hTb : T < base) (hl : cs.length ≤ 1073741824) (hal : ∀ b, al b → b < A.heap.size) (e tl : Int) (sl : Bool) (v : Value) (b : List UInt8) (hv : Bs A v b) (hvo : ∀ g, v.ownBlock = some g → ¬ al g ∧ g < A.heap.size ∧ base ≤ g) :
    Calls Tryz.prog 91 #[.agg #[.int .i64 e, .int .i64 tl, .bool sl, v], .pointer (some ⟨T, 0, none⟩)] A fun e w' => (∃ x, e = .returned x) ∧ CopJ T base (cs ++ [b]) al w' ∧ Ext (fun b => b = T ∨ (base ≤ b ∧ ¬ al b)) A w' := by
  obtain ⟨v0, xs, h1, h2, h3, h4, h5, h6, h7⟩ := h
  obtain ⟨va, vc, rfl⟩ := hv.form
  have hlt := World.ownsRow.lt h2
  refine (place_look T base v0 xs e tl sl va b.length vc h1 h2 hb (by omega)).mono ?_
  rintro e w' ⟨hx, ⟨v', k1, k2, k3⟩, he⟩
  refine ⟨hx, ⟨v', _, k1, k2, by simp [h3], fun hc => by simp at hc, fun k hk hc => ?_, h6, ?_⟩, he.mono (fun k _ hk => hk.imp id (fun hk => ⟨(hlt k hk).1, h5 k hk⟩))⟩
  · rcases k3 k hk with hk | hk
    · exact h5 k hk hc
    · have := hal k hc; omega
  · intro l r ecs
    cases cs with
    | nil =>
      have hxs : xs = [] := List.eq_nil_of_length_eq_zero h3
      subst hxs
      have hv0 := h4 rfl
      subst hv0
      simp only [List.nil_append, List.cons.injEq] at ecs
      obtain ⟨rfl, _⟩ := ecs
      refine ⟨_, _, rfl, hv.ext he (fun k hk _ hc => ?_), fun g hgx => ⟨(hvo g hgx).1, Nat.lt_of_lt_of_le (hvo g hgx).2.1 he.size, (hvo g hgx).2.2, fun hc => ?_⟩⟩
      · rcases hc with hc | hc
        · have := (hvo k hk).2.2; omega
        · cases hc
      · rcases k3 g hc with hk | hk
        · cases hk
        · have := (hvo g hgx).2.1; omega
    | cons l0 r0 =>
      simp only [List.cons_append, List.cons.injEq] at ecs
      obtain ⟨rfl, _⟩ := ecs
      obtain ⟨x, r', rfl, e2, e3⟩ := h7 l0 r0 rfl
      refine ⟨x, r' ++ [Value.slice va b.length vc], rfl, e2.ext he (fun k hk _ hc => ?_), fun g hgx => ⟨(e3 g hgx).1, Nat.lt_of_lt_of_le (e3 g hgx).2.1 he.size, (e3 g hgx).2.2.1, fun hc => ?_⟩⟩
      · rcases hc with hc | hc
        · have := (e3 k hk).2.2.1; omega
        · exact (e3 k hk).2.2.2 hc
      · rcases k3 g hc with hk | hk
        · exact (e3 g hgx).2.2.2 hk
        · have := (e3 g hgx).2.1; omega
end
section
variable {W : World} {L : Nat} {p : LkP} {s : LkS}

set_option maxRecDepth 100000 in
set_option maxHeartbeats 12800000 in
theorem link_place (h : LkAt W L p s) (hpr : s.room 2147483648) (iz : Int) (nv : Value) (nodes : List Int) (pos : Int) (hn : Is W nv nodes) (hnl : nodes.length ≤ 1073741824) (k4 : ∀ g, nv.ownBlock = some g → ¬ p.all L g ∧ g < W.heap.size)
    (hsome : 0 < cntE 32 (repliesL s 4 iz pos [] nodes).1 ∨ copiesL (repliesL s 4 iz pos [] nodes).1 ≠ []) :
    Calls Tryz.prog 50 #[.pointer (some ⟨L, 0, none⟩), .agg #[.int .i64 iz, nv], .int .i64 pos] W fun e w' => e = .returned (.int .i64 (placeL s ⟨iz, nodes⟩ pos).1) ∧ LkPost W L p (placeL s ⟨iz, nodes⟩ pos).2 w' := by
  obtain ⟨R, hR⟩ : ∃ R, repliesL s 4 iz pos [] nodes = R := ⟨_, rfl⟩
  obtain ⟨cs, hcs⟩ : ∃ cs, copiesL R.1 = cs := ⟨_, rfl⟩
  obtain ⟨q, hq⟩ : ∃ q : Int, ((nodes.length / 2 + 1 : Nat) : Int) = q := ⟨_, rfl⟩
  obtain ⟨z, hz⟩ : ∃ z : Int, (cntE 32 R.1 : Int) = z := ⟨_, rfl⟩
  obtain ⟨bz, hbz⟩ : ∃ b, decide (z > 0) = b := ⟨_, rfl⟩
  obtain ⟨bq, hbq⟩ : ∃ b, decide ((cs.length : Int) ≥ q) = b := ⟨_, rfl⟩
  have hS1 : (bz = true ∨ bq = true) → placeL s ⟨iz, nodes⟩ pos = (0, R.2) := by
    intro hor
    unfold placeL
    rw [hR, if_pos]
    rcases hor with h1 | h1
    · subst h1
      have := of_decide_eq_true hbz
      exact .inl (by omega)
    · subst h1
      have := of_decide_eq_true hbq
      refine .inr ?_
      rw [hcs]
      unfold Cfg.quorum
      show nodes.length / 2 + 1 ≤ cs.length
      omega
  have hS2 : (bz = false ∧ bq = false) → ∀ l r, cs = l :: r → placeL s ⟨iz, nodes⟩ pos = (if (nodes.length / 2 + 1) ≤ cntE 0 (repliesL R.2 2 iz pos l nodes).1 then 0 else firstE [31, 32, 7] (repliesL R.2 2 iz pos l nodes).1, (repliesL R.2 2 iz pos l nodes).2) := by
    rintro ⟨rfl, rfl⟩ l r e
    have h1 := of_decide_eq_false hbz
    have h2 := of_decide_eq_false hbq
    unfold placeL
    rw [hR, if_neg]
    · rw [hcs, e]
      rfl
    · rintro (h3 | h3)
      · omega
      · rw [hcs] at h3
        unfold Cfg.quorum at h3
        have h4 : nodes.length / 2 + 1 ≤ cs.length := h3
        omega
  have hsome2 : bz = true ∨ cs ≠ [] := by
    rw [hR, hcs] at hsome
    rcases hsome with h1 | h1
    · exact .inl (by rw [← hbz]; exact decide_eq_true (by omega))
    · exact .inr h1
  have hlc : cs.length ≤ nodes.length := by
    have h1 := copiesL_length R.1
    have h2 := repliesL_length (k := 4) (lo := iz) (po := pos) (l := []) nodes s
    rw [hR] at h2
    rw [hcs] at h1
    omega
  have HS1 := hid hS1
  have HS2 := hid hS2
  have HSO := hid hsome2
  clear hS1 hS2 hsome hsome2
  have HCS := hid hcs
  obtain ⟨na, nc, hnv⟩ : ∃ a c, nv = .slice a nodes.length c := by obtain ⟨a, c, e, _⟩ := hn; exact ⟨a, c, e⟩
  subst hnv
  have HZ := hid hz
  have HQ := hid hq
  have HBZ := hid hbz
  obtain ⟨W1, hW1⟩ : ∃ W1, (W.alloc (.cells #[.int .i64 iz, .slice na nodes.length nc] 24)).alloc (.cells #[.slice none 0 0] 157) = W1 := ⟨_, rfl⟩
  have KB : Blk W1 W.heap.size #[.int .i64 iz, .slice na nodes.length nc] 24 := by rw [← hW1]; exact (Blk.new _ _ _).alloc _
  have KT : Blk W1 (W.heap.size + 1) #[.slice none 0 0] 157 := by rw [← hW1]; exact Blk.new' _ _ (by simp) _ _
  have b1 : Below W.heap.size W W1 := by rw [← hW1]; exact ((Below.refl _ _).alloc (Nat.le_refl _) _).alloc (by simp) _
  have c0 := KB.cell (o := 0) rfl
  have c1 := KB.cell (o := 1) rfl
  have hs1 : W1.heap.size = W.heap.size + 2 := by rw [← hW1]; simp
  have HPL := hid (show ∀ b, p.all L b → b < W.heap.size from fun b hb => h.size hb)
  have hco : CopJ (W.heap.size + 1) (W1.heap.size + 10) [] (p.all L) W1 := ⟨_, [], KT, World.ownsRow_nil W1 _ _ 1, rfl, fun _ => rfl, (fun k hk => by cases hk), (fun hc => by have := HPL.out _ hc; omega), (fun l r e => by cases e)⟩
  have HB := hid (And.intro KB (And.intro b1 hco))
  have HH := hid (And.intro h (And.intro hn k4))
  clear hn k4 h hz hq hcs KB KT b1 hco hbz
  go_enter Tryz.func50, Tryz.ntmps50
  go_wp2_with fail
  refine (log_ask_fn (HH.out.1.keep HB.out.2.1) (hpr.le (by omega)) iz 4 0 pos (.slice na nodes.length nc) (.slice none 0 0) nodes [] 91 #[.pointer (some ⟨W.heap.size + 1, 0, none⟩)] (fun args w => rfl) (HH.out.2.1.keep HB.out.2.1) (Bs.nil _) hnl (fun g hg => ⟨(HH.out.2.2 g hg).1, by have := (HH.out.2.2 g hg).2; omega⟩) (fun g hg => by cases hg)
    (fun b => b = W.heap.size + 1) (fun j al w => CopJ (W.heap.size + 1) (W1.heap.size + 10) (copiesL (R.1.take j)) al w) HB.out.2.2 (fun b e => ⟨by omega, fun hc => (by have := HPL.out _ hc; omega)⟩) ?hst ?hskip ?hlook).mono ?_
  case hst => exact fun j => CopJ.stays (by omega) (Nat.le_refl _)
  case hskip =>
    rintro j al A r hr hre hc
    rw [hR] at hr
    rw [copiesL_snoc hr, if_neg hre]
    exact hc
  case hlook =>
    rintro j al A r v hr hre hc hbv hvo hal hsz
    rw [hR] at hr
    refine (cop_look hc hsz (by omega) (by have h1 := copiesL_length (R.1.take j); have h2 := repliesL_length (k := 4) (lo := iz) (po := pos) (l := []) nodes s; rw [hR] at h2; have h3 : (R.1.take j).length ≤ R.1.length := by simp; omega
                                           omega) (fun b hb => (hal b hb).2) r.e r.tl r.sl v r.b hbv (fun g hg => hvo g hg)).mono ?_
    rintro e A2 ⟨h3, h4, h5⟩
    refine ⟨h3, by rw [copiesL_snoc hr, if_pos hre]; exact h4, h5.mono (fun b _ hb => ?_)⟩
    have h6 : ¬ al (W.heap.size + 1) := by obtain ⟨_, _, _, _, _, _, _, h6, _⟩ := hc; exact h6
    rcases hb with rfl | ⟨hb1, hb2⟩
    · refine ⟨h6, fun hk => ?_, .inl rfl⟩
      rcases hk with hk | hk | hk
      · omega
      · have := (HH.out.2.2 _ hk).2; omega
      · cases hk
    · refine ⟨hb2, fun hk => ?_, .inr hb1⟩
      rcases hk with hk | hk | hk
      · omega
      · have := (HH.out.2.2 _ hk).2; omega
      · cases hk
  simp only [hR, List.take_length, HCS.out]
  rintro e W3 ⟨m, p', rfl, hmm, hT, hL, hgr, hnm, hJ, hx⟩
  have hx2 : Ext (p.all L) W W3 := (Ext.ofBelow HB.out.2.1).trans hx (fun b hb => hb.imp (fun h => h) (fun e => by have e2 : b = W.heap.size + 1 := e; omega))
  have hn3 := HH.out.2.1.ext hx2 (fun k hk _ hc => (HH.out.2.2 k hk).1 hc)
  have hgr2 : ∀ b, p'.all L b → p.all L b ∨ W.heap.size ≤ b := fun b hb => (hgr b hb).imp id (fun h9 : W1.heap.size ≤ b => (by omega : W.heap.size ≤ b))
  have HNB0 := hid (show ¬ p'.all L W.heap.size from fun hc => (hgr _ hc).elim (fun h => by have := HPL.out _ h; omega) (fun h => by omega))
  have HTB := hid hT
  have HBX := hid (HB.out.1.ext hx (fun hc => hc.elim (fun hc => by have := HPL.out _ hc; omega) (fun hc => by have e2 : W.heap.size = W.heap.size + 1 := hc; omega)))
  have HL := hid (And.intro hL (And.intro hgr2 hx2))
  have HN3 := hid (And.intro hn3 (show ∀ g, (Value.slice na nodes.length nc).ownBlock = some g → ¬ p'.all L g ∧ g < W3.heap.size from fun g hg => ⟨fun hc => (hgr2 g hc).elim (HH.out.2.2 g hg).1 (fun h => by have := (HH.out.2.2 g hg).2; omega), by have := (HH.out.2.2 g hg).2; have := hx2.size; omega⟩))
  obtain ⟨v0, xs, j1, j2, j3, j4, j5, j6, j7⟩ := hJ
  obtain ⟨va, vc, hv0⟩ : ∃ a c, v0 = .slice a xs.length c := by
    rcases j2.2 with ⟨e, e0⟩ | ⟨g, cap, _, e, _⟩
    · exact ⟨_, _, by rw [e, e0]⟩
    · exact ⟨_, _, e⟩
  subst hv0
  have HTX := hid j1
  have hxl : xs.length ≤ 1073741824 := by omega
  rw [← j3] at hbq
  have HJ := hid (And.intro j2 (And.intro j5 j7))
  have HJ3 := hid j3
  have hlk := HTB.out.look (P := Tryz.prog) Tryz.underlying102 Tryz.underlying28 (fun w => by kernel_rfl) 32
  unfold cntF at hlk
  rw [HZ.out] at hlk
  clear hT hL hgr hx hx2 hnm c0 c1 hn3 hgr2 j1 j2 j3 j4 j5 j6 j7 hW1 hlc
  cases bz
  · have hbz := HBZ.out
    have HLE := hid hlk
    go_wp2_with fail
    all_goals first | (exfalso; simp_all; done) | skip
    clear hlk hbz
    refine wp_region_inv rfl Grows (fun i v x => match i with
        | 0 => v = .slice va xs.length vc
        | 1 => v = .int .i64 (xs.length : Int)
        | 2 => v = .agg #[.int .i64 iz, .slice na nodes.length nc]
        | 3 => v = .int .i64 q
        | 4 => v = .bool bq
        | 5 => v = .bool bq
        | _ => True) (by kernel_rfl) (Grows.refl _) Grows.trans ?rstab ?rsteps ?rfin
    case rstab =>
      intro i v x y hg h
      match i with
      | 0 | 1 | 2 | 3 | 4 | 5 => exact h
      | n + 6 => trivial
    case rsteps =>
      refine ⟨?_, ?_, ?_, ?_, ?_, ?_, trivial⟩
      · intro a x hA
        have t7 := hA.at_ 7 (by first | rfl | kernel_rfl) rfl
        have hBx := HBX.out.keep hA.grown
        have hc0 := hBx.cell (o := 0) rfl
        have hc1 := hBx.cell (o := 1) rfl
        have hTx := HTX.out.keep hA.grown
        have ht0 := hTx.cell (o := 0) rfl
        clear hBx hTx
        refine step_value (w' := x) (v := .slice va xs.length vc) ?_ (Grows.refl _) ?_
        · go_simp
        · rfl
      · intro a x hA
        have t19 : a.tmps[19]?.getD undef = .slice va xs.length vc := hA.dep_ ⟨0, .data⟩ (by simp) _ 19 rfl rfl
        refine step_value (w' := x) (v := .int .i64 (xs.length : Int)) ?_ (Grows.refl _) ?_
        · go_simp
        · rfl
      · intro a x hA
        have t4 := hA.at_ 4 (by first | rfl | kernel_rfl) rfl
        have hBx := HBX.out.keep hA.grown
        have hc0 := hBx.cell (o := 0) rfl
        have hc1 := hBx.cell (o := 1) rfl
        have hTx := HTX.out.keep hA.grown
        have ht0 := hTx.cell (o := 0) rfl
        clear hBx hTx
        refine step_value (w' := x) (v := .agg #[.int .i64 iz, .slice na nodes.length nc]) ?_ (Grows.refl _) ?_
        · go_simp
        · rfl
      · intro a x hA
        have t21 : a.tmps[21]?.getD undef = .agg #[.int .i64 iz, .slice na nodes.length nc] := hA.dep_ ⟨2, .data⟩ (by simp) _ 21 rfl rfl
        have hBx := HBX.out.keep hA.grown
        have hc0 := hBx.cell (o := 0) rfl
        have hc1 := hBx.cell (o := 1) rfl
        have hTx := HTX.out.keep hA.grown
        have ht0 := hTx.cell (o := 0) rfl
        clear hBx hTx
        have hcq := log_Quorum (W := x) iz na nodes.length nc (by omega)
        rw [HQ.out] at hcq
        refine step_call (f := 9) (args := #[.agg #[.int .i64 iz, .slice na nodes.length nc]]) (by clear hc0 hc1 ht0 hcq; go_simp) (hcq.mono ?_)
        rintro e w' ⟨rfl, hb⟩
        exact ⟨_, rfl, grows_of_below hb, rfl⟩
      · intro a x hA
        have t20 : a.tmps[20]?.getD undef = .int .i64 (xs.length : Int) := hA.dep_ ⟨1, .data⟩ (by simp) _ 20 rfl rfl
        have t22 : a.tmps[22]?.getD undef = .int .i64 q := hA.dep_ ⟨3, .data⟩ (by simp) _ 22 rfl rfl
        refine step_value (w' := x) (v := .bool bq) ?_ (Grows.refl _) ?_
        · go_simp
        · rfl
      · intro a x hA
        have t23 : a.tmps[23]?.getD undef = .bool bq := hA.dep_ ⟨4, .data⟩ (by simp) _ 23 rfl rfl
        refine step_value (w' := x) (v := .bool bq) ?_ (Grows.refl _) ?_
        · go_simp
        · rfl
    case rfin =>
      intro y W' hg hV
      simp only [AllVals] at hV
      obtain ⟨_, _, _, _, _, hA9, _⟩ := hV
      have hb := grows_below hg
      clear hg
      simp only [putAll, Act.put, List.setIfInBounds_toArray, List.set_cons_zero, List.set_cons_succ]
      rw [hA9]
      clear hA9
      have HB4 := hid hb
      clear hb
      cases bq
      · have hne : ¬ xs.length = 0 := fun h0 => by
          rcases HSO.out with h1 | h1
          · cases h1
          · exact h1 (List.eq_nil_of_length_eq_zero (by rw [← HJ3.out]; exact h0))
        have HXN := hid (show ¬ xs = [] from fun h => hne (by rw [h]; rfl))
        have hd0 : ((xs.length : Int) == 0) = false := beq_eq_false_iff_ne.2 (by omega)
        clear hne
        go_wp2_with fail
        refine wp_region_invG rfl Grows (fun i v x => match i with
            | 0 => v = .slice va xs.length vc
            | 1 => v = .int .i64 (xs.length : Int)
            | 2 => v = .bool false
            | 3 => v = .bool false
            | 4 => v = undef
            | 5 => v = undef
            | 6 => v = undef
            | 7 => v = undef
            | 8 => v = undef
            | 9 => v = undef
            | 10 => v = .bool false
            | 11 => v = .bool false
            | _ => True) (by kernel_rfl) Grows.refl Grows.trans ?rstab ?rsteps ?rfin
        case rstab =>
          intro i v x y hg h
          match i with
          | 0 | 1 | 2 | 3 | 4 | 5 | 6 | 7 | 8 | 9 | 10 | 11 => exact h
          | n + 12 => trivial
        case rsteps =>
          refine ⟨?_, ?_, ?_, ?_, ?_, ?_, ?_, ?_, ?_, ?_, ?_, ?_, trivial⟩
          · intro a x hA
            refine .inl ⟨rfl, ?_⟩
            have t7 := hA.at_ 7 (by first | rfl | kernel_rfl) rfl
            have hBx := HBX.out.keep (HB4.out.trans (hA.grown.mono HB4.out.size))
            have hc0 := hBx.cell (o := 0) rfl
            have hc1 := hBx.cell (o := 1) rfl
            have hTx := HTX.out.keep (HB4.out.trans (hA.grown.mono HB4.out.size))
            have ht0 := hTx.cell (o := 0) rfl
            clear hBx hTx
            refine step_value (w' := x) (v := .slice va xs.length vc) ?_ (Grows.refl _) ?_
            · go_simp
            · rfl
          · intro a x hA
            refine .inl ⟨rfl, ?_⟩
            have t25 : a.tmps[25]?.getD undef = .slice va xs.length vc := hA.dep_ ⟨0, .data⟩ (by simp) _ 25 rfl rfl
            refine step_value (w' := x) (v := .int .i64 (xs.length : Int)) ?_ (Grows.refl _) ?_
            · go_simp
            · rfl
          · intro a x hA
            refine .inl ⟨rfl, ?_⟩
            have t26 : a.tmps[26]?.getD undef = .int .i64 (xs.length : Int) := hA.dep_ ⟨1, .data⟩ (by simp) _ 26 rfl rfl
            refine step_value (w' := x) (v := .bool false) ?_ (Grows.refl _) ?_
            · go_simp
            · rfl
          · intro a x hA
            refine .inl ⟨rfl, ?_⟩
            have t27 : a.tmps[27]?.getD undef = .bool false := hA.dep_ ⟨2, .data⟩ (by simp) _ 27 rfl rfl
            refine step_value (w' := x) (v := .bool false) ?_ (Grows.refl _) ?_
            · go_simp
            · rfl
          · intro a x hA
            have tg : a.tmps[28]?.getD undef = .bool false := hA.dep_ ⟨3, .guard⟩ (by simp) _ 28 rfl rfl
            exact .inr ⟨by rw [wanted_of (j := 3) rfl (yielded_of (by rfl) rfl tg)]; rfl, rfl⟩
          · intro a x hA
            have tg : a.tmps[28]?.getD undef = .bool false := hA.dep_ ⟨3, .guard⟩ (by simp) _ 28 rfl rfl
            exact .inr ⟨by rw [wanted_of (j := 3) rfl (yielded_of (by rfl) rfl tg)]; rfl, rfl⟩
          · intro a x hA
            have tg : a.tmps[28]?.getD undef = .bool false := hA.dep_ ⟨3, .guard⟩ (by simp) _ 28 rfl rfl
            exact .inr ⟨by rw [wanted_of (j := 3) rfl (yielded_of (by rfl) rfl tg)]; rfl, rfl⟩
          · intro a x hA
            have tg : a.tmps[28]?.getD undef = .bool false := hA.dep_ ⟨3, .guard⟩ (by simp) _ 28 rfl rfl
            exact .inr ⟨by rw [wanted_of (j := 3) rfl (yielded_of (by rfl) rfl tg)]; rfl, rfl⟩
          · intro a x hA
            have tg : a.tmps[28]?.getD undef = .bool false := hA.dep_ ⟨3, .guard⟩ (by simp) _ 28 rfl rfl
            exact .inr ⟨by rw [wanted_of (j := 3) rfl (yielded_of (by rfl) rfl tg)]; rfl, rfl⟩
          · intro a x hA
            have tg : a.tmps[28]?.getD undef = .bool false := hA.dep_ ⟨3, .guard⟩ (by simp) _ 28 rfl rfl
            exact .inr ⟨by rw [wanted_of (j := 3) rfl (yielded_of (by rfl) rfl tg)]; rfl, rfl⟩
          · intro a x hA
            refine .inl ⟨rfl, ?_⟩
            have t28 : a.tmps[28]?.getD undef = .bool false := hA.dep_ ⟨3, .data⟩ (by simp) _ 28 rfl rfl
            have t34 : a.tmps[34]?.getD undef = undef := hA.dep_ ⟨9, .data⟩ (by simp) _ 34 rfl rfl
            refine step_value (w' := x) (v := .bool false) ?_ (Grows.refl _) ?_
            · go_simp
            · rfl
          · intro a x hA
            refine .inl ⟨rfl, ?_⟩
            have t35 : a.tmps[35]?.getD undef = .bool false := hA.dep_ ⟨10, .data⟩ (by simp) _ 35 rfl rfl
            refine step_value (w' := x) (v := .bool false) ?_ (Grows.refl _) ?_
            · go_simp
            · rfl
        case rfin =>
          intro y W' hg hV
          simp only [AllVals] at hV
          obtain ⟨_, _, _, _, _, _, _, _, _, _, _, hA9, _⟩ := hV
          have hb6 := grows_below hg
          clear hg
          simp only [putAll, Act.put, List.setIfInBounds_toArray, List.set_cons_zero, List.set_cons_succ]
          rw [hA9]
          clear hA9
          have hb46 := HB4.out.trans (hb6.mono HB4.out.size)
          clear HB4 hb6
          have HB6 := hid hb46
          clear hb46
          have t0 := (HTX.out.keep HB6.out).cell (o := 0) rfl
          obtain ⟨K, eK⟩ : ∃ K, va = some ⟨K, 0, none⟩ := by
            rcases HJ.out.1.2 with ⟨e, e0⟩ | ⟨g, cap, _, e, _⟩
            · exact absurd (List.eq_nil_of_length_eq_zero e0) HXN.out
            · cases e; exact ⟨g, rfl⟩
          subst eK
          obtain ⟨xl, lr, hcl⟩ : ∃ l r, cs = l :: r := by
            cases cs with
            | nil => exact absurd (List.eq_nil_of_length_eq_zero HJ3.out) HXN.out
            | cons l r => exact ⟨_, _, rfl⟩
          have HCL := hid hcl
          obtain ⟨xv, xr, hxs, hxb, hxo⟩ := HJ.out.2.2 xl lr hcl
          obtain ⟨xa, xc, hxv⟩ := hxb.form
          subst hxv
          have HXV := hid (And.intro hxb (show ∀ g, (Value.slice xa xl.length xc).ownBlock = some g → ¬ p'.all L g ∧ g < W3.heap.size from fun g hg => ⟨(hxo g hg).1, (hxo g hg).2.1⟩))
          have HX0 := hid (show W3.cell? ⟨K, 0, none⟩ = some (.slice xa xl.length xc) by
            rcases HJ.out.1.2 with ⟨e, _⟩ | ⟨g, cap, cur, e, _, hg, _, _, _, htk⟩
            · cases e
            · cases e
              have hu : xs[0]? = some (.slice xa xl.length xc) := by rw [hxs]; rfl
              rw [← htk, List.getElem?_take] at hu
              split at hu
              · simp [World.cell?, hg]
                simpa using hu
              · cases hu)
          have hxp : 0 < xs.length := by rw [hxs]; simp
          clear hcl hxb hxo
          have hix : (0 : Int) < (xs.length : Int) := by omega
          go_wp2_with fail
          clear hxs t0
          refine wp_region_tail 7 rfl Grows (fun i v x => match i with
              | 0 => v = .pointer (some ⟨L, 0, none⟩)
              | 1 => v = .agg #[.int .i64 iz, .slice na nodes.length nc]
              | 2 => v = .int .i64 pos
              | 3 => v = .slice (some ⟨K, 0, none⟩) xs.length vc
              | 4 => v = .pointer (some ⟨K, 0, none⟩)
              | 5 => v = .slice xa xl.length xc
              | 6 => v = .agg #[.int .i64 2, .int .i64 0, .int .i64 pos, .slice xa xl.length xc]
              | _ => True) (by kernel_rfl) (Grows.refl _) Grows.trans ?rstab ?rsteps ?rfin
          case rstab =>
            intro i v x y hg h
            match i with
            | 0 | 1 | 2 | 3 | 4 | 5 | 6 => exact h
            | n + 7 => trivial
          case rsteps =>
            simp only [List.take_succ_cons, List.take_zero]
            refine ⟨?_, ?_, ?_, ?_, ?_, ?_, ?_, trivial⟩
            · intro a x hA
              have t0 := hA.at_ 0 (by first | rfl | kernel_rfl) rfl
              refine step_value (w' := x) (v := .pointer (some ⟨L, 0, none⟩)) ?_ (Grows.refl _) ?_
              · go_simp
              · rfl
            · intro a x hA
              have t4 := hA.at_ 4 (by first | rfl | kernel_rfl) rfl
              have hBx := HBX.out.keep (HB6.out.trans (hA.grown.mono HB6.out.size))
              have hc0 := hBx.cell (o := 0) rfl
              have hc1 := hBx.cell (o := 1) rfl
              have hTx := HTX.out.keep (HB6.out.trans (hA.grown.mono HB6.out.size))
              have ht0 := hTx.cell (o := 0) rfl
              have hx0 := ext_cell HX0.out (Ext.ofBelow (fp := nofp) (HB6.out.trans (hA.grown.mono HB6.out.size))) (fun h => h)
              clear hBx hTx
              refine step_value (w' := x) (v := .agg #[.int .i64 iz, .slice na nodes.length nc]) ?_ (Grows.refl _) ?_
              · go_simp
              · rfl
            · intro a x hA
              have t2 := hA.at_ 2 (by first | rfl | kernel_rfl) rfl
              refine step_value (w' := x) (v := .int .i64 pos) ?_ (Grows.refl _) ?_
              · go_simp
              · rfl
            · intro a x hA
              have t7 := hA.at_ 7 (by first | rfl | kernel_rfl) rfl
              have hBx := HBX.out.keep (HB6.out.trans (hA.grown.mono HB6.out.size))
              have hc0 := hBx.cell (o := 0) rfl
              have hc1 := hBx.cell (o := 1) rfl
              have hTx := HTX.out.keep (HB6.out.trans (hA.grown.mono HB6.out.size))
              have ht0 := hTx.cell (o := 0) rfl
              have hx0 := ext_cell HX0.out (Ext.ofBelow (fp := nofp) (HB6.out.trans (hA.grown.mono HB6.out.size))) (fun h => h)
              clear hBx hTx
              refine step_value (w' := x) (v := .slice (some ⟨K, 0, none⟩) xs.length vc) ?_ (Grows.refl _) ?_
              · go_simp
              · rfl
            · intro a x hA
              have t43 : a.tmps[43]?.getD undef = .slice (some ⟨K, 0, none⟩) xs.length vc := hA.dep_ ⟨3, .data⟩ (by simp) _ 43 rfl rfl
              refine step_value (w' := x) (v := .pointer (some ⟨K, 0, none⟩)) ?_ (Grows.refl _) ?_
              · go_simp
              · rfl
            · intro a x hA
              have t44 : a.tmps[44]?.getD undef = .pointer (some ⟨K, 0, none⟩) := hA.dep_ ⟨4, .data⟩ (by simp) _ 44 rfl rfl
              have hBx := HBX.out.keep (HB6.out.trans (hA.grown.mono HB6.out.size))
              have hc0 := hBx.cell (o := 0) rfl
              have hc1 := hBx.cell (o := 1) rfl
              have hTx := HTX.out.keep (HB6.out.trans (hA.grown.mono HB6.out.size))
              have ht0 := hTx.cell (o := 0) rfl
              have hx0 := ext_cell HX0.out (Ext.ofBelow (fp := nofp) (HB6.out.trans (hA.grown.mono HB6.out.size))) (fun h => h)
              clear hBx hTx
              refine step_value (w' := x) (v := .slice xa xl.length xc) ?_ (Grows.refl _) ?_
              · go_simp
              · rfl
            · intro a x hA
              have t42 : a.tmps[42]?.getD undef = .int .i64 pos := hA.dep_ ⟨2, .data⟩ (by simp) _ 42 rfl rfl
              have t45 : a.tmps[45]?.getD undef = .slice xa xl.length xc := hA.dep_ ⟨5, .data⟩ (by simp) _ 45 rfl rfl
              refine step_value (w' := x) (v := .agg #[.int .i64 2, .int .i64 0, .int .i64 pos, .slice xa xl.length xc]) ?_ (Grows.refl _) ?_
              · go_simp
              · rfl
          case rfin =>
            intro y W' hg hV
            simp only [List.take_succ_cons, List.take_zero, AllVals] at hV
            obtain ⟨hv0, hv1, hv2, hv3, hv4, hv5, hv6, _⟩ := hV
            have hb10 := grows_below hg
            clear hg
            simp only [List.take_succ_cons, List.take_zero, List.drop_succ_cons, List.drop_zero, putAll, Act.put, List.setIfInBounds_toArray, List.set_cons_zero, List.set_cons_succ]
            rw [hv0, hv1, hv6]
            clear hv0 hv1 hv2 hv3 hv4 hv5 hv6
            have b36 := HB6.out.trans (hb10.mono HB6.out.size)
            have HBX9 := hid (HBX.out.keep b36)
            clear hb10
            go_wp2_with fail
            refine (log_ask_nil (HL.out.1.keep b36) (by have := repliesL_room (k := 4) (lo := iz) (po := pos) (l := []) nodes (hpr.le (show nodes.length + 1073741824 ≤ 2147483648 by omega)); rw [hR] at this; exact this) iz 2 0 pos (.slice na nodes.length nc) (.slice xa xl.length xc) nodes xl (HN3.out.1.keep b36) (HXV.out.1.keep b36) hnl (fun g hg => ⟨(HN3.out.2 g hg).1, Nat.lt_of_lt_of_le (HN3.out.2 g hg).2 b36.size⟩) (fun g hg => ⟨(HXV.out.2 g hg).1, Nat.lt_of_lt_of_le (HXV.out.2 g hg).2 b36.size⟩)).mono ?_
            obtain ⟨R2, hR2⟩ : ∃ R2, repliesL R.2 2 iz pos xl nodes = R2 := ⟨_, rfl⟩
            rw [hR2]
            rintro e W8 ⟨m2, p2, rfl, hmm2, hT2, hL2, hgr2, hnm2, _, hx8⟩
            have HTB2 := hid hT2
            obtain ⟨z2, hz2⟩ : ∃ z : Int, (cntE 0 R2.1 : Int) = z := ⟨_, rfl⟩
            obtain ⟨bq2, hbq2⟩ : ∃ b, decide (z2 ≥ q) = b := ⟨_, rfl⟩
            have HSF := hid (show placeL s ⟨iz, nodes⟩ pos = (if bq2 = true then 0 else firstE [31, 32, 7] R2.1, R2.2) by
              rw [HS2.out (by simp) xl lr HCL.out, hR2, ← hbq2, ← hz2, ← HQ.out]
              simp only [ge_iff_le, Int.ofNat_le, decide_eq_true_eq])
            have HZ2 := hid hz2
            have hbe := HBX9.out.ext hx8 (fun hc => hc.elim HNB0.out (fun h => h))
            clear HBX
            have HBX := hid hbe
            have HL2 := hid (show LkAt W8 L p2 R2.2 ∧ (∀ b, p2.all L b → p.all L b ∨ W.heap.size ≤ b) ∧ Ext (p.all L) W W8 from ⟨hL2, fun b hb => (hgr2 b hb).elim (fun h9 => HL.out.2.1 b h9) (fun h9 => .inr (Nat.le_trans HL.out.2.2.size (Nat.le_trans b36.size h9))), ((HL.out.2.2.trans (Ext.ofBelow b36 (fp := p.all L)) (fun b hb => .inl hb)).trans hx8 (fun b hb => hb.elim (fun h9 => HL.out.2.1 b h9) (fun h9 => h9.elim)))⟩)
            clear hT2 hL2 hgr2 hnm2 hx8 hbe hz2
            go_wp2_with fail
            refine wp_region_inv rfl Grows (fun i v x => match i with
                | 0 => v = .map (some m2)
                | 1 => v = .int .i64 z2
                | 2 => v = .agg #[.int .i64 iz, .slice na nodes.length nc]
                | 3 => v = .int .i64 q
                | 4 => v = .bool bq2
                | _ => True) (by kernel_rfl) (Grows.refl _) Grows.trans ?rstab ?rsteps ?rfin
            case rstab =>
              intro i v x y hg h
              match i with
              | 0 | 1 | 2 | 3 | 4 => exact h
              | n + 5 => trivial
            case rsteps =>
              refine ⟨?_, ?_, ?_, ?_, ?_, trivial⟩
              · intro a x hA
                have t8 := hA.at_ 8 (by first | rfl | kernel_rfl) rfl
                refine step_value (w' := x) (v := .map (some m2)) ?_ (Grows.refl _) ?_
                · go_simp
                · rfl
              · intro a x hA
                have t48 : a.tmps[48]?.getD undef = .map (some m2) := hA.dep_ ⟨0, .data⟩ (by simp) _ 48 rfl rfl
                have hBx := HBX.out.keep hA.grown
                have hc0 := hBx.cell (o := 0) rfl
                have hc1 := hBx.cell (o := 1) rfl
                clear hBx
                have hlk := (HTB2.out.keep hA.grown).look (P := Tryz.prog) Tryz.underlying102 Tryz.underlying28 (fun w => by kernel_rfl) 0
                unfold cntF at hlk
                rw [HZ2.out] at hlk
                refine step_value (w' := x) (v := .int .i64 z2) ?_ (Grows.refl _) ?_
                · clear hc0 hc1
                  go_simp
                · rfl
              · intro a x hA
                have t4 := hA.at_ 4 (by first | rfl | kernel_rfl) rfl
                have hBx := HBX.out.keep hA.grown
                have hc0 := hBx.cell (o := 0) rfl
                have hc1 := hBx.cell (o := 1) rfl
                clear hBx
                refine step_value (w' := x) (v := .agg #[.int .i64 iz, .slice na nodes.length nc]) ?_ (Grows.refl _) ?_
                · go_simp
                · rfl
              · intro a x hA
                have t50 : a.tmps[50]?.getD undef = .agg #[.int .i64 iz, .slice na nodes.length nc] := hA.dep_ ⟨2, .data⟩ (by simp) _ 50 rfl rfl
                have hBx := HBX.out.keep hA.grown
                have hc0 := hBx.cell (o := 0) rfl
                have hc1 := hBx.cell (o := 1) rfl
                clear hBx
                have hcq := log_Quorum (W := x) iz na nodes.length nc (by omega)
                rw [HQ.out] at hcq
                refine step_call (f := 9) (args := #[.agg #[.int .i64 iz, .slice na nodes.length nc]]) (by clear hc0 hc1 hcq; go_simp) (hcq.mono ?_)
                rintro e w' ⟨rfl, hb⟩
                exact ⟨_, rfl, grows_of_below hb, rfl⟩
              · intro a x hA
                have t49 : a.tmps[49]?.getD undef = .int .i64 z2 := hA.dep_ ⟨1, .data⟩ (by simp) _ 49 rfl rfl
                have t51 : a.tmps[51]?.getD undef = .int .i64 q := hA.dep_ ⟨3, .data⟩ (by simp) _ 51 rfl rfl
                refine step_value (w' := x) (v := .bool bq2) ?_ (Grows.refl _) ?_
                · go_simp
                · rfl
            case rfin =>
              intro y W' hg hV
              simp only [AllVals] at hV
              obtain ⟨_, _, _, _, hA9, _⟩ := hV
              have hb11 := grows_below hg
              clear hg
              simp only [putAll, Act.put, List.setIfInBounds_toArray, List.set_cons_zero, List.set_cons_succ]
              rw [hA9]
              clear hA9
              have HB11 := hid hb11
              clear hb11
              cases bq2
              · have hTs := HTB2.out.keep HB11.out
                obtain ⟨W9, hW9⟩ : ∃ W9, W'.alloc (.cells #[.int .i64 31, .int .i64 32, .int .i64 7] 28) = W9 := ⟨_, rfl⟩
                have b9 : Below W'.heap.size W' W9 := by rw [← hW9]; exact (Below.refl _ _).alloc (Nat.le_refl _) _
                have k9 : Blk W9 W'.heap.size #[.int .i64 31, .int .i64 32, .int .i64 7] 28 := by rw [← hW9]; exact Blk.new _ _ _
                have HF := hid (tally_first m2 R2.1 (.slice (some ⟨W'.heap.size, 0, none⟩) 3 3) [31, 32, 7] (hTs.keep b9) (is_lit (es := [31, 32, 7]) k9) (by simp))
                clear hTs k9
                go_wp2_with fail
                refine HF.out.mono ?_
                rintro e WX ⟨rfl, hwx⟩
                subst hwx
                clear hW9
                go_wp2_with fail
                go_ret
                rw [HSF.out]
                obtain ⟨g1, g2, g3⟩ := HL2.out
                have b35 := HB11.out.trans (b9.mono HB11.out.size)
                exact ⟨rfl, p2, g1.keep b35, g2, g3.trans (Ext.ofBelow b35 (fp := p.all L)) (fun b hb => .inl hb)⟩
              · go_wp2_with fail
                go_ret
                rw [HSF.out]
                obtain ⟨g1, g2, g3⟩ := HL2.out
                exact ⟨rfl, p2, g1.keep HB11.out, g2, g3.trans (Ext.ofBelow HB11.out (fp := p.all L)) (fun b hb => .inl hb)⟩
      · go_wp2_with fail
        go_ret
        rw [HS1.out (by simp)]
        obtain ⟨g1, g2, g3⟩ := HL.out
        exact ⟨rfl, p', g1.keep HB4.out, g2, g3.trans (Ext.ofBelow HB4.out (fp := p.all L)) (fun b hb => .inl hb)⟩
  · have hbz := HBZ.out
    go_wp2_with fail
    all_goals first | (exfalso; simp_all; done) | skip
    go_ret
    rw [HS1.out (by simp)]
    obtain ⟨g1, g2, g3⟩ := HL.out
    exact ⟨rfl, p', g1, g2, g3⟩
end
end Go.Proofs.YtbahjinlcbjikaaGreat
