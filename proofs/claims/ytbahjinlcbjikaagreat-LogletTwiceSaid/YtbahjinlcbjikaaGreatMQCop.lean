import Derived.Test.YtbahjinlcbjikaaGreatQLog4
/-! Package loglet: Seal. -/
namespace Go.Proofs.YtbahjinlcbjikaaGreat
open Go.RowKit

theorem tailL_snoc {rs : List LRp} {j : Nat} {r : LRp} (h : rs[j]? = some r) : tailL (rs.take (j + 1)) = if r.e = 0 then max (tailL (rs.take j)) r.tl else tailL (rs.take j) := by
  have ht : rs.take (j + 1) = rs.take j ++ [r] := by rw [List.take_add_one, h]; rfl
  unfold tailL
  rw [ht, List.foldl_append]
  rfl
section
variable {W : World} {L : Nat} {p : LkP} {s : LkS}
set_option maxRecDepth 100000 in
set_option maxHeartbeats 1600000 in
theorem seal_look (T : Nat) (t e tl : Int) (sl : Bool) (va : Option Addr) (n c : Nat) (hB : Blk W T #[.int .i64 t] 3) :
    Calls Tryz.prog 43 #[.agg #[.int .i64 e, .int .i64 tl, .bool sl, .slice va n c], .pointer (some ⟨T, 0, none⟩)] W fun e w' => (∃ x, e = .returned x) ∧ Blk w' T #[.int .i64 (max t tl)] 3 ∧ Ext (fun b => b = T) W w' := by
  obtain ⟨W1, hW1⟩ : ∃ W1, W.alloc (.cells #[.int .i64 e, .int .i64 tl, .bool sl, .slice va n c] 51) = W1 := ⟨_, rfl⟩
  have b1 : Below W.heap.size W W1 := by rw [← hW1]; exact (Below.refl _ _).alloc (Nat.le_refl _) _
  have k1 : Blk W1 W.heap.size #[.int .i64 e, .int .i64 tl, .bool sl, .slice va n c] 51 := by rw [← hW1]; exact Blk.new _ _ _
  have B1 := hB.keep b1
  have c0 := B1.cell (o := 0) rfl
  have f0 := B1.free 0
  have d0 := k1.cell (o := 0) rfl
  have d1 := k1.cell (o := 1) rfl
  have d2 := k1.cell (o := 2) rfl
  have d3 := k1.cell (o := 3) rfl
  have HX := hid (show ∀ v, Ext (fun b => b = T) W (W1.setCell ⟨T, 0, none⟩ v) from fun v => (Ext.ofBelow b1).trans' (Ext.setCell (Ext.refl (fun b => b = T) W1) (.inl rfl) v))
  have HB := hid (show ∀ v, Blk (W1.setCell ⟨T, 0, none⟩ v) T #[v] 3 from fun v => B1.set (o := 0) v)
  clear k1 B1 b1 hB
  go_enter Tryz.func43, Tryz.ntmps43
  go_wp2_with fail
  all_goals go_end0
  all_goals refine ⟨⟨_, rfl⟩, ?_, HX.out _⟩
  all_goals first | (rw [show max t tl = tl from by omega]; exact HB.out _) | (rw [show max t tl = t from by omega]; exact HB.out _)

set_option maxRecDepth 100000 in
set_option maxHeartbeats 6400000 in
theorem log_Seal (h : LkAt W L p s) (hpr : s.room 1073741824) (iz : Int) (nv : Value) (nodes : List Int) (hm : mayB s ⟨iz, nodes⟩ 0 0 = true) (hn : Is W nv nodes) (hnl : nodes.length ≤ 1073741824) (k4 : ∀ g, nv.ownBlock = some g → ¬ p.all L g ∧ g < W.heap.size) :
    Calls Tryz.prog 20 #[.pointer (some ⟨L, 0, none⟩), .agg #[.int .i64 iz, nv]] W fun e w' => e = .returned (.tuple #[.int .i64 (sealL s ⟨iz, nodes⟩).1, .int .i64 (sealL s ⟨iz, nodes⟩).2.1]) ∧ LkPost W L p (sealL s ⟨iz, nodes⟩).2.2 w' := by
  obtain ⟨R, hR⟩ : ∃ R, repliesL s 3 iz 0 [] nodes = R := ⟨_, rfl⟩
  obtain ⟨q, hq⟩ : ∃ q : Int, ((nodes.length / 2 + 1 : Nat) : Int) = q := ⟨_, rfl⟩
  obtain ⟨z, hz⟩ : ∃ z : Int, (cntE 0 R.1 : Int) = z := ⟨_, rfl⟩
  obtain ⟨bq, hbq⟩ : ∃ b, decide (z < q) = b := ⟨_, rfl⟩
  have hS : sealL s ⟨iz, nodes⟩ = (if bq = true then (0, firstE [7] R.1, R.2) else (tailL R.1, 0, R.2)) := by
    unfold sealL
    rw [if_pos hm, hR, ← hbq, ← hz, ← hq]
    unfold Cfg.quorum
    simp only [Int.ofNat_lt, decide_eq_true_eq]
  rw [hS]
  clear hS
  obtain ⟨na, nc, hnv⟩ : ∃ a c, nv = .slice a nodes.length c := by obtain ⟨a, c, e, _⟩ := hn; exact ⟨a, c, e⟩
  subst hnv
  have HZ := hid hz
  have HQ := hid hq
  obtain ⟨W1, hW1⟩ : ∃ W1, (W.alloc (.cells #[.int .i64 iz, .slice na nodes.length nc] 24)).alloc (.cells #[.int .i64 0] 3) = W1 := ⟨_, rfl⟩
  have B1 : Blk W1 W.heap.size #[.int .i64 iz, .slice na nodes.length nc] 24 := by rw [← hW1]; exact (Blk.new _ _ _).alloc _
  have T1 : Blk W1 (W.heap.size + 1) #[.int .i64 0] 3 := by rw [← hW1]; exact Blk.new' _ _ (by simp) _ _
  have b1 : Below W.heap.size W W1 := by rw [← hW1]; exact ((Below.refl _ _).alloc (Nat.le_refl _) _).alloc (by simp) _
  have c0 := B1.cell (o := 0) rfl
  have c1 := B1.cell (o := 1) rfl
  have hs1 : W1.heap.size = W.heap.size + 2 := by rw [← hW1]; simp
  have HMAY := hid (link_may (h.keep b1) iz _ nodes 0 0 (hn.keep b1) hnl hm)
  have HPL := hid (show ∀ b, p.all L b → b < W.heap.size from fun b hb => h.size hb)
  have HH := hid (And.intro h (And.intro hn k4))
  clear hn k4 h hz hq hm
  go_enter Tryz.func20, Tryz.ntmps20
  go_wp2_with fail
  refine HMAY.out.mono ?_
  rintro e W2 ⟨rfl, b2⟩
  clear HMAY hW1 c0 c1
  have B2 := B1.keep b2
  have T2 := T1.keep b2
  have b02 := b1.trans (b2.mono b1.size)
  have hs2 := b2.size
  have c0 := B2.cell (o := 0) rfl
  have c1 := B2.cell (o := 1) rfl
  have HB := hid (And.intro B2 (And.intro b02 T2))
  clear B1 b1 b2 B2 b02 T1 T2
  go_wp2_with fail
  refine (log_ask_fn (HH.out.1.keep HB.out.2.1) hpr iz 3 0 0 (.slice na nodes.length nc) (.slice none 0 0) nodes [] 43 #[.pointer (some ⟨W.heap.size + 1, 0, none⟩)] (fun args w => rfl) (HH.out.2.1.keep HB.out.2.1) (Bs.nil _) hnl (fun g hg => ⟨(HH.out.2.2 g hg).1, by have := (HH.out.2.2 g hg).2; omega⟩) (fun g hg => by cases hg)
    (fun b => b = W.heap.size + 1) (fun j al w => Blk w (W.heap.size + 1) #[.int .i64 (tailL (R.1.take j))] 3 ∧ ¬ al (W.heap.size + 1) ∧ True) ⟨HB.out.2.2, fun hc => (by have := HPL.out _ hc; omega), trivial⟩ (fun b e => ⟨by omega, fun hc => (by have := HPL.out _ hc; omega)⟩) ?hst ?hskip ?hlook).mono ?_
  case hst =>
    rintro j al al' A B ⟨h1, h2, _⟩ he hg
    exact ⟨h1.ext he (fun hc => hc.elim h2 (fun hc => by omega)), fun hc => (hg _ hc).elim h2 (fun h9 => by have := h1.lt; omega), trivial⟩
  case hskip =>
    rintro j al A r hr hre ⟨h1, h2, _⟩
    rw [hR] at hr
    refine ⟨?_, h2, trivial⟩
    rw [tailL_snoc hr, if_neg hre]
    exact h1
  case hlook =>
    rintro j al A r v hr hre ⟨h1, h2, _⟩ hbv hvo hal hsz
    rw [hR] at hr
    obtain ⟨va, vc, rfl⟩ := hbv.form
    refine (seal_look (W := A) (W.heap.size + 1) (tailL (R.1.take j)) r.e r.tl r.sl va r.b.length vc h1).mono ?_
    rintro e A2 ⟨h3, h4, h5⟩
    refine ⟨h3, ⟨?_, h2, trivial⟩, h5.mono (fun b _ e => ?_)⟩
    · rw [tailL_snoc hr, if_pos hre]
      exact h4
    · have e2 : b = W.heap.size + 1 := e
      subst e2
      refine ⟨h2, fun hk => ?_, .inl rfl⟩
      rcases hk with hk | hk | hk
      · omega
      · have := (HH.out.2.2 _ hk).2; omega
      · cases hk
  simp only [hR, List.take_length]
  rintro e W3 ⟨m, p', rfl, hmm, hT, hL, hgr, hnm, hJ, hx⟩
  have hx2 : Ext (p.all L) W W3 := (Ext.ofBelow HB.out.2.1).trans hx (fun b hb => hb.imp (fun h => h) (fun e => by have e2 : b = W.heap.size + 1 := e; omega))
  have HTB := hid hT
  have HBX := hid (HB.out.1.ext hx (fun hc => hc.elim (fun hc => by have := HPL.out _ hc; omega) (fun hc => by have e2 : W.heap.size = W.heap.size + 1 := hc; omega)))
  have HL := hid (And.intro hL (And.intro (fun b hb => (hgr b hb).imp id (fun h9 : W2.heap.size ≤ b => (by omega : W.heap.size ≤ b)) : ∀ b, p'.all L b → p.all L b ∨ W.heap.size ≤ b) (And.intro hx2 (And.intro hJ trivial))))
  clear hT hL hgr hx hx2 hnm hJ c0 c1
  go_wp2_with fail
  refine wp_region_inv rfl Grows (fun i v x => match i with
      | 0 => v = .map (some m)
      | 1 => v = .int .i64 z
      | 2 => v = .agg #[.int .i64 iz, .slice na nodes.length nc]
      | 3 => v = .int .i64 q
      | 4 => v = .bool bq
      | _ => True) (by kernel_rfl) (Grows.refl _) Grows.trans ?rstab ?rsteps ?rfin
  case rstab =>
    intro i v x y hg h
    match i with
    | 0 | 1 | 2 | 3 | 4 => exact h
    | n + 5 => trivial
  case rsteps =>
    refine ⟨?_, ?_, ?_, ?_, ?_, trivial⟩
    · intro a x hA
      have t6 := hA.at_ 6 (by first | rfl | kernel_rfl) rfl
      refine step_value (w' := x) (v := .map (some m)) ?_ (Grows.refl _) ?_
      · go_simp
      · rfl
    · intro a x hA
      have t16 : a.tmps[16]?.getD undef = .map (some m) := hA.dep_ ⟨0, .data⟩ (by simp) _ 16 rfl rfl
      have hBx := HBX.out.keep hA.grown
      have hc0 := hBx.cell (o := 0) rfl
      have hc1 := hBx.cell (o := 1) rfl
      clear hBx
      have hlk := (HTB.out.keep hA.grown).look (P := Tryz.prog) Tryz.underlying102 Tryz.underlying28 (fun w => by kernel_rfl) 0
      unfold cntF at hlk
      rw [HZ.out] at hlk
      refine step_value (w' := x) (v := .int .i64 z) ?_ (Grows.refl _) ?_
      · clear hc0 hc1
        go_simp
      · rfl
    · intro a x hA
      have t3 := hA.at_ 3 (by first | rfl | kernel_rfl) rfl
      have hBx := HBX.out.keep hA.grown
      have hc0 := hBx.cell (o := 0) rfl
      have hc1 := hBx.cell (o := 1) rfl
      clear hBx
      refine step_value (w' := x) (v := .agg #[.int .i64 iz, .slice na nodes.length nc]) ?_ (Grows.refl _) ?_
      · go_simp
      · rfl
    · intro a x hA
      have t18 : a.tmps[18]?.getD undef = .agg #[.int .i64 iz, .slice na nodes.length nc] := hA.dep_ ⟨2, .data⟩ (by simp) _ 18 rfl rfl
      have hBx := HBX.out.keep hA.grown
      have hc0 := hBx.cell (o := 0) rfl
      have hc1 := hBx.cell (o := 1) rfl
      clear hBx
      have hcq := log_Quorum (W := x) iz na nodes.length nc (by omega)
      rw [HQ.out] at hcq
      refine step_call (f := 9) (args := #[.agg #[.int .i64 iz, .slice na nodes.length nc]]) (by clear hc0 hc1 hcq; go_simp) (hcq.mono ?_)
      rintro e w' ⟨rfl, hb⟩
      exact ⟨_, rfl, grows_of_below hb, rfl⟩
    · intro a x hA
      have t17 : a.tmps[17]?.getD undef = .int .i64 z := hA.dep_ ⟨1, .data⟩ (by simp) _ 17 rfl rfl
      have t19 : a.tmps[19]?.getD undef = .int .i64 q := hA.dep_ ⟨3, .data⟩ (by simp) _ 19 rfl rfl
      refine step_value (w' := x) (v := .bool bq) ?_ (Grows.refl _) ?_
      · go_simp
      · rfl
  case rfin =>
    intro y W' hg hV
    simp only [AllVals] at hV
    obtain ⟨_, _, _, _, hA9, _⟩ := hV
    have hb := grows_below hg
    clear hg
    simp only [putAll, Act.put, List.setIfInBounds_toArray, List.set_cons_zero, List.set_cons_succ]
    rw [hA9]
    clear hA9
    have HB5 := hid hb
    clear hb
    cases bq
    · have kT := (HL.out.2.2.2.1.1).keep HB5.out
      have c9 := kT.cell (o := 0) rfl
      have f9 := kT.free 0
      have HX := hid (show ∀ v, Ext (fun b => b = W.heap.size + 1) W' (W'.setCell ⟨W.heap.size + 1, 0, none⟩ v) from fun v => Ext.setCell (Ext.refl (fun b => b = W.heap.size + 1) W') (.inl rfl) v)
      have HC := hid (show ∀ v, Blk (W'.setCell ⟨W.heap.size + 1, 0, none⟩ v) (W.heap.size + 1) #[v] 3 from fun v => kT.set (o := 0) v)
      have e9 := (HC.out (.int .i64 (tailL R.1))).cell (o := 0) rfl
      clear kT
      go_wp2_with fail
      refine bodyPost_ret (v := .tuple #[.int .i64 (tailL R.1), .int .i64 0]) ?_ rfl ?_
      · simp [results, Tryz.results20, go_sem, e9, asAddr]
      obtain ⟨g1, g2, g3, ⟨j1, j2, j3⟩, hT9⟩ := HL.out
      have hx := (HX.out (.int .i64 (tailL R.1)))
      exact ⟨by first | rfl | simp, p', (g1.keep HB5.out).ext hx (fun b e hb => by have e2 : b = W.heap.size + 1 := e; subst e2; exact j2 hb), g2, (g3.trans (Ext.ofBelow HB5.out (fp := p.all L)) (fun b hb => .inl hb)).trans hx (fun b e => .inr (by have e2 : b = W.heap.size + 1 := e; omega))⟩
    · have hTs := HTB.out.keep HB5.out
      have kT := (HL.out.2.2.2.1.1).keep HB5.out
      obtain ⟨W5, hW5⟩ : ∃ W5, W'.alloc (.cells #[.int .i64 7] 28) = W5 := ⟨_, rfl⟩
      have b5 : Below W'.heap.size W' W5 := by rw [← hW5]; exact (Below.refl _ _).alloc (Nat.le_refl _) _
      have k5 : Blk W5 W'.heap.size #[.int .i64 7] 28 := by rw [← hW5]; exact Blk.new _ _ _
      have kT5 := kT.keep b5
      have c9 := kT5.cell (o := 0) rfl
      have f9 := kT5.free 0
      have HX := hid (show ∀ v, Ext (fun b => b = W.heap.size + 1) W5 (W5.setCell ⟨W.heap.size + 1, 0, none⟩ v) from fun v => Ext.setCell (Ext.refl (fun b => b = W.heap.size + 1) W5) (.inl rfl) v)
      have e9 := (kT5.set (o := 0) (.int .i64 0)).cell (o := 0) rfl
      have HF := hid (tally_first m R.1 (.slice (some ⟨W'.heap.size, 0, none⟩) 1 1) [7] (hTs.keep b5) (is_lit (es := [7]) k5) (by simp))
      clear hTs k5 kT kT5
      go_wp2_with fail
      refine HF.out.mono ?_
      rintro e W6 ⟨rfl, hw6⟩
      subst hw6
      clear hW5
      go_wp2_with fail
      refine bodyPost_ret (v := .tuple #[.int .i64 0, .int .i64 (firstE [7] R.1)]) ?_ rfl ?_
      · simp [results, Tryz.results20, go_sem, e9, asAddr]
      obtain ⟨g1, g2, g3, ⟨j1, j2, j3⟩, hT9⟩ := HL.out
      have b35 := HB5.out.trans (b5.mono HB5.out.size)
      have hx := (HX.out (.int .i64 0))
      exact ⟨by first | rfl | simp, p', (g1.keep b35).ext hx (fun b e hb => by have e2 : b = W.heap.size + 1 := e; subst e2; exact j2 hb), g2, (g3.trans (Ext.ofBelow b35 (fp := p.all L)) (fun b hb => .inl hb)).trans hx (fun b e => .inr (by have e2 : b = W.heap.size + 1 := e; omega))⟩
end
end Go.Proofs.YtbahjinlcbjikaaGreat

/-! append at a row of slices; place's look. -/
namespace Go.Proofs.YtbahjinlcbjikaaGreat
open Go.RowKit

theorem Is.ext {fp : Nat → Prop} {w w' : World} {v : Value} {l : List Int} (h : Is w v l) (he : Ext fp w w') (hn : ∀ k, v.ownBlock = some k → k < w.heap.size → ¬ fp k) : Is w' v l := by
  obtain ⟨a, c, rfl, hr⟩ := h
  refine ⟨a, c, rfl, fun i x hi => ?_⟩
  obtain ⟨g, o, e, hc⟩ := hr i x hi
  have hlt := World.block_lt_of_cell? w _ hc
  refine ⟨g, o, e, ?_⟩
  rw [World.cell?_of_block (w := w) (he.block g hlt (hn g (by rw [e]; rfl) hlt))]
  exact hc
theorem info_bytes : ((Tryz.prog.info? 35).map (fun i => (i.zero, i.size, i.bytes))) = some (some (.slice none 0 0), 1, 24) := by kernel_rfl
theorem run_appendR {P : Program} {T E : TypeId} {i : TypeInfo} (ht : P.underlying T = some (.slice E)) (hi : P.info? E = some i) (hz : i.zero = some (.slice none 0 0)) (hsz : i.size = 1) (hby : i.bytes = 24) (ty : TypeId)
    {w : World} {base : Nat} {v : Value} {l m : List Value} {ad : Addr} {c : Nat} (hown : w.ownsRow base E 1 v l.length l) (hcells : ∀ (j : Nat) (u : Value), m[j]? = some u → w.cell? (ad.add j) = some u) (hone : ∀ u ∈ m, u.oneCell' = true) (hlen : (l.length + m.length) * 24 ≤ 140737488355328) (hbase : base ≤ w.heap.size) :
    ∃ v' w', (Builtin.append_ #[T, T] ty #[v, .slice (some ad) m.length c]).run P w = .ok v' w' ∧ w'.ownsRow base E 1 v' (l ++ m).length (l ++ m) ∧ w.grownBy w' v.ownBlock ∧ (∀ k, v'.ownBlock = some k → v.ownBlock = some k ∨ w.heap.size ≤ k) := by
  by_cases hnil : v = .slice none 0 0
  · subst hnil
    obtain ⟨v', w', h1, h2, h3, h4⟩ := run_append_own (P := P) w w.heap.size T ty E i _ 1 24 ht hi hz hsz hby rfl (by decide) (.slice none 0 0) l.length l (by
      rcases hown.2 with ⟨_, h0⟩ | ⟨_, _, _, e, _⟩
      · have : l = [] := List.eq_nil_of_length_eq_zero h0
        subst this
        exact World.ownsRow_nil w w.heap.size E 1
      · cases e) ad m.length c m (by simp) hcells hone (by unfold maxLen; omega) (by omega) (Nat.le_refl _)
    refine ⟨v', w', h1, ?_, h3, fun k hk => .inr (World.ownsRow.lt h2 k hk).1⟩
    rw [List.length_append]
    refine ⟨h2.1, h2.2.imp id ?_⟩
    rintro ⟨g, cap, cur, e, q1, r⟩
    exact ⟨g, cap, cur, e, by omega, r⟩
  · rcases hown.2 with ⟨h0, _⟩ | ⟨gv, cap, cur, rfl, hb, hg, hnc, hcm, hcs, htk⟩
    · exact absurd h0 hnil
    · by_cases hroom : l.length + m.length ≤ cap
      · obtain ⟨w', h1, h2, h3⟩ := run_append_fits (P := P) w base T ty E i 1 ht hi hsz gv l.length cap l hown ad m.length c m (by simp) hcells hone hroom
        refine ⟨_, w', h1, ?_, h3, fun k hk => .inl hk⟩
        rw [List.length_append]
        exact h2
      · have holds : ∀ (j : Nat) (u : Value), l[j]? = some u → w.cell? ((⟨gv, 0, none⟩ : Addr).add j) = some u := fun j u hu => by
          have h9 : w.cell? ⟨gv, j, none⟩ = some u := by
            rw [← htk, List.getElem?_take] at hu
            split at hu
            · simp [World.cell?, hg]
              simpa using hu
            · cases hu
          unfold Addr.add
          split
          · rename_i hz
            subst hz
            exact h9
          · simpa using h9
        obtain ⟨v', w', h1, h2, h3⟩ := run_append_arg_grows (P := P) w T ty E i _ 1 24 ht hi hz hsz hby rfl (by decide) ⟨gv, 0, none⟩ l.length cap l (by simp) holds ad m.length c m (by simp) hcells (by omega) (by unfold maxLen; omega) (by omega)
        have ho' : w'.ownsRow w.heap.size E 1 v' (l ++ m).length (l ++ m) := by
          rw [List.length_append]
          exact h2
        refine ⟨v', w', h1, ?_, ⟨h3.os, h3.tape, h3.output, h3.size, fun k hk _ => h3.block k hk (by simp)⟩, fun k hk => .inr (World.ownsRow.lt ho' k hk).1⟩
        refine ⟨ho'.1, ho'.2.imp id ?_⟩
        rintro ⟨g, cap2, cur2, e, q1, r⟩
        exact ⟨g, cap2, cur2, e, by omega, r⟩

section
variable {W : World}
set_option maxRecDepth 100000 in
set_option maxHeartbeats 1600000 in
theorem place_look (T base : Nat) (v : Value) (xs : List Value) (e tl : Int) (sl : Bool) (va : Option Addr) (n c : Nat) (hB : Blk W T #[v] 157) (ho : W.ownsRow base 35 1 v xs.length xs) (hb : base ≤ W.heap.size) (hl : xs.length ≤ 1073741824) :
    Calls Tryz.prog 91 #[.agg #[.int .i64 e, .int .i64 tl, .bool sl, .slice va n c], .pointer (some ⟨T, 0, none⟩)] W fun e w' => (∃ x, e = .returned x) ∧ (∃ v', Blk w' T #[v'] 157 ∧ w'.ownsRow base 35 1 v' (xs ++ [Value.slice va n c]).length (xs ++ [Value.slice va n c]) ∧ (∀ k, v'.ownBlock = some k → v.ownBlock = some k ∨ W.heap.size ≤ k)) ∧ Ext (fun b => b = T ∨ v.ownBlock = some b) W w' := by
  obtain ⟨i9, hi, hz0⟩ := Option.map_eq_some_iff.1 info_bytes
  have hz1 : i9.zero = some (.slice none 0 0) := congrArg (fun p : Option Value × Nat × Nat => p.1) hz0
  have hz2 : i9.size = 1 := congrArg (fun p : Option Value × Nat × Nat => p.2.1) hz0
  have hz3 : i9.bytes = 24 := congrArg (fun p : Option Value × Nat × Nat => p.2.2) hz0
  obtain ⟨W1, hW1⟩ : ∃ W1, W.alloc (.cells #[.int .i64 e, .int .i64 tl, .bool sl, .slice va n c] 51) = W1 := ⟨_, rfl⟩
  have b1 : Below W.heap.size W W1 := by rw [← hW1]; exact (Below.refl _ _).alloc (Nat.le_refl _) _
  have k1 : Blk W1 W.heap.size #[.int .i64 e, .int .i64 tl, .bool sl, .slice va n c] 51 := by rw [← hW1]; exact Blk.new _ _ _
  obtain ⟨W2, hW2⟩ : ∃ W2, W1.alloc (.cells #[Value.slice va n c] 35) = W2 := ⟨_, rfl⟩
  have b2 : Below W1.heap.size W1 W2 := by rw [← hW2]; exact (Below.refl _ _).alloc (Nat.le_refl _) _
  have k2 : Blk W2 W1.heap.size #[Value.slice va n c] 35 := by rw [← hW2]; exact Blk.new _ _ _
  have b02 := b1.trans (b2.mono b1.size)
  have ho2 : W2.ownsRow base 35 1 v xs.length xs := World.ownsRow.kept (row := none) ho ⟨b02.os, b02.tape, b02.output, b02.size, fun k hk _ => b02.block k hk⟩ (by cases h : v.ownBlock <;> simp)
  obtain ⟨v', W3, hr, h2, h3, h4⟩ := run_appendR (P := Tryz.prog) (m := [Value.slice va n c]) (ad := ⟨W1.heap.size, 0, none⟩) (c := 1) Tryz.underlying157 hi hz1 hz2 hz3 157 ho2 (fun j u hu => by
    match j, hu with
    | 0, hu => simp at hu; subst hu; exact k2.cell (o := 0) rfl) (by simp [Value.oneCell']) (by simp; omega) (Nat.le_trans hb b02.size)
  obtain ⟨a9, n9, c9, rfl⟩ : ∃ a n c, v' = .slice a n c := by
    rcases h2.2 with ⟨e, _⟩ | ⟨g, cap, _, e, _⟩
    · exact ⟨_, _, _, e⟩
    · exact ⟨_, _, _, e⟩
  have KB1 := hB.keep b1
  have hx2 : Ext (fun b => b = T ∨ v.ownBlock = some b) W W2 := Ext.ofBelow b02
  have hx3 : Ext (fun b => b = T ∨ v.ownBlock = some b) W W3 := hx2.grown h3 (fun k h => .inl (.inr h))
  have hTl : T < W.heap.size := hB.lt
  have c0 := KB1.cell (o := 0) rfl
  have d0 := k1.cell (o := 0) rfl
  have d1 := k1.cell (o := 1) rfl
  have d2 := k1.cell (o := 2) rfl
  have d3 := k1.cell (o := 3) rfl
  by_cases hTv : v.ownBlock = some T
  · exfalso
    rcases ho.2 with ⟨rfl, _⟩ | ⟨g, cap, cur, rfl, _, hg, _⟩
    · cases hTv
    · cases hTv
      have := (Blk.eq hB hg).2
      exact absurd this (by decide)
  have B3 : Blk W3 T #[v] 157 := by
    unfold Blk
    rw [h3.block T (Nat.lt_of_lt_of_le hTl b02.size) (fun e => hTv e.symm)]
    exact hB.keep b02
  have f0 := B3.free 0
  have c3 := B3.cell (o := 0) rfl
  have HB := hid (B3.set (o := 0) (.slice a9 n9 c9))
  have HX := hid (hx3.setCell (a := ⟨T, 0, none⟩) (.inl (.inl rfl)) (.slice a9 n9 c9))
  have HO := hid (show (W3.setCell ⟨T, 0, none⟩ (.slice a9 n9 c9)).ownsRow base 35 1 (.slice a9 n9 c9) (xs ++ [Value.slice va n c]).length (xs ++ [Value.slice va n c]) from by
    refine ⟨h2.1, h2.2.imp id ?_⟩
    rintro ⟨g, cap, cur, e1, q1, q2, r⟩
    refine ⟨g, cap, cur, e1, q1, ?_, r⟩
    rw [Below.heap_setCell _ _ _ _ (fun e2 => ?_)]
    · exact q2
    · cases e1
      rcases h4 g rfl with h5 | h5
      · have e3 : g = T := e2
        rw [e3] at h5
        exact hTv h5
      · have e3 : g = T := e2
        have := b02.size
        omega)
  have H4 := hid (show ∀ k, (Value.slice a9 n9 c9).ownBlock = some k → v.ownBlock = some k ∨ W.heap.size ≤ k from fun k hk => (h4 k hk).imp id (fun h => by have := b02.size; omega))
  clear hB ho hb hl k1 b1 k2 b2 b02 ho2 h2 h3 h4 KB1 hx2 hx3 hTl hTv B3 hi hz0 hz1 hz2 hz3
  go_enter Tryz.func91, Tryz.ntmps91
  go_wp2_with (at_builtin; refine Lib.wpList_append_run W2 rfl (.tmp 3) (.tmp 6) _ _ rfl _ _ rfl rfl _ _ hr ?_)
  go_end0
  exact ⟨⟨_, rfl⟩, ⟨_, HB.out, HO.out, H4.out⟩, HX.out⟩
end
end Go.Proofs.YtbahjinlcbjikaaGreat
