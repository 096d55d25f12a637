import Derived.Test.YtbahjinlcbjikaaGreatMLit
import Derived.Test.YtbahjinlcbjikaaGreatMOpenB
import Derived.Test.YtbahjinlcbjikaaGreatMQLgRead
/-! Package node: New. -/
namespace Go.Proofs.YtbahjinlcbjikaaGreat
open Go.RowKit

set_option maxRecDepth 100000 in
set_option maxHeartbeats 1600000 in
theorem node_New_d (k : Nat) (W : World) (h1 : 1 ≤ k) (h2 : k ≤ 4096) :
    Calls Tryz.prog 36 #[.int .i64 (k : Int)] W fun e w' => ∃ n d q, e = .returned (.tuple #[.pointer (some ⟨n, 0, none⟩), .int .i64 0]) ∧ NodeAt w' n (.pointer (some ⟨d, 0, none⟩)) q St.fresh (Dk.fresh k) ∧ Below W.heap.size W w' ∧ W.heap.size ≤ n ∧ (∀ b, q.all b → W.heap.size ≤ b) := by
  go_enter Tryz.func36, Tryz.ntmps36
  go_wp2_with fail
  refine (disk_New k W h1 h2).mono ?_
  rintro e W1 ⟨p, rfl, hD, b1, hp⟩
  have hN := Blk.new W1 #[.pointer (some ⟨p.d, 0, none⟩), .pointer none] 99
  have b2 : Below W1.heap.size W1 (W1.alloc (.cells #[.pointer (some ⟨p.d, 0, none⟩), .pointer none] 99)) := (Below.refl _ W1).alloc (Nat.le_refl _) _
  have hD2 := hD.keep b2
  have hsz : (W1.alloc (.cells #[.pointer (some ⟨p.d, 0, none⟩), .pointer none] 99)).heap.size = W1.heap.size + 1 := by simp
  have HD := hid (And.intro hD2 (And.intro hN (And.intro b2 hsz)))
  have hps : ∀ b, p.all b → b < W1.heap.size := fun b hb => hD.lt hb
  clear hD hN b2 hD2 hsz
  go_wp2_with fail
  refine (store_Open_fresh k HD.out.1).mono ?_
  rintro e W2 ⟨q, rfl, hS, b3, hqp, hqa, hqb, hqc, hqU⟩
  have hsz := HD.out.2.2.2
  have hN := HD.out.2.1.keep b3
  have hb12 : Below W.heap.size W W2 := b1.trans ((HD.out.2.2.1.mono b1.size).trans (b3.mono (Nat.le_trans b1.size HD.out.2.2.1.size)))
  have hqall : ∀ b, q.all b → W.heap.size ≤ b ∧ b ≠ W1.heap.size := by
    intro b hb
    have h1 := b1.size
    rcases hb with (hb | hb | hb | hb) | hb | hb
    · omega
    · omega
    · omega
    · rw [hqp] at hb; have := hps b (.inl hb); exact ⟨hp b (.inl hb), by omega⟩
    · rw [hqU] at hb; exact hb.elim
    · rw [hqp] at hb; have := hps b (.inr hb); exact ⟨hp b (.inr hb), by omega⟩
  have HH := hid (And.intro hS (And.intro hN (And.intro hb12 hqall)))
  have hf := hN.free 1
  have hc := hN.cell (o := 1) rfl
  have hk := hN.set (o := 1) (.pointer (some ⟨q.s, 0, none⟩))
  have hx : Ext (fun b => b = W1.heap.size) W2 (W2.setCell ⟨W1.heap.size, 1, none⟩ (.pointer (some ⟨q.s, 0, none⟩))) := (Ext.refl (fun b => b = W1.heap.size) W2).setCell (.inl rfl) _
  have HX := hid (And.intro hk hx)
  clear hS hN hb12 hqall hk hx b3
  go_wp2_with fail
  go_ret2
  obtain ⟨hS, hN, hb12, hqall⟩ := HH.out
  obtain ⟨hk, hx⟩ := HX.out
  have hle := b1.size
  exact ⟨W1.heap.size, p.d, q, rfl, ⟨by simpa using hk, hS.ext hx (fun b e hq => (hqall b hq).2 e), ⟨rfl, rfl, rfl, fun _ => rfl⟩, fun hq => (hqall _ hq).2 rfl⟩, hb12.trans (hx.belowOf hb12.size (fun b hb e => by omega)), hle, fun b hb => (hqall b hb).1⟩
theorem node_New (k : Nat) (W : World) (h1 : 1 ≤ k) (h2 : k ≤ 4096) :
    Calls Tryz.prog 36 #[.int .i64 (k : Int)] W fun e w' => ∃ n pv q, e = .returned (.tuple #[.pointer (some ⟨n, 0, none⟩), .int .i64 0]) ∧ NodeAt w' n pv q St.fresh (Dk.fresh k) ∧ Below W.heap.size W w' ∧ W.heap.size ≤ n ∧ (∀ b, q.all b → W.heap.size ≤ b) := by
  refine (node_New_d k W h1 h2).mono ?_
  rintro e w' ⟨n, d, q, h⟩
  exact ⟨n, _, q, h⟩
end Go.Proofs.YtbahjinlcbjikaaGreat

/-! gazettelaw07: num, three, Nodes. -/
namespace Go.Proofs.YtbahjinlcbjikaaGreat
open Go.RowKit

theorem netAt_new {W : World} {N : Nat} (h : Blk W N #[.slice none 0 0, .slice none 0 0, .bool true] 64) : NetAt W ⟨N, .slice none 0 0, .slice none 0 0, fun _ => False⟩ ⟨[], []⟩ :=
  ⟨h, World.ownsRow_nil _ _ _ 1, ⟨[], ⟨World.ownsRow_nil _ _ _ 2, rfl, (fun i m r h => by simp at h), (fun g hg => by cases hg), fun g hg => False.elim hg⟩⟩, (fun g hg => by cases hg), fun h => h⟩
theorem netP_new {N b : Nat} (h : (⟨N, .slice none 0 0, .slice none 0 0, fun _ => False⟩ : NetP).all b) : b = N := by
  rcases h with h | h | h
  · exact h
  · cases h
  · exact h.elim
theorem law7_num (e : Int) (w : World) : Calls Tryz.prog 10 #[.int .i64 e] w fun r w' => r = .returned (.int .i64 e) ∧ w' = w := by
  go_enter Tryz.func10, Tryz.ntmps10
  go_wp2_with fail
  go_ret
  exact ⟨rfl, rfl⟩
theorem size_cfg : (Tryz.prog.info? 24).map (·.size) = some 2 := by kernel_rfl
set_option maxRecDepth 100000 in
set_option maxHeartbeats 1600000 in
theorem law7_three (W : World) : Calls Tryz.prog 26 #[] W fun e w' => ∃ nv, e = .returned (.agg #[.int .i64 1, nv]) ∧ Is w' nv [0, 1, 2] ∧ (∀ g, nv.ownBlock = some g → W.heap.size ≤ g ∧ g < w'.heap.size) ∧ Below W.heap.size W w' := by
  obtain ⟨W1, hW1⟩ : ∃ W1, W.alloc (.cells #[.int .i64 0, .slice none 0 0] 24) = W1 := ⟨_, rfl⟩
  have s1 : W1.heap.size = W.heap.size + 1 := by rw [← hW1]; simp
  have b1 : Below W.heap.size W W1 := by rw [← hW1]; exact (Below.refl _ _).alloc (Nat.le_refl _) _
  have k1 : Blk W1 W.heap.size #[.int .i64 0, .slice none 0 0] 24 := by rw [← hW1]; exact Blk.new _ _ _
  obtain ⟨W2, hW2⟩ : ∃ W2, W1.alloc (.cells #[.int .i64 0, .int .i64 1, .int .i64 2] 3) = W2 := ⟨_, rfl⟩
  have s2 : W2.heap.size = W.heap.size + 2 := by rw [← hW2]; simp [s1]
  have b2 : Below W1.heap.size W1 W2 := by rw [← hW2]; exact (Below.refl _ _).alloc (Nat.le_refl _) _
  have k2 : Blk W2 W1.heap.size #[.int .i64 0, .int .i64 1, .int .i64 2] 3 := by rw [← hW2]; exact Blk.new _ _ _
  have q1 := k1.keep b2
  have c0 := q1.cell (o := 0) rfl
  have c1 := q1.cell (o := 1) rfl
  have f0 := q1.free 0
  have f1 := q1.free 1
  have q3 := (q1.set (o := 0) (.int .i64 1)).set (o := 1) (.slice (some ⟨W1.heap.size, 0, none⟩) 3 3)
  simp only [List.setIfInBounds_toArray, List.set_cons_zero, List.set_cons_succ] at q3
  have k3 := (k2.setOther (a := ⟨W.heap.size, 0, none⟩) (by simp; omega) (.int .i64 1)).setOther (a := ⟨W.heap.size, 1, none⟩) (by simp; omega) (.slice (some ⟨W1.heap.size, 0, none⟩) 3 3)
  have b3 := ((b1.trans (b2.mono b1.size)).setCell (p := ⟨W.heap.size, 0, none⟩) (Nat.le_refl _) (.int .i64 1)).setCell (p := ⟨W.heap.size, 1, none⟩) (Nat.le_refl _) (.slice (some ⟨W1.heap.size, 0, none⟩) 3 3)
  have HF := hid (And.intro q3 (And.intro (is_lit (es := [0, 1, 2]) (c := 3) k3) b3))
  have s3 : ((W2.setCell ⟨W.heap.size, 0, none⟩ (.int .i64 1)).setCell ⟨W.heap.size, 1, none⟩ (.slice (some ⟨W1.heap.size, 0, none⟩) 3 3)).heap.size = W.heap.size + 2 := by simp [s2]
  have HS := hid s3
  have HS1 := hid s1
  clear q1 q3 k1 k2 k3 b1 b2 b3 s3 s1 s2
  go_enter Tryz.func26, Tryz.ntmps26
  go_wp2_with fail
  refine bodyPost_ret (results_cell_row rfl _ _ W.heap.size 24 _ (0, 0) _ rfl HF.out.1 Tryz.underlying24 rfl size_cfg) rfl ?_
  exact ⟨_, rfl, HF.out.2.1, fun g hg => by cases hg; have h9 := HS1.out; show W.heap.size ≤ W1.heap.size ∧ W1.heap.size < _; rw [HS.out]; omega, HF.out.2.2⟩

theorem info_pnode : ((Tryz.prog.info? 42).map (fun i => (i.zero, i.size, i.bytes))) = some (some (.pointer none), 1, 8) := by kernel_rfl
theorem run_appendP {P : Program} {T E : TypeId} {i : TypeInfo} (ht : P.underlying T = some (.slice E)) (hi : P.info? E = some i) (hz : i.zero = some (.pointer none)) (hsz : i.size = 1) (hby : i.bytes = 8) (ty : TypeId)
    {w : World} {base : Nat} {v : Value} {l m : List Value} {ad : Addr} {c : Nat} (hown : w.ownsRow base E 1 v l.length l) (hcells : ∀ (j : Nat) (u : Value), m[j]? = some u → w.cell? (ad.add j) = some u) (hone : ∀ u ∈ m, u.oneCell' = true) (hlen : (l.length + m.length) * 8 ≤ 140737488355328) (hbase : base ≤ w.heap.size) :
    ∃ v' w', (Builtin.append_ #[T, T] ty #[v, .slice (some ad) m.length c]).run P w = .ok v' w' ∧ w'.ownsRow base E 1 v' (l ++ m).length (l ++ m) ∧ w.grownBy w' v.ownBlock ∧ (∀ k, v'.ownBlock = some k → v.ownBlock = some k ∨ w.heap.size ≤ k) := by
  by_cases hnil : v = .slice none 0 0
  · subst hnil
    obtain ⟨v', w', h1, h2, h3, h4⟩ := run_append_own (P := P) w w.heap.size T ty E i _ 1 8 ht hi hz hsz hby rfl (by decide) (.slice none 0 0) l.length l (by
      rcases hown.2 with ⟨_, h0⟩ | ⟨_, _, _, e, _⟩
      · have : l = [] := List.eq_nil_of_length_eq_zero h0
        subst this
        exact World.ownsRow_nil w w.heap.size E 1
      · cases e) ad m.length c m (by simp) hcells hone (by unfold maxLen; omega) (by omega) (Nat.le_refl _)
    refine ⟨v', w', h1, ?_, h3, fun k hk => .inr (World.ownsRow.lt h2 k hk).1⟩
    rw [List.length_append]
    refine ⟨h2.1, h2.2.imp id ?_⟩
    rintro ⟨g, cap, cur, e, q1, r⟩
    exact ⟨g, cap, cur, e, by omega, r⟩
  · rcases hown.2 with ⟨h0, _⟩ | ⟨gv, cap, cur, rfl, hb, hg, hnc, hcm, hcs, htk⟩
    · exact absurd h0 hnil
    · by_cases hroom : l.length + m.length ≤ cap
      · obtain ⟨w', h1, h2, h3⟩ := run_append_fits (P := P) w base T ty E i 1 ht hi hsz gv l.length cap l hown ad m.length c m (by simp) hcells hone hroom
        refine ⟨_, w', h1, ?_, h3, fun k hk => .inl hk⟩
        rw [List.length_append]
        exact h2
      · have holds : ∀ (j : Nat) (u : Value), l[j]? = some u → w.cell? ((⟨gv, 0, none⟩ : Addr).add j) = some u := fun j u hu => by
          have h9 : w.cell? ⟨gv, j, none⟩ = some u := by
            rw [← htk, List.getElem?_take] at hu
            split at hu
            · simp [World.cell?, hg]
              simpa using hu
            · cases hu
          unfold Addr.add
          split
          · rename_i hz
            subst hz
            exact h9
          · simpa using h9
        obtain ⟨v', w', h1, h2, h3⟩ := run_append_arg_grows (P := P) w T ty E i _ 1 8 ht hi hz hsz hby rfl (by decide) ⟨gv, 0, none⟩ l.length cap l (by simp) holds ad m.length c m (by simp) hcells (by omega) (by unfold maxLen; omega) (by omega)
        have ho' : w'.ownsRow w.heap.size E 1 v' (l ++ m).length (l ++ m) := by
          rw [List.length_append]
          exact h2
        refine ⟨v', w', h1, ?_, ⟨h3.os, h3.tape, h3.output, h3.size, fun k hk _ => h3.block k hk (by simp)⟩, fun k hk => .inr (World.ownsRow.lt ho' k hk).1⟩
        refine ⟨ho'.1, ho'.2.imp id ?_⟩
        rintro ⟨g, cap2, cur2, e, q1, r⟩
        exact ⟨g, cap2, cur2, e, by omega, r⟩


/-- A node that is up, or not, and has its disk. -/
def NdD (W : World) (v : Value) (own : Nat → Prop) (d : Nds) : Prop := NdAt W v own d ∧ ∃ n dk u, v = .pointer (some ⟨n, 0, none⟩) ∧ Blk W n #[.pointer (some ⟨dk, 0, none⟩), u] 99 ∧ own n
theorem NdD.ext {fp : Nat → Prop} {W W' : World} {v : Value} {own : Nat → Prop} {d : Nds} (h : NdD W v own d) (he : Ext fp W W') (hn : ∀ b, own b → ¬ fp b) : NdD W' v own d := by
  obtain ⟨h1, n, dk, u, e, h2, h3⟩ := h
  exact ⟨h1.ext he hn, n, dk, u, e, h2.ext he (hn _ h3), h3⟩
section
variable {W : World}
set_option maxRecDepth 100000 in
set_option maxHeartbeats 6400000 in
theorem law7_Nodes_d (n k : Nat) (hn0 : 1 ≤ n) (hn9 : n ≤ 1000) (h1 : 1 ≤ k) (h2 : k ≤ 4096) :
    Calls Tryz.prog 15 #[.int .i64 (n : Int), .int .i64 (k : Int)] W fun e w' => ∃ L p, e = .returned (.pointer (some ⟨L, 0, none⟩)) ∧ LkAt w' L p ⟨⟨[], []⟩, List.replicate n (some (St.fresh, Dk.fresh k))⟩ ∧ Below W.heap.size W w' ∧ (∀ b, p.all L b → W.heap.size ≤ b) ∧ ∀ i, i < n → ∃ x dk u, p.vs[i]? = some (.pointer (some ⟨x, 0, none⟩)) ∧ Blk w' x #[.pointer (some ⟨dk, 0, none⟩), u] 99 ∧ p.ow i x := by
  obtain ⟨i9, hi, hz0⟩ := Option.map_eq_some_iff.1 info_pnode
  have hz1 : i9.zero = some (.pointer none) := congrArg (fun p : Option Value × Nat × Nat => p.1) hz0
  have hz2 : i9.size = 1 := congrArg (fun p : Option Value × Nat × Nat => p.2.1) hz0
  have hz3 : i9.bytes = 8 := congrArg (fun p : Option Value × Nat × Nat => p.2.2) hz0
  have HI := hid (And.intro hi (And.intro hz1 (And.intro hz2 hz3)))
  clear hi hz0 hz1 hz2 hz3
  go_enter Tryz.func15, Tryz.ntmps15
  go_wp2_with fail
  refine net_New.mono ?_
  rintro e W1 ⟨rfl, kN, b1⟩
  obtain ⟨N, hN⟩ : ∃ N, W.heap.size = N := ⟨_, rfl⟩
  obtain ⟨L, hL⟩ : ∃ L, W1.heap.size = L := ⟨_, rfl⟩
  have hNL : N < L := by rw [← hN, ← hL]; exact kN.lt
  rw [hN] at kN
  have kL := Blk.new W1 #[.pointer (some ⟨N, 0, none⟩), .slice none 0 0] 41
  rw [hL] at kL
  have bL : Below W1.heap.size W1 (W1.alloc (.cells #[.pointer (some ⟨N, 0, none⟩), .slice none 0 0] 41)) := (Below.refl _ _).alloc (Nat.le_refl _) _
  have H0 := hid (And.intro kL (And.intro (kN.keep bL) (And.intro (b1.trans (bL.mono b1.size)) (show L + 1 ≤ (W1.alloc (.cells #[.pointer (some ⟨N, 0, none⟩), .slice none 0 0] 41)).heap.size by simp [hL]))))
  rw [hN]
  clear kL kN bL b1
  go_wp2_with fail
  try rw [hL]
  clear hL
  go_loopw [6] (fun i wr => ∃ (j : Nat) (v : Value) (vs : List Value) (ow : Nat → Nat → Prop), j ≤ n ∧ i = .int .i64 (j : Int) ∧ vs.length = j ∧ Blk wr L #[.pointer (some ⟨N, 0, none⟩), v] 41 ∧ wr.ownsRow (L + 1) 42 1 v vs.length vs ∧ Blk wr N #[.slice none 0 0, .slice none 0 0, .bool true] 64 ∧ Below W.heap.size W wr ∧ (∀ (m : Nat) u, vs[m]? = some u → NdD wr u (ow m) (some (St.fresh, Dk.fresh k))) ∧ (∀ a b c, ow a c → ow b c → a = b) ∧ (∀ a b, ow a b → L < b ∧ b < wr.heap.size ∧ v.ownBlock ≠ some b) ∧ (∀ a, j ≤ a → ∀ b, ¬ ow a b)) (fun i _ => n - (intOf i).toNat)
  case atStart =>
    obtain ⟨q1, q2, q3, q4⟩ := H0.out
    exact ⟨0, _, [], fun _ _ => False, Nat.zero_le _, rfl, rfl, q1, World.ownsRow_nil _ _ _ 1, q2, q3, fun m u hu => by simp at hu, fun a b c h => h.elim, fun a b h => h.elim, fun a _ b h => h⟩
  case round =>
    obtain ⟨j, v, vs, ow, hj, rfl, hvl, kL, ho, kN, bw, hnd, hdis, hlt9, hno⟩ := hrel
    by_cases hlt : j < n
    · have hd1 : decide ((j : Int) < (n : Int)) = true := decide_eq_true (by omega)
      have hw : wrap64 ((j : Int) + 1) = (j : Int) + 1 := by unfold wrap64; omega
      have HR := hid (And.intro kL (And.intro ho (And.intro kN (And.intro bw (And.intro hnd (And.intro hdis (And.intro hlt9 hno)))))))
      have hvl := hid hvl
      clear kL ho kN bw hnd hdis hlt9 hno
      go_wp2_with fail
      refine (node_New_d k wr h1 h2).mono ?_
      rintro e w2 ⟨x, dk9, q, rfl, hnode, b2, hx, hq⟩
      have HN := hid (And.intro hnode (And.intro b2 (And.intro hx hq)))
      clear hnode b2 hx hq
      go_wp2_with fail
      refine (law7_num 0 w2).mono ?_
      rintro e w9 ⟨rfl, hw9⟩
      rw [hw9]
      clear hw9 w9
      obtain ⟨kL, ho, kN, bw, hnd, hdis, hlt9, hno⟩ := HR.out
      obtain ⟨hnode, b2, hx, hq⟩ := HN.out
      obtain ⟨w3, hw3⟩ : ∃ w3, w2.alloc (.cells #[.pointer (some ⟨x, 0, none⟩)] 42) = w3 := ⟨_, rfl⟩
      have b3 : Below w2.heap.size w2 w3 := by rw [← hw3]; exact (Below.refl _ _).alloc (Nat.le_refl _) _
      have k3 : Blk w3 w2.heap.size #[.pointer (some ⟨x, 0, none⟩)] 42 := by rw [← hw3]; exact Blk.new _ _ _
      have b23 := b2.trans (b3.mono b2.size)
      have ho3 : w3.ownsRow (L + 1) 42 1 v vs.length vs := World.ownsRow.kept (row := none) ho ⟨b23.os, b23.tape, b23.output, b23.size, fun k hk _ => b23.block k hk⟩ (by cases h : v.ownBlock <;> simp)
      have hlo := World.ownsRow.lt ho
      have hLl := kL.lt
      obtain ⟨v', w4, hr, ho4, hg4, hb4⟩ := run_appendP (P := Tryz.prog) (m := [Value.pointer (some ⟨x, 0, none⟩)]) (ad := ⟨w2.heap.size, 0, none⟩) (c := 1) Tryz.underlying39 HI.out.1 HI.out.2.1 HI.out.2.2.1 HI.out.2.2.2 39 ho3 (fun j u hu => by
        match j, hu with
        | 0, hu => simp at hu; subst hu; exact k3.cell (o := 0) rfl) (by simp [Value.oneCell']) (by have := hvl.out; simp; omega) (by have := b23.size; omega)
      obtain ⟨a9, n9, c9, rfl⟩ : ∃ a n c, v' = .slice a n c := by
        rcases ho4.2 with ⟨e, _⟩ | ⟨g, cap, _, e, _⟩
        · exact ⟨_, _, _, e⟩
        · exact ⟨_, _, _, e⟩
      obtain ⟨a0, n0, c0, rfl⟩ : ∃ a n c, v = .slice a n c := by
        rcases ho.2 with ⟨e, _⟩ | ⟨g, cap, _, e, _⟩
        · exact ⟨_, _, _, e⟩
        · exact ⟨_, _, _, e⟩
      have hLv : (Value.slice a0 n0 c0).ownBlock ≠ some L := fun h => by have := (hlo L h).1; omega
      have hNv : (Value.slice a0 n0 c0).ownBlock ≠ some N := fun h => by have := (hlo N h).1; omega
      have kL3 := kL.keep b23
      have kL4 : Blk w4 L #[.pointer (some ⟨N, 0, none⟩), .slice a0 n0 c0] 41 := by
        unfold Blk
        rw [hg4.block L kL3.lt (fun e => hLv e.symm)]
        exact kL3
      have x4 : Ext (fun b => b = L ∨ (Value.slice a0 n0 c0).ownBlock = some b) wr w4 := (Ext.ofBelow b23).grown hg4 (fun k h => .inl (.inr h))
      have x5 := x4.setCell (a := ⟨L, 1, none⟩) (.inl (.inl rfl)) (.slice a9 n9 c9)
      have x25 : Ext (fun b => b = L ∨ (Value.slice a0 n0 c0).ownBlock = some b) w2 (w4.setCell ⟨L, 1, none⟩ (.slice a9 n9 c9)) := ((Ext.ofBelow b3).grown hg4 (fun k h => .inl (.inr h))).setCell (a := ⟨L, 1, none⟩) (.inl (.inl rfl)) (.slice a9 n9 c9)
      have m0 := (kL.keep b2).cell (o := 1) rfl
      have m1 := kL4.cell (o := 1) rfl
      have m2 := kL4.free 1
      have k5 := kL4.set (o := 1) (.slice a9 n9 c9)
      simp only [List.setIfInBounds_toArray, List.set_cons_zero, List.set_cons_succ] at k5
      have hsz5 : (w4.setCell ⟨L, 1, none⟩ (.slice a9 n9 c9)).heap.size = w4.heap.size := by simp
      have hs34 := hg4.size
      have ho5 : (w4.setCell ⟨L, 1, none⟩ (.slice a9 n9 c9)).ownsRow (L + 1) 42 1 (.slice a9 n9 c9) (vs ++ [Value.pointer (some ⟨x, 0, none⟩)]).length (vs ++ [Value.pointer (some ⟨x, 0, none⟩)]) := by
        refine ⟨ho4.1, ho4.2.imp id ?_⟩
        rintro ⟨g, cap, cur, e1, q1, q2, r⟩
        refine ⟨g, cap, cur, e1, q1, ?_, r⟩
        rw [Below.heap_setCell _ _ _ _ (by simp; omega)]
        exact q2
      have hfin : ∃ (v : Value) (vs : List Value) (ow : Nat → Nat → Prop), vs.length = j + 1 ∧ Blk (w4.setCell ⟨L, 1, none⟩ (.slice a9 n9 c9)) L #[.pointer (some ⟨N, 0, none⟩), v] 41 ∧ (w4.setCell ⟨L, 1, none⟩ (.slice a9 n9 c9)).ownsRow (L + 1) 42 1 v vs.length vs ∧ Blk (w4.setCell ⟨L, 1, none⟩ (.slice a9 n9 c9)) N #[.slice none 0 0, .slice none 0 0, .bool true] 64 ∧ Below W.heap.size W (w4.setCell ⟨L, 1, none⟩ (.slice a9 n9 c9)) ∧ (∀ (m : Nat) u, vs[m]? = some u → NdD (w4.setCell ⟨L, 1, none⟩ (.slice a9 n9 c9)) u (ow m) (some (St.fresh, Dk.fresh k))) ∧ (∀ a b c, ow a c → ow b c → a = b) ∧ (∀ a b, ow a b → L < b ∧ b < (w4.setCell ⟨L, 1, none⟩ (.slice a9 n9 c9)).heap.size ∧ v.ownBlock ≠ some b) ∧ (∀ a, j + 1 ≤ a → ∀ b, ¬ ow a b) := by
        have hqs : ∀ b, (b = x ∨ q.all b) → wr.heap.size ≤ b ∧ b < w2.heap.size := fun b hb => by
          rcases hb with rfl | hb
          · exact ⟨hx, hnode.cell.lt⟩
          · exact ⟨hq b hb, hnode.st.size hb⟩
        refine ⟨_, _, fun m b => if m = j then (b = x ∨ q.all b) else ow m b, by simp [hvl.out], k5, ho5, kN.ext x5 (fun hc => hc.elim (fun e => by omega) hNv), bw.trans (x5.belowOf bw.size (fun b hb hc => hc.elim (fun e => by omega) (fun e => by have := (hlo b e).1; omega))), ?_, ?_, ?_, ?_⟩
        · intro m u hu
          by_cases hm : m = j
          · subst hm
            rw [List.getElem?_append_right (by have := hvl.out; omega), hvl.out, Nat.sub_self] at hu
            simp at hu
            subst hu
            simp only [if_true]
            have hcx : Blk (w4.setCell ⟨L, 1, none⟩ (.slice a9 n9 c9)) x #[.pointer (some ⟨dk9, 0, none⟩), .pointer (some ⟨q.s, 0, none⟩)] 99 := hnode.cell.ext x25 (fun hc => by
              rcases hc with hc | hc
              · omega
              · have := (hlo _ hc).2; omega)
            refine ⟨⟨x, _, q, rfl, ⟨hcx, hnode.st.ext x25 (fun b hc hb => ?_), hnode.on, hnode.out⟩, fun b hb => hb⟩, x, dk9, _, rfl, hcx, .inl rfl⟩
            · have := hq b hb
              rcases hc with hc | hc
              · omega
              · have := (hlo _ hc).2; omega
          · have hml : m < vs.length := by
              have := (List.getElem?_eq_some_iff.1 hu).1
              have := hvl.out
              simp at *
              omega
            rw [List.getElem?_append_left hml] at hu
            simp only [if_neg hm]
            exact (hnd m u hu).ext x5 (fun b hb hc => by
              have := hlt9 m b hb
              rcases hc with hc | hc
              · omega
              · exact this.2.2 hc)
        · intro a b c ha hb
          by_cases e1 : a = j
          · by_cases e2 : b = j
            · rw [e1, e2]
            · simp only [if_pos e1] at ha
              simp only [if_neg e2] at hb
              have := (hqs c ha).1
              have := (hlt9 b c hb).2.1
              omega
          · by_cases e2 : b = j
            · simp only [if_neg e1] at ha
              simp only [if_pos e2] at hb
              have := (hqs c hb).1
              have := (hlt9 a c ha).2.1
              omega
            · simp only [if_neg e1] at ha
              simp only [if_neg e2] at hb
              exact hdis a b c ha hb
        · intro a b ha
          have hsw := b2.size
          have hsw3 := b3.size
          by_cases e1 : a = j
          · simp only [if_pos e1] at ha
            have := hqs b ha
            refine ⟨by omega, by omega, fun hc => ?_⟩
            rcases hb4 b hc with hc | hc
            · have := (hlo b hc).2; omega
            · omega
          · simp only [if_neg e1] at ha
            have := hlt9 a b ha
            refine ⟨this.1, by omega, fun hc => ?_⟩
            rcases hb4 b hc with hc | hc
            · exact this.2.2 hc
            · omega
        · intro a ha b hb
          simp only [if_neg (show ¬ a = j by omega)] at hb
          exact hno a (by omega) b hb
      have HFIN := hid hfin
      clear hfin kL ho kN bw hnd hdis hlt9 hno hnode b2 hx hq b3 k3 b23 ho3 hlo hLl ho4 hg4 hb4 hLv hNv kL3 kL4 x4 x5 x25 k5 hsz5 hs34 ho5 HR HN
      go_wp2_with (at_builtin; refine Lib.wpList_append_run w3 rfl (.tmp 33) (.tmp 35) _ _ rfl _ _ rfl rfl _ _ hr ?_)
      go_roundw
      case rel =>
        obtain ⟨v8, vs8, ow8, g1, g2⟩ := HFIN.out
        exact ⟨j + 1, v8, vs8, ow8, by omega, by go_num, g1, g2⟩
      case measure => simp [intOf]; omega
    · obtain rfl : j = n := by omega
      have hd1 : decide ((j : Int) < (j : Int)) = false := decide_eq_false (by omega)
      have hfin : ∃ p, LkAt wr L p ⟨⟨[], []⟩, List.replicate j (some (St.fresh, Dk.fresh k))⟩ ∧ (∀ b, p.all L b → W.heap.size ≤ b) ∧ ∀ i, i < j → ∃ x dk u, p.vs[i]? = some (.pointer (some ⟨x, 0, none⟩)) ∧ Blk wr x #[.pointer (some ⟨dk, 0, none⟩), u] 99 ∧ p.ow i x := by
        rcases ho.2 with ⟨_, h0⟩ | ⟨g, cap, cur, rfl, hg1, hg2, hg3, hg4, hg5, hg6⟩
        · omega
        · refine ⟨⟨⟨N, .slice none 0 0, .slice none 0 0, fun _ => False⟩, g, cap, vs, ow⟩, ?_, ?_, fun i hi => ?_⟩
          · refine ⟨by simp only [List.length_replicate]; rw [← hvl]; exact kL, netAt_new kN, ⟨cur, hg2, fun i u hu => ?_⟩, by simp [hvl], by simp; omega, fun i d hd => ?_, hdis, ⟨(by show L ≠ g; omega), (fun hc => by have h9 : L = N := netP_new hc; omega), (fun hc => by have h9 : g = N := netP_new hc; omega)⟩, fun i b hb => ⟨by have := (hlt9 i b hb).1; omega, (fun hc => by have := (hlt9 i b hb).1; have := netP_new hc; omega), fun e => (hlt9 i b hb).2.2 (by rw [e]; rfl)⟩, fun i b hb => (hlt9 i b hb).2.1⟩
            · rw [← hg6, List.getElem?_take] at hu
              split at hu
              · simpa using hu
              · cases hu
            · have hd2 := List.getElem?_eq_some_iff.1 hd
              obtain ⟨hil, he⟩ := hd2
              simp only [List.length_replicate] at hil
              simp only [List.getElem_replicate] at he
              subst he
              have hil2 : i < vs.length := by omega
              exact ⟨vs[i], List.getElem?_eq_getElem hil2, (hnd i _ (List.getElem?_eq_getElem hil2)).1⟩
          · rintro b (e | e | e | ⟨i, hb⟩)
            · omega
            · have e2 : b = N := netP_new e
              omega
            · have e2 : b = g := e
              omega
            · have := (hlt9 i b hb).1; omega
          · have hil2 : i < vs.length := by omega
            obtain ⟨_, x, dk, u, e1, e2, e3⟩ := hnd i _ (List.getElem?_eq_getElem hil2)
            exact ⟨x, dk, u, by show vs[i]? = _; rw [List.getElem?_eq_getElem hil2, e1], e2, e3⟩
      have HF := hid (And.intro hfin bw)
      clear hfin kL ho kN bw hnd hdis hlt9 hno
      go_wp2_with fail
      go_ret
      obtain ⟨⟨p, q1, q2, q4⟩, q3⟩ := HF.out
      exact ⟨L, p, rfl, q1, q3, q2, q4⟩
theorem law7_Nodes (n k : Nat) (hn0 : 1 ≤ n) (hn9 : n ≤ 1000) (h1 : 1 ≤ k) (h2 : k ≤ 4096) :
    Calls Tryz.prog 15 #[.int .i64 (n : Int), .int .i64 (k : Int)] W fun e w' => ∃ L p, e = .returned (.pointer (some ⟨L, 0, none⟩)) ∧ LkAt w' L p ⟨⟨[], []⟩, List.replicate n (some (St.fresh, Dk.fresh k))⟩ ∧ Below W.heap.size W w' ∧ ∀ b, p.all L b → W.heap.size ≤ b := by
  refine (law7_Nodes_d n k hn0 hn9 h1 h2).mono ?_
  rintro e w' ⟨L, p, h1, h2, h3, h4, _⟩
  exact ⟨L, p, h1, h2, h3, h4⟩
end
end Go.Proofs.YtbahjinlcbjikaaGreat
