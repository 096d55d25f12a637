import Derived.Test.YtcdcjoofcbdilaaGreatMRgQ
import Derived.Test.YtcdcjoofcbdilaaGreatMAccY
import Derived.Test.YtcdcjoofcbdilaaGreatMRgE
import Derived.Test.YtcdcjoofcbdilaaGreatAccQ
/-! gazettelaw09: num, Acceptors. -/
namespace Go.Proofs.YtcdcjoofcbdilaaGreat
open Go.RowKit

theorem netAt_new {W : World} {N : Nat} (h : Blk W N #[.slice none 0 0, .slice none 0 0, .bool true] 56) : NetAt W ⟨N, .slice none 0 0, .slice none 0 0, fun _ => False⟩ ⟨[], []⟩ :=
  ⟨h, World.ownsRow_nil _ _ _ 1, ⟨[], ⟨World.ownsRow_nil _ _ _ 2, rfl, (fun i m r h => by simp at h), (fun g hg => by cases hg), fun g hg => False.elim hg⟩⟩, (fun g hg => by cases hg), fun h => h⟩
theorem netP_new {N b : Nat} (h : (⟨N, .slice none 0 0, .slice none 0 0, fun _ => False⟩ : NetP).all b) : b = N := by
  rcases h with h | h | h
  · exact h
  · cases h
  · exact h.elim
theorem law9_num (e : Int) (w : World) : Calls Tryz.prog 13 #[.int .i64 e] w fun r w' => r = .returned (.int .i64 e) ∧ w' = w := by
  go_enter Tryz.func13, Tryz.ntmps13
  go_wp2_with fail
  go_ret
  exact ⟨rfl, rfl⟩
theorem info_pacc : ((Tryz.prog.info? 41).map (fun i => (i.zero, i.size, i.bytes))) = some (some (.pointer none), 1, 8) := by kernel_rfl
theorem run_appendP {P : Program} {T E : TypeId} {i : TypeInfo} (ht : P.underlying T = some (.slice E)) (hi : P.info? E = some i) (hz : i.zero = some (.pointer none)) (hsz : i.size = 1) (hby : i.bytes = 8) (ty : TypeId)
    {w : World} {base : Nat} {v : Value} {l m : List Value} {ad : Addr} {c : Nat} (hown : w.ownsRow base E 1 v l.length l) (hcells : ∀ (j : Nat) (u : Value), m[j]? = some u → w.cell? (ad.add j) = some u) (hone : ∀ u ∈ m, u.oneCell' = true) (hlen : (l.length + m.length) * 8 ≤ 140737488355328) (hbase : base ≤ w.heap.size) :
    ∃ v' w', (Builtin.append_ #[T, T] ty #[v, .slice (some ad) m.length c]).run P w = .ok v' w' ∧ w'.ownsRow base E 1 v' (l ++ m).length (l ++ m) ∧ w.grownBy w' v.ownBlock ∧ (∀ k, v'.ownBlock = some k → v.ownBlock = some k ∨ w.heap.size ≤ k) := by
  by_cases hnil : v = .slice none 0 0
  · subst hnil
    obtain ⟨v', w', h1, h2, h3, h4⟩ := run_append_own (P := P) w w.heap.size T ty E i _ 1 8 ht hi hz hsz hby rfl (by decide) (.slice none 0 0) l.length l (by
      rcases hown.2 with ⟨_, h0⟩ | ⟨_, _, _, e, _⟩
      · have : l = [] := List.eq_nil_of_length_eq_zero h0
        subst this
        exact World.ownsRow_nil w w.heap.size E 1
      · cases e) ad m.length c m (by simp) hcells hone (by unfold maxLen; omega) (by omega) (Nat.le_refl _)
    refine ⟨v', w', h1, ?_, h3, fun k hk => .inr (World.ownsRow.lt h2 k hk).1⟩
    rw [List.length_append]
    refine ⟨h2.1, h2.2.imp id ?_⟩
    rintro ⟨g, cap, cur, e, q1, r⟩
    exact ⟨g, cap, cur, e, by omega, r⟩
  · rcases hown.2 with ⟨h0, _⟩ | ⟨gv, cap, cur, rfl, hb, hg, hnc, hcm, hcs, htk⟩
    · exact absurd h0 hnil
    · by_cases hroom : l.length + m.length ≤ cap
      · obtain ⟨w', h1, h2, h3⟩ := run_append_fits (P := P) w base T ty E i 1 ht hi hsz gv l.length cap l hown ad m.length c m (by simp) hcells hone hroom
        refine ⟨_, w', h1, ?_, h3, fun k hk => .inl hk⟩
        rw [List.length_append]
        exact h2
      · have holds : ∀ (j : Nat) (u : Value), l[j]? = some u → w.cell? ((⟨gv, 0, none⟩ : Addr).add j) = some u := fun j u hu => by
          have h9 : w.cell? ⟨gv, j, none⟩ = some u := by
            rw [← htk, List.getElem?_take] at hu
            split at hu
            · simp [World.cell?, hg]
              simpa using hu
            · cases hu
          unfold Addr.add
          split
          · rename_i hz
            subst hz
            exact h9
          · simpa using h9
        obtain ⟨v', w', h1, h2, h3⟩ := run_append_arg_grows (P := P) w T ty E i _ 1 8 ht hi hz hsz hby rfl (by decide) ⟨gv, 0, none⟩ l.length cap l (by simp) holds ad m.length c m (by simp) hcells (by omega) (by unfold maxLen; omega) (by omega)
        have ho' : w'.ownsRow w.heap.size E 1 v' (l ++ m).length (l ++ m) := by
          rw [List.length_append]
          exact h2
        refine ⟨v', w', h1, ?_, ⟨h3.os, h3.tape, h3.output, h3.size, fun k hk _ => h3.block k hk (by simp)⟩, fun k hk => .inr (World.ownsRow.lt ho' k hk).1⟩
        refine ⟨ho'.1, ho'.2.imp id ?_⟩
        rintro ⟨g, cap2, cur2, e, q1, r⟩
        exact ⟨g, cap2, cur2, e, by omega, r⟩


/-- A node that is up, or not, and has its disk. -/
def AcD (W : World) (v : Value) (own : Nat → Prop) (d : Acs) : Prop := AcdAt W v own d ∧ ∃ n dk u u2, v = .pointer (some ⟨n, 0, none⟩) ∧ Blk W n #[.pointer (some ⟨dk, 0, none⟩), u, u2] 95 ∧ own n
theorem AcD.ext {fp : Nat → Prop} {W W' : World} {v : Value} {own : Nat → Prop} {d : Acs} (h : AcD W v own d) (he : Ext fp W W') (hn : ∀ b, own b → ¬ fp b) : AcD W' v own d := by
  obtain ⟨h1, n, dk, u, u2, e, h2, h3⟩ := h
  exact ⟨h1.ext he hn, n, dk, u, u2, e, h2.ext he (hn _ h3), h3⟩
section
variable {W : World}
set_option maxRecDepth 100000 in
set_option maxHeartbeats 6400000 in
theorem law9_Acceptors_d (n k : Nat) (hn0 : 1 ≤ n) (hn9 : n ≤ 1000) (h1 : 1 ≤ k) (h2 : k ≤ 4096) :
    Calls Tryz.prog 8 #[.int .i64 (n : Int), .int .i64 (k : Int)] W fun e w' => ∃ L p, e = .returned (.pointer (some ⟨L, 0, none⟩)) ∧ RgAt w' L p ⟨⟨[], []⟩, List.replicate n (some ([], St.fresh, Dk.fresh k)), 100⟩ ∧ Below W.heap.size W w' ∧ (∀ b, p.all L b → W.heap.size ≤ b) ∧ ∀ i, i < n → ∃ x dk u u2, p.vs[i]? = some (.pointer (some ⟨x, 0, none⟩)) ∧ Blk w' x #[.pointer (some ⟨dk, 0, none⟩), u, u2] 95 ∧ p.ow i x := by
  obtain ⟨i9, hi, hz0⟩ := Option.map_eq_some_iff.1 info_pacc
  have hz1 : i9.zero = some (.pointer none) := congrArg (fun p : Option Value × Nat × Nat => p.1) hz0
  have hz2 : i9.size = 1 := congrArg (fun p : Option Value × Nat × Nat => p.2.1) hz0
  have hz3 : i9.bytes = 8 := congrArg (fun p : Option Value × Nat × Nat => p.2.2) hz0
  have HI := hid (And.intro hi (And.intro hz1 (And.intro hz2 hz3)))
  clear hi hz0 hz1 hz2 hz3
  go_enter Tryz.func8, Tryz.ntmps8
  go_wp2_with fail
  refine net_New.mono ?_
  rintro e W1 ⟨rfl, kN, b1⟩
  obtain ⟨N, hN⟩ : ∃ N, W.heap.size = N := ⟨_, rfl⟩
  obtain ⟨L, hL⟩ : ∃ L, W1.heap.size = L := ⟨_, rfl⟩
  have hNL : N < L := by rw [← hN, ← hL]; exact kN.lt
  rw [hN] at kN
  have kL := Blk.new W1 #[.pointer (some ⟨N, 0, none⟩), .slice none 0 0, .int .i64 100] 28
  rw [hL] at kL
  have bL : Below W1.heap.size W1 (W1.alloc (.cells #[.pointer (some ⟨N, 0, none⟩), .slice none 0 0, .int .i64 100] 28)) := (Below.refl _ _).alloc (Nat.le_refl _) _
  have H0 := hid (And.intro kL (And.intro (kN.keep bL) (And.intro (b1.trans (bL.mono b1.size)) (show L + 1 ≤ (W1.alloc (.cells #[.pointer (some ⟨N, 0, none⟩), .slice none 0 0, .int .i64 100] 28)).heap.size by simp [hL]))))
  rw [hN]
  clear kL kN bL b1
  go_wp2_with fail
  try rw [hL]
  clear hL
  go_loopw [6] (fun i wr => ∃ (j : Nat) (v : Value) (vs : List Value) (ow : Nat → Nat → Prop), j ≤ n ∧ i = .int .i64 (j : Int) ∧ vs.length = j ∧ Blk wr L #[.pointer (some ⟨N, 0, none⟩), v, .int .i64 100] 28 ∧ wr.ownsRow (L + 1) 41 1 v vs.length vs ∧ Blk wr N #[.slice none 0 0, .slice none 0 0, .bool true] 56 ∧ Below W.heap.size W wr ∧ (∀ (m : Nat) u, vs[m]? = some u → AcD wr u (ow m) (some ([], St.fresh, Dk.fresh k))) ∧ (∀ a b c, ow a c → ow b c → a = b) ∧ (∀ a b, ow a b → L < b ∧ b < wr.heap.size ∧ v.ownBlock ≠ some b) ∧ (∀ a, j ≤ a → ∀ b, ¬ ow a b)) (fun i _ => n - (intOf i).toNat)
  case atStart =>
    obtain ⟨q1, q2, q3, q4⟩ := H0.out
    exact ⟨0, _, [], fun _ _ => False, Nat.zero_le _, rfl, rfl, q1, World.ownsRow_nil _ _ _ 1, q2, q3, fun m u hu => by simp at hu, fun a b c h => h.elim, fun a b h => h.elim, fun a _ b h => h⟩
  case round =>
    obtain ⟨j, v, vs, ow, hj, rfl, hvl, kL, ho, kN, bw, hnd, hdis, hlt9, hno⟩ := hrel
    by_cases hlt : j < n
    · have hd1 : decide ((j : Int) < (n : Int)) = true := decide_eq_true (by omega)
      have hw : wrap64 ((j : Int) + 1) = (j : Int) + 1 := by unfold wrap64; omega
      have HR := hid (And.intro kL (And.intro ho (And.intro kN (And.intro bw (And.intro hnd (And.intro hdis (And.intro hlt9 hno)))))))
      have hvl := hid hvl
      clear kL ho kN bw hnd hdis hlt9 hno
      go_wp2_with fail
      refine (acc_New_d k wr h1 h2).mono ?_
      rintro e w2 ⟨x, mf9, dk9, q, rfl, hnode, b2, hx, hxm, hq⟩
      have HN := hid (And.intro hnode (And.intro b2 (And.intro hx (And.intro hxm hq))))
      clear hnode b2 hx hxm hq
      go_wp2_with fail
      refine (law9_num 0 w2).mono ?_
      rintro e w9 ⟨rfl, hw9⟩
      rw [hw9]
      clear hw9 w9
      obtain ⟨kL, ho, kN, bw, hnd, hdis, hlt9, hno⟩ := HR.out
      obtain ⟨hnode, b2, hx, hxm, hq⟩ := HN.out
      obtain ⟨w3, hw3⟩ : ∃ w3, w2.alloc (.cells #[.pointer (some ⟨x, 0, none⟩)] 41) = w3 := ⟨_, rfl⟩
      have b3 : Below w2.heap.size w2 w3 := by rw [← hw3]; exact (Below.refl _ _).alloc (Nat.le_refl _) _
      have k3 : Blk w3 w2.heap.size #[.pointer (some ⟨x, 0, none⟩)] 41 := by rw [← hw3]; exact Blk.new _ _ _
      have b23 := b2.trans (b3.mono b2.size)
      have ho3 : w3.ownsRow (L + 1) 41 1 v vs.length vs := World.ownsRow.kept (row := none) ho ⟨b23.os, b23.tape, b23.output, b23.size, fun k hk _ => b23.block k hk⟩ (by cases h : v.ownBlock <;> simp)
      have hlo := World.ownsRow.lt ho
      have hLl := kL.lt
      obtain ⟨v', w4, hr, ho4, hg4, hb4⟩ := run_appendP (P := Tryz.prog) (m := [Value.pointer (some ⟨x, 0, none⟩)]) (ad := ⟨w2.heap.size, 0, none⟩) (c := 1) Tryz.underlying26 HI.out.1 HI.out.2.1 HI.out.2.2.1 HI.out.2.2.2 26 ho3 (fun j u hu => by
        match j, hu with
        | 0, hu => simp at hu; subst hu; exact k3.cell (o := 0) rfl) (by simp [Value.oneCell']) (by have := hvl.out; simp; omega) (by have := b23.size; omega)
      obtain ⟨a9, n9, c9, rfl⟩ : ∃ a n c, v' = .slice a n c := by
        rcases ho4.2 with ⟨e, _⟩ | ⟨g, cap, _, e, _⟩
        · exact ⟨_, _, _, e⟩
        · exact ⟨_, _, _, e⟩
      obtain ⟨a0, n0, c0, rfl⟩ : ∃ a n c, v = .slice a n c := by
        rcases ho.2 with ⟨e, _⟩ | ⟨g, cap, _, e, _⟩
        · exact ⟨_, _, _, e⟩
        · exact ⟨_, _, _, e⟩
      have hLv : (Value.slice a0 n0 c0).ownBlock ≠ some L := fun h => by have := (hlo L h).1; omega
      have hNv : (Value.slice a0 n0 c0).ownBlock ≠ some N := fun h => by have := (hlo N h).1; omega
      have kL3 := kL.keep b23
      have kL4 : Blk w4 L #[.pointer (some ⟨N, 0, none⟩), .slice a0 n0 c0, .int .i64 100] 28 := by
        unfold Blk
        rw [hg4.block L kL3.lt (fun e => hLv e.symm)]
        exact kL3
      have x4 : Ext (fun b => b = L ∨ (Value.slice a0 n0 c0).ownBlock = some b) wr w4 := (Ext.ofBelow b23).grown hg4 (fun k h => .inl (.inr h))
      have x5 := x4.setCell (a := ⟨L, 1, none⟩) (.inl (.inl rfl)) (.slice a9 n9 c9)
      have x25 : Ext (fun b => b = L ∨ (Value.slice a0 n0 c0).ownBlock = some b) w2 (w4.setCell ⟨L, 1, none⟩ (.slice a9 n9 c9)) := ((Ext.ofBelow b3).grown hg4 (fun k h => .inl (.inr h))).setCell (a := ⟨L, 1, none⟩) (.inl (.inl rfl)) (.slice a9 n9 c9)
      have m0 := (kL.keep b2).cell (o := 1) rfl
      have m1 := kL4.cell (o := 1) rfl
      have m2 := kL4.free 1
      have k5 := kL4.set (o := 1) (.slice a9 n9 c9)
      simp only [List.setIfInBounds_toArray, List.set_cons_zero, List.set_cons_succ] at k5
      have hsz5 : (w4.setCell ⟨L, 1, none⟩ (.slice a9 n9 c9)).heap.size = w4.heap.size := by simp
      have hs34 := hg4.size
      have ho5 : (w4.setCell ⟨L, 1, none⟩ (.slice a9 n9 c9)).ownsRow (L + 1) 41 1 (.slice a9 n9 c9) (vs ++ [Value.pointer (some ⟨x, 0, none⟩)]).length (vs ++ [Value.pointer (some ⟨x, 0, none⟩)]) := by
        refine ⟨ho4.1, ho4.2.imp id ?_⟩
        rintro ⟨g, cap, cur, e1, q1, q2, r⟩
        refine ⟨g, cap, cur, e1, q1, ?_, r⟩
        rw [Below.heap_setCell _ _ _ _ (by simp; omega)]
        exact q2
      have hfin : ∃ (v : Value) (vs : List Value) (ow : Nat → Nat → Prop), vs.length = j + 1 ∧ Blk (w4.setCell ⟨L, 1, none⟩ (.slice a9 n9 c9)) L #[.pointer (some ⟨N, 0, none⟩), v, .int .i64 100] 28 ∧ (w4.setCell ⟨L, 1, none⟩ (.slice a9 n9 c9)).ownsRow (L + 1) 41 1 v vs.length vs ∧ Blk (w4.setCell ⟨L, 1, none⟩ (.slice a9 n9 c9)) N #[.slice none 0 0, .slice none 0 0, .bool true] 56 ∧ Below W.heap.size W (w4.setCell ⟨L, 1, none⟩ (.slice a9 n9 c9)) ∧ (∀ (m : Nat) u, vs[m]? = some u → AcD (w4.setCell ⟨L, 1, none⟩ (.slice a9 n9 c9)) u (ow m) (some ([], St.fresh, Dk.fresh k))) ∧ (∀ a b c, ow a c → ow b c → a = b) ∧ (∀ a b, ow a b → L < b ∧ b < (w4.setCell ⟨L, 1, none⟩ (.slice a9 n9 c9)).heap.size ∧ v.ownBlock ≠ some b) ∧ (∀ a, j + 1 ≤ a → ∀ b, ¬ ow a b) := by
        have hqs : ∀ b, (b = x ∨ b = mf9 ∨ q.all b) → wr.heap.size ≤ b ∧ b < w2.heap.size := fun b hb => by
          rcases hb with rfl | rfl | hb
          · exact ⟨hx, hnode.cell.lt⟩
          · exact ⟨hxm, hnode.mlt⟩
          · exact ⟨hq b hb, hnode.st.size hb⟩
        refine ⟨_, _, fun m b => if m = j then (b = x ∨ b = mf9 ∨ q.all b) else ow m b, by simp [hvl.out], k5, ho5, kN.ext x5 (fun hc => hc.elim (fun e => by omega) hNv), bw.trans (x5.belowOf bw.size (fun b hb hc => hc.elim (fun e => by omega) (fun e => by have := (hlo b e).1; omega))), ?_, ?_, ?_, ?_⟩
        · intro m u hu
          by_cases hm : m = j
          · subst hm
            rw [List.getElem?_append_right (by have := hvl.out; omega), hvl.out, Nat.sub_self] at hu
            simp at hu
            subst hu
            simp only [if_true]
            have hcx : Blk (w4.setCell ⟨L, 1, none⟩ (.slice a9 n9 c9)) x #[.pointer (some ⟨dk9, 0, none⟩), .pointer (some ⟨q.s, 0, none⟩), .map (some mf9)] 95 := hnode.cell.ext x25 (fun hc => by
              rcases hc with hc | hc
              · omega
              · have := (hlo _ hc).2; omega)
            refine ⟨⟨x, mf9, _, q, rfl, hnode.ext2 x25 (fun b hc hb => ?_) (fun hc => ?_) (fun hc => ?_), fun b hb => hb⟩, x, dk9, _, _, rfl, hcx, .inl rfl⟩
            · have := hq b hb
              rcases hc with hc | hc
              · omega
              · have := (hlo _ hc).2; omega
            · rcases hc with hc | hc
              · omega
              · have := (hlo _ hc).2; omega
            · rcases hc with hc | hc
              · omega
              · have := (hlo _ hc).2; omega
          · have hml : m < vs.length := by
              have := (List.getElem?_eq_some_iff.1 hu).1
              have := hvl.out
              simp at *
              omega
            rw [List.getElem?_append_left hml] at hu
            simp only [if_neg hm]
            exact (hnd m u hu).ext x5 (fun b hb hc => by
              have := hlt9 m b hb
              rcases hc with hc | hc
              · omega
              · exact this.2.2 hc)
        · intro a b c ha hb
          by_cases e1 : a = j
          · by_cases e2 : b = j
            · rw [e1, e2]
            · simp only [if_pos e1] at ha
              simp only [if_neg e2] at hb
              have := (hqs c ha).1
              have := (hlt9 b c hb).2.1
              omega
          · by_cases e2 : b = j
            · simp only [if_neg e1] at ha
              simp only [if_pos e2] at hb
              have := (hqs c hb).1
              have := (hlt9 a c ha).2.1
              omega
            · simp only [if_neg e1] at ha
              simp only [if_neg e2] at hb
              exact hdis a b c ha hb
        · intro a b ha
          have hsw := b2.size
          have hsw3 := b3.size
          by_cases e1 : a = j
          · simp only [if_pos e1] at ha
            have := hqs b ha
            refine ⟨by omega, by omega, fun hc => ?_⟩
            rcases hb4 b hc with hc | hc
            · have := (hlo b hc).2; omega
            · omega
          · simp only [if_neg e1] at ha
            have := hlt9 a b ha
            refine ⟨this.1, by omega, fun hc => ?_⟩
            rcases hb4 b hc with hc | hc
            · exact this.2.2 hc
            · omega
        · intro a ha b hb
          simp only [if_neg (show ¬ a = j by omega)] at hb
          exact hno a (by omega) b hb
      have HFIN := hid hfin
      clear hfin kL ho kN bw hnd hdis hlt9 hno hnode b2 hx hq hxm b3 k3 b23 ho3 hlo hLl ho4 hg4 hb4 hLv hNv kL3 kL4 x4 x5 x25 k5 hsz5 hs34 ho5 HR HN
      go_wp2_with (at_builtin; refine Lib.wpList_append_run w3 rfl (.tmp 33) (.tmp 35) _ _ rfl _ _ rfl rfl _ _ hr ?_)
      go_roundw
      case rel =>
        obtain ⟨v8, vs8, ow8, g1, g2⟩ := HFIN.out
        exact ⟨j + 1, v8, vs8, ow8, by omega, by go_num, g1, g2⟩
      case measure => simp [intOf]; omega
    · obtain rfl : j = n := by omega
      have hd1 : decide ((j : Int) < (j : Int)) = false := decide_eq_false (by omega)
      have hfin : ∃ p, RgAt wr L p ⟨⟨[], []⟩, List.replicate j (some ([], St.fresh, Dk.fresh k)), 100⟩ ∧ (∀ b, p.all L b → W.heap.size ≤ b) ∧ ∀ i, i < j → ∃ x dk u u2, p.vs[i]? = some (.pointer (some ⟨x, 0, none⟩)) ∧ Blk wr x #[.pointer (some ⟨dk, 0, none⟩), u, u2] 95 ∧ p.ow i x := by
        rcases ho.2 with ⟨_, h0⟩ | ⟨g, cap, cur, rfl, hg1, hg2, hg3, hg4, hg5, hg6⟩
        · omega
        · refine ⟨⟨⟨N, .slice none 0 0, .slice none 0 0, fun _ => False⟩, g, cap, vs, ow⟩, ?_, ?_, fun i hi => ?_⟩
          · refine ⟨by simp only [List.length_replicate]; rw [← hvl]; exact kL, netAt_new kN, ⟨cur, hg2, fun i u hu => ?_⟩, by simp [hvl], by simp; omega, fun i d hd => ?_, ⟨by show (0 : Int) ≤ 100; decide, by show (100 : Int) ≤ 1000000; decide⟩, hdis, ⟨(by show L ≠ g; omega), (fun hc => by have h9 : L = N := netP_new hc; omega), (fun hc => by have h9 : g = N := netP_new hc; omega)⟩, fun i b hb => ⟨by have := (hlt9 i b hb).1; omega, (fun hc => by have := (hlt9 i b hb).1; have := netP_new hc; omega), fun e => (hlt9 i b hb).2.2 (by rw [e]; rfl)⟩, fun i b hb => (hlt9 i b hb).2.1⟩
            · rw [← hg6, List.getElem?_take] at hu
              split at hu
              · simpa using hu
              · cases hu
            · have hd2 := List.getElem?_eq_some_iff.1 hd
              obtain ⟨hil, he⟩ := hd2
              simp only [List.length_replicate] at hil
              simp only [List.getElem_replicate] at he
              subst he
              have hil2 : i < vs.length := by omega
              exact ⟨vs[i], List.getElem?_eq_getElem hil2, (hnd i _ (List.getElem?_eq_getElem hil2)).1⟩
          · rintro b (e | e | e | ⟨i, hb⟩)
            · omega
            · have e2 : b = N := netP_new e
              omega
            · have e2 : b = g := e
              omega
            · have := (hlt9 i b hb).1; omega
          · have hil2 : i < vs.length := by omega
            obtain ⟨_, x, dk, u, u2, e1, e2, e3⟩ := hnd i _ (List.getElem?_eq_getElem hil2)
            exact ⟨x, dk, u, u2, by show vs[i]? = _; rw [List.getElem?_eq_getElem hil2, e1], e2, e3⟩
      have HF := hid (And.intro hfin bw)
      clear hfin kL ho kN bw hnd hdis hlt9 hno
      go_wp2_with fail
      go_ret
      obtain ⟨⟨p, q1, q2, q4⟩, q3⟩ := HF.out
      exact ⟨L, p, rfl, q1, q3, q2, q4⟩
theorem law9_Acceptors (n k : Nat) (hn0 : 1 ≤ n) (hn9 : n ≤ 1000) (h1 : 1 ≤ k) (h2 : k ≤ 4096) :
    Calls Tryz.prog 8 #[.int .i64 (n : Int), .int .i64 (k : Int)] W fun e w' => ∃ L p, e = .returned (.pointer (some ⟨L, 0, none⟩)) ∧ RgAt w' L p ⟨⟨[], []⟩, List.replicate n (some ([], St.fresh, Dk.fresh k)), 100⟩ ∧ Below W.heap.size W w' ∧ ∀ b, p.all L b → W.heap.size ≤ b := by
  refine (law9_Acceptors_d n k hn0 hn9 h1 h2).mono ?_
  rintro e w' ⟨L, p, h1, h2, h3, h4, _⟩
  exact ⟨L, p, h1, h2, h3, h4⟩
end
end Go.Proofs.YtcdcjoofcbdilaaGreat

/-! The register, plain law: no luck waits; acceptors that are up are all alike. -/
namespace Go.Proofs.YtcdcjoofcbdilaaGreat
open Go.RowKit

theorem Fs.get_setR (F : Fs) (x y : Int × Int) (f : Fa) : (F.set x f).get y = if y = x then f else F.get y := by
  unfold Fs.set
  split
  · rename_i h
    have hc : ((fun e : (Int × Int) × Fa => decide (y = e.1)) ∘ (fun e : (Int × Int) × Fa => if x = e.1 then (e.1, f) else e)) = (fun e => decide (y = e.1)) := by
      funext e
      simp only [Function.comp]
      split <;> rfl
    unfold Fs.get
    rw [List.find?_map, hc]
    cases hf : F.find? (fun e => decide (y = e.1)) with
    | none =>
      rw [List.find?_eq_none] at hf
      have hne : y ≠ x := by
        rintro rfl
        obtain ⟨e, he, h1⟩ := List.any_eq_true.1 h
        exact hf e he h1
      rw [if_neg hne]
      rfl
    | some e =>
      have he : y = e.1 := by simpa using List.find?_some hf
      by_cases hyx : y = x
      · rw [if_pos hyx]
        subst hyx
        simp [he]
      · rw [if_neg hyx]
        have : x ≠ e.1 := fun h => hyx (he.trans h.symm)
        simp [this]
  · rename_i h
    unfold Fs.get
    rw [List.find?_append]
    by_cases hyx : y = x
    · rw [if_pos hyx]
      subst hyx
      have hn : F.find? (fun e => decide (y = e.1)) = none := by
        rw [List.find?_eq_none]
        intro e he hd
        exact h (List.any_eq_true.2 ⟨e, he, hd⟩)
      rw [hn]
      simp
    · rw [if_neg hyx]
      have : [(x, f)].find? (fun e : (Int × Int) × Fa => decide (y = e.1)) = none := by simp [hyx]
      rw [this, Option.or_none]
/-- No key twice. -/
def Fs.once (F : Fs) : Prop := (F.map (·.1)).Nodup
theorem Fs.once_set {F : Fs} (h : F.once) (x : Int × Int) (f : Fa) : (F.set x f).once := by
  unfold Fs.once Fs.set at *
  split
  · have : (F.map (fun e => if x = e.1 then (e.1, f) else e)).map (·.1) = F.map (·.1) := by
      rw [List.map_map]
      congr 1
      funext e
      simp only [Function.comp]
      split <;> rfl
    rw [this]
    exact h
  · rename_i hn
    rw [List.map_append, List.nodup_append]
    refine ⟨h, by simp, fun a ha b hb hab => ?_⟩
    simp at hb
    subst hb
    subst hab
    obtain ⟨e, he, rfl⟩ := List.mem_map.1 ha
    exact hn (List.any_eq_true.2 ⟨e, he, by simp⟩)
theorem Fs.get_of_mem : ∀ {F : Fs} (_ : F.once) {e : (Int × Int) × Fa}, e ∈ F → F.get e.1 = e.2
  | [], _, e, he => by cases he
  | x :: F, h, e, he => by
    have h1 : x.1 ∉ F.map (·.1) ∧ (F.map (·.1)).Nodup := List.nodup_cons.1 h
    unfold Fs.get
    rw [List.find?_cons]
    rcases List.mem_cons.1 he with rfl | he
    · simp
    · have hne : ¬ e.1 = x.1 := fun e2 => h1.1 (by rw [← e2]; exact List.mem_map.2 ⟨e, he, rfl⟩)
      simp only [hne, decide_false]
      exact Fs.get_of_mem h1.2 he
theorem Fs.mem_of_get {F : Fs} {x : Int × Int} (h : F.get x ≠ Fa.zero) : ∃ e ∈ F, e.1 = x ∧ e.2 = F.get x := by
  unfold Fs.get at h ⊢
  cases hf : F.find? (fun e => decide (x = e.1)) with
  | none => rw [hf] at h; exact absurd rfl h
  | some e =>
    have he : x = e.1 := by simpa using List.find?_some hf
    exact ⟨e, List.mem_of_find?_eq_some hf, he.symm, by simp⟩
/-- What is known: of each key, how many versions, and the last one's value. -/
structure FInv (F : Fs) (c : Int → Nat) (v : Int → List UInt8) : Prop where
  once : F.once
  got : ∀ k, 1 ≤ c k → ∃ p b, F.get (k, (c k : Int)) = ⟨p, b, true, v k⟩ ∧ 0 < b
  none : ∀ k ver, ((c k : Int) < ver ∨ ver ≤ 0) → F.get (k, ver) = Fa.zero
theorem FInv.best {F : Fs} {c : Int → Nat} {v : Int → List UInt8} (h : FInv F c v) (k : Int) : bestA k F = (c k : Int) := by
  symm
  refine best_is (by omega) (fun e he hh => ?_) ?_
  · have hg := Fs.get_of_mem h.once he
    have hh1 := hh.1
    have hh2 := hh.2
    have hp : e.1 = (k, e.1.2) := by rw [← hh1]
    rcases Int.lt_or_le ((c k : Nat) : Int) e.1.2 with hlt | hle
    · have := h.none k e.1.2 (.inl hlt)
      rw [← hp, hg] at this
      rw [this] at hh2
      exact absurd hh2 (by decide)
    · exact hle
  · by_cases hc : c k = 0
    · left; omega
    · right
      obtain ⟨p, b, h1, h2⟩ := h.got k (by omega)
      obtain ⟨e, he, e1, e2⟩ := Fs.mem_of_get (F := F) (x := (k, (c k : Int))) (by rw [h1]; intro hz; have := congrArg Fa.ba hz; simp [Fa.zero] at this; omega)
      refine ⟨e, he, ⟨by rw [e1], by rw [e2, h1]; exact h2⟩, by rw [e1]⟩
theorem finv_begin : FInv [] (fun _ => 0) (fun _ => []) := ⟨List.nodup_nil, fun k h => by omega, fun _ _ _ => rfl⟩

/-! ### One acceptor -/
structure Fa.mid (f : Fa) : Prop where
  pr : 0 ≤ f.pr ∧ f.pr ≤ 1000000
  ba : 0 ≤ f.ba ∧ f.ba ≤ 1000000
  va : f.va.length ≤ 100
theorem Fa.mid_zero : Fa.zero.mid := ⟨by decide, by decide, by decide⟩
/-- What holds behind at most j entries on m blocks. -/
structure AcI (m j : Nat) (F : Fs) (S : St) (D : Dk) : Prop where
  len : D.texts.length = m
  fin : S.fin ≤ j
  tail : ∀ k, 0 ≤ tailF S k ∧ tailF S k ≤ (j : Int)
  trim : ∀ k, (S.get k).2.1 = 0
  sealed : ∀ k, (S.get k).2.2 = false
  slots : ∀ k p : Int, tailF S k ≤ p → S.slots (k, p) = none
  facts : ∀ x, (F.get x).mid
theorem fresh_lenR (n : Nat) : (Dk.fresh n).texts.length = n := List.length_replicate
theorem AcI.start (m : Nat) : AcI m 0 [] St.fresh (Dk.fresh m) :=
  ⟨fresh_lenR m, Nat.le_refl _, fun _ => ⟨Int.le_refl _, Int.le_refl _⟩, fun _ => rfl, fun _ => rfl, fun _ _ _ => rfl, fun _ => Fa.mid_zero⟩
theorem AcI.mono {m j j' : Nat} {F : Fs} {S : St} {D : Dk} (h : AcI m j F S D) (hj : j ≤ j') : AcI m j' F S D :=
  ⟨h.len, by have := h.fin; omega, fun k => by have := h.tail k; omega, h.trim, h.sealed, h.slots, h.facts⟩
theorem ac_put {m j : Nat} {F : Fs} {S : St} {D : Dk} (h : AcI m j F S D) (hj : j < m) (key : Int) (l : List UInt8) (hl : l.length ≤ 119) :
    (putF S D key (tailF S key) l false).1 = 0 ∧ ∀ F' : Fs, (∀ x, (F'.get x).mid) → AcI m (j + 1) F' (putF S D key (tailF S key) l false).2.1 (putF S D key (tailF S key) l false).2.2 := by
  have hel : (entryB 1 key (tailF S key) l).length = l.length + 13 := by simp [entryB, lowB_length]; omega
  have hch : chunks (entryB 1 key (tailF S key) l) = 1 := by unfold chunks; rw [hel]; omega
  have ht := h.tail key
  have hfin := h.fin
  have hlen := h.len
  have hp : putF S D key (tailF S key) l false = writeF S (applyPut S key (tailF S key) l) D 1 key (tailF S key) l := by
    unfold putF
    rw [h.trim, if_neg (by omega), h.slots key _ (Int.le_refl _), h.sealed]
    rfl
  rw [hp]
  unfold writeF
  rw [hch, hlen, if_pos (by omega)]
  have hg : ∀ k, ({ applyPut S key (tailF S key) l with fin := S.fin + 1, num := S.num + 1 } : St).get k = if k = key then (max (S.get key).1 (tailF S key + 1), (S.get key).2.1, (S.get key).2.2) else S.get k := by
    intro k
    show (if k = key then some _ else S.states k).getD (0, 0, false) = _
    split <;> rfl
  have htl : ∀ k, tailF ({ applyPut S key (tailF S key) l with fin := S.fin + 1, num := S.num + 1 } : St) k = if k = key then tailF S key + 1 else tailF S k := by
    intro k
    show max (St.get _ k).1 (St.get _ k).2.1 = _
    rw [hg]
    by_cases hk : k = key
    · rw [if_pos hk, if_pos hk]
      have h1 := h.trim key
      have h2 : tailF S key = max (S.get key).1 (S.get key).2.1 := rfl
      simp only
      omega
    · rw [if_neg hk, if_neg hk]
      rfl
  refine ⟨rfl, fun F' hF' => ⟨?_, by show S.fin + 1 ≤ _; omega, fun k => ?_, fun k => ?_, fun k => ?_, fun k p hkp => ?_, hF'⟩⟩
  · simp [Dk.synced, Dk.wrote, hlen]
  · rw [htl]
    split
    · omega
    · have := h.tail k; omega
  · rw [hg]
    split
    · exact h.trim key
    · exact h.trim k
  · rw [hg]
    split
    · exact h.sealed key
    · exact h.sealed k
  · rw [htl] at hkp
    show (if (k, p) = (key, tailF S key) then some l else S.slots (k, p)) = none
    by_cases hk : k = key
    · rw [if_pos hk] at hkp
      rw [if_neg (by intro e; have := congrArg Prod.snd e; simp only at this; omega)]
      exact h.slots k p (by rw [hk]; omega)
    · rw [if_neg (by intro e; exact hk (congrArg Prod.fst e))]
      rw [if_neg hk] at hkp
      exact h.slots k p hkp
theorem ac_keep {m j : Nat} {F : Fs} {S : St} {D : Dk} (h : AcI m j F S D) (hj : j < m) (hj2 : j ≤ 4095) (ho : F.once) (key ver : Int) (f : Fa) (hf : f.mid) :
    (keepA F S D key ver f).1 = 0 ∧ (∀ x, (keepA F S D key ver f).2.1.get x = if x = (key, ver) then f else F.get x) ∧ AcI m (j + 1) (keepA F S D key ver f).2.1 (keepA F S D key ver f).2.2.1 (keepA F S D key ver f).2.2.2 ∧ (keepA F S D key ver f).2.1.once := by
  unfold keepA
  by_cases h1 : F.get (key, ver) = f
  · rw [if_pos h1]
    refine ⟨rfl, fun x => ?_, h.mono (by omega), ho⟩
    by_cases hx : x = (key, ver)
    · rw [if_pos hx, hx]; exact h1
    · rw [if_neg hx]
  · rw [if_neg h1]
    have ht := h.tail key
    rw [if_pos (by omega)]
    have hfl : (factB ver f).length ≤ 119 := by
      have := hf.va
      simp [factB, threeB_length, lowB_length]
      omega
    obtain ⟨h2, h3⟩ := ac_put h hj key (factB ver f) hfl
    rw [if_pos h2]
    refine ⟨rfl, fun x => Fs.get_setR F (key, ver) x f, h3 _ (fun x => ?_), Fs.once_set ho _ _⟩
    rw [Fs.get_setR]
    split
    · exact hf
    · exact h.facts x
/-- One acceptor is asked, and says OK. -/
theorem ac_ask {m j : Nat} {F : Fs} {S : St} {D : Dk} (h : AcI m j F S D) (hj : j < m) (hj2 : j ≤ 4095) (ho : F.once) (k key ver bal : Int) (v : List UInt8) (hk : k ≠ 4) (hv : 0 ≤ ver ∧ ver < 281474976710656) {f' : Fa} (hd : doA k (F.get (key, ver)) bal v = (f', 0)) (hf : f'.mid) :
    ∃ F' S' D', askAc (some (F, S, D)) k key ver bal v = (some ⟨0, ver, f'.pr, f'.ba, f'.le, f'.va⟩, some (F', S', D')) ∧ AcI m (j + 1) F' S' D' ∧ (∀ x, F'.get x = if x = (key, ver) then f' else F.get x) ∧ F'.once := by
  obtain ⟨h1, h2, h3, h4⟩ := ac_keep h hj hj2 ho key ver f' hf
  obtain ⟨⟨e, F', S', D'⟩, hK⟩ : ∃ R, keepA F S D key ver f' = R := ⟨_, rfl⟩
  rw [hK] at h1 h2 h3 h4
  simp only at h1 h2 h3 h4
  subst h1
  have hA : answerA F S D k key ver bal v = (⟨0, ver, f'⟩, F', S', D') := by
    unfold answerA
    rw [if_neg hk, hd]
    simp only [if_true, hK, h2]
  refine ⟨F', S', D', ?_, h3, h2, h4⟩
  unfold askAc
  simp only [hA]
  rw [if_pos]
  have h5 := hf.pr
  have h6 := hf.ba
  have h7 := hf.va
  exact decide_eq_true ⟨by omega, by omega, hv.1, hv.2, h5.1, by omega, h6.1, by omega, by omega⟩
/-- One acceptor is asked for the greatest version. -/
theorem ac_query {m j : Nat} {F : Fs} {S : St} {D : Dk} (h : AcI m j F S D) (key : Int) {b : Nat} (hb : bestA key F = (b : Int)) (hb2 : b < 1000000) :
    askAc (some (F, S, D)) 4 key 0 0 [] = (some ⟨0, (b : Int), (F.get (key, (b : Int))).pr, (F.get (key, (b : Int))).ba, (F.get (key, (b : Int))).le, (F.get (key, (b : Int))).va⟩, some (F, S, D)) := by
  have hA : answerA F S D 4 key 0 0 [] = (⟨0, (b : Int), F.get (key, (b : Int))⟩, F, S, D) := by
    unfold answerA
    rw [if_pos rfl, hb]
  unfold askAc
  simp only [hA]
  have hf := h.facts (key, (b : Int))
  have h5 := hf.pr
  have h6 := hf.ba
  have h7 := hf.va
  rw [if_pos]
  exact decide_eq_true ⟨by omega, by omega, by omega, by omega, h5.1, by omega, h6.1, by omega, by omega⟩

/-! ### All of them -/
def mixA (dn : List Bool) (X : Fs × St × Dk) : List Acs := dn.map (fun b => if b = true then none else some X)
def upA (dn : List Bool) : Nat := (dn.filter (fun b => !b)).length
def rgM (dn : List Bool) (X : Fs × St × Dk) (bs : Int) : RgS := ⟨⟨[], []⟩, mixA dn X, bs⟩
theorem rgM_len (dn : List Bool) (X : Fs × St × Dk) (bs : Int) : (rgM dn X bs).acs.length = dn.length := by simp [rgM, mixA]
theorem askR_plain {ds : List Acs} {i : Nat} {d : Acs} (bs k key ver bal : Int) (l : List UInt8) (hr : askOk k key ver bal l.length = true) (hi : ds[i]? = some d) :
    askR ⟨⟨[], []⟩, ds, bs⟩ (i : Int) k key ver bal l = ((askAc d k key ver bal l).1, ⟨⟨[], []⟩, ds.set i (askAc d k key ver bal l).2, bs⟩) := by
  obtain ⟨hlt, rfl⟩ := List.getElem?_eq_some_iff.1 hi
  have hg : ds.getD ((i : Int).toNat) none = ds[i] := by simp [hlt]
  have hf : NetS.fate ⟨[], []⟩ = 0 := by show mod5 0 = 0; decide
  have hs : NetS.send ⟨[], []⟩ (bs + (i : Int)) (frameB 3 (askB k key ver bal l)) = ⟨[], []⟩ := by unfold NetS.send; rw [hf, if_neg (by decide)]; rfl
  unfold askR
  rw [if_pos ⟨hr, by omega, by show (i : Int) < (ds.length : Int); omega⟩]
  show ((if replyF (NetS.fate ⟨[], []⟩) = true then (askAcN k key ver bal l (timesF (NetS.fate ⟨[], []⟩)) (ds.getD ((i : Int).toNat) none)).1 else none), (⟨NetS.send ⟨[], []⟩ (bs + (i : Int)) (frameB 3 (askB k key ver bal l)), ds.set ((i : Int).toNat) (askAcN k key ver bal l (timesF (NetS.fate ⟨[], []⟩)) (ds.getD ((i : Int).toNat) none)).2, bs⟩ : RgS)) = _
  rw [hg, hf, hs]
  rfl
theorem all_all (bs k key ver bal : Int) (l : List UInt8) (hr : askOk k key ver bal l.length = true) : ∀ (rest dn : List Acs),
    allR ⟨⟨[], []⟩, dn ++ rest, bs⟩ k key ver bal l (idxR dn.length rest.length) = (rest.filterMap (fun d => (askAc d k key ver bal l).1), ⟨⟨[], []⟩, dn ++ rest.map (fun d => (askAc d k key ver bal l).2), bs⟩)
  | [], dn => by simp [idxR, allR]
  | d :: r, dn => by
    have h1 := askR_plain (ds := dn ++ d :: r) (i := dn.length) (d := d) bs k key ver bal l hr (by simp)
    have h2 := all_all bs k key ver bal l hr r (dn ++ [(askAc d k key ver bal l).2])
    have hset : (dn ++ d :: r).set dn.length (askAc d k key ver bal l).2 = (dn ++ [(askAc d k key ver bal l).2]) ++ r := by simp
    rw [List.length_append, List.length_singleton] at h2
    show allR ⟨⟨[], []⟩, dn ++ d :: r, bs⟩ k key ver bal l ((dn.length : Int) :: idxR (dn.length + 1) r.length) = _
    unfold allR
    rw [h1, hset, h2]
    cases hd : (askAc d k key ver bal l).1 <;> simp [hd]
theorem hear_mix {X X' : Fs × St × Dk} {r : An} (bs k key ver bal : Int) (l : List UInt8) (hr : askOk k key ver bal l.length = true) (h : askAc (some X) k key ver bal l = (some r, some X')) (dn : List Bool) :
    hearR (rgM dn X bs) k key ver bal l = (List.replicate (upA dn) r, rgM dn X' bs) := by
  have h0 := all_all bs k key ver bal l hr (mixA dn X) []
  have hm : ∀ dn : List Bool, (mixA dn X).map (fun d => (askAc d k key ver bal l).2) = mixA dn X' := by
    intro dn
    induction dn with
    | nil => rfl
    | cons b q ih =>
      unfold mixA at ih ⊢
      cases b
      · simp only [List.map_cons, Bool.false_eq_true, if_false, h, ih]
      · simp only [List.map_cons, if_true, ih]
        rfl
  have hf : ∀ dn : List Bool, (mixA dn X).filterMap (fun d => (askAc d k key ver bal l).1) = List.replicate (upA dn) r := by
    intro dn
    induction dn with
    | nil => rfl
    | cons b q ih =>
      unfold mixA upA at ih ⊢
      cases b
      · simp only [List.map_cons, Bool.false_eq_true, if_false, List.filterMap_cons, h, ih]
        simp [List.replicate_succ]
      · have hn : (askAc none k key ver bal l).1 = none := rfl
        simp only [List.map_cons, if_true, List.filterMap_cons, hn, ih]
        simp
  rw [hm, hf] at h0
  have hl : (mixA dn X).length = dn.length := by simp [mixA]
  rw [hl] at h0
  unfold hearR
  rw [rgM_len]
  exact h0
end Go.Proofs.YtcdcjoofcbdilaaGreat
