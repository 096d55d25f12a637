import Derived.Test.YtpkaepmmkojdaaaTailIn
import Derived.Test.YtpkaepmmkojdaaaMChunk
import Derived.Test.YtpkaepmmkojdaaaEntry
import Derived.OwnWalkIn
import Derived.TacticsInMore
import Derived.LoopNIn
import Derived.LoopIn
/-! The iterator of store.blocks: an entry's bytes as blocks. -/
namespace Go.Proofs.Ytpkaepmmkojdaaa
open Go.RowKit
attribute [local go_sem] Oper.semAt_some

/-- A block of an entry: ahead of its sum; whole. p: its bytes; num: the entry's number; n blocks; its place k. -/
def blockF (p : List UInt8) (num : Int) (n k : Nat) : List UInt8 := 165 :: (lowB num 6 ++ (lowB (k : Int) 2 ++ (lowB (n : Int) 2 ++ (byteOf (p.length : Int) 0 :: (p ++ List.replicate (240 - p.length) 0)))))
def blockB (p : List UInt8) (num : Int) (n k : Nat) : List UInt8 := blockF p num n k ++ lowB (crcOf (blockF p num n k) : Int) 4
theorem blockF_length (p : List UInt8) (num : Int) (n k : Nat) (h : p.length ≤ 240) : (blockF p num n k).length = 252 := by
  simp [blockF, lowB_length]; omega
theorem blockB_length (p : List UInt8) (num : Int) (n k : Nat) (h : p.length ≤ 240) : (blockB p num n k).length = 256 := by
  simp [blockB, blockF_length _ _ _ _ h, lowB_length]

def BlockY (l : List UInt8) (num : Int) (B : Nat) (k : Nat) (W : World) (args : Array Value) : Prop := ∃ v, args = #[.int .i64 (k : Int), v] ∧ Bs W v (blockB (chunkOf l k) num (chunks l) k) ∧ ∀ g, v.ownBlock = some g → B ≤ g

theorem Parts.seven {w : World} {g : Nat} {t : TypeId} {a b c d e f h : Value} {l1 l2 l3 l4 l5 l6 l7 : List UInt8} (hB : Blk w g #[a, b, c, d, e, f, h] t) (h1 : Bs w a l1) (h2 : Bs w b l2) (h3 : Bs w c l3) (h4 : Bs w d l4) (h5 : Bs w e l5) (h6 : Bs w f l6) (h7 : Bs w h l7) : Parts w g [a, b, c, d, e, f, h] [l1, l2, l3, l4, l5, l6, l7] := by
  refine ⟨rfl, fun i v hv => hB.cell (by simpa using hv), fun i v l hv hl => ?_⟩
  match i, hv, hl with
  | 0, hv, hl => simp at hv hl; subst hv hl; exact h1
  | 1, hv, hl => simp at hv hl; subst hv hl; exact h2
  | 2, hv, hl => simp at hv hl; subst hv hl; exact h3
  | 3, hv, hl => simp at hv hl; subst hv hl; exact h4
  | 4, hv, hl => simp at hv hl; subst hv hl; exact h5
  | 5, hv, hl => simp at hv hl; subst hv hl; exact h6
  | 6, hv, hl => simp at hv hl; subst hv hl; exact h7

theorem bs_made (w : World) (k : Nat) (hk : k ≤ maxLen) : Bs (w.alloc (.cells (madeCells #[.int .u8 0] k) 5)) (.slice (some ⟨w.heap.size, 0, none⟩) k k) (List.replicate k 0) := by
  refine Bs.mk (by simp) (Nat.le_refl _) hk (fun i u hi => ?_)
  rw [List.getElem?_replicate] at hi
  split at hi
  · cases hi
    rename_i hlt
    refine (Blk.new w (madeCells #[.int .u8 0] k) 5).cell ?_
    simp [madeCells, hlt, Nat.mod_one]
  · cases hi

/-- append onto bytes of the call's own: what was there stays there. -/
theorem run_append8k {P : Program} {T E : TypeId} {i : TypeInfo} (ht : P.underlying T = some (.slice E)) (hi : P.info? E = some i) (hz : i.zero = some (.int .u8 0)) (hsz : i.size = 1) (hby : i.bytes = 1) (ty : TypeId)
    {w : World} {base : Nat} {v x : Value} {l m : List UInt8} (hown : Own8 w base E v l) (hx : Bs w x m) (hlen : l.length + m.length ≤ 140737488355328) (hbase : base ≤ w.heap.size) :
    ∃ v' w', (Builtin.append_ #[T, T] ty #[v, x]).run P w = .ok v' w' ∧ Own8 w' base E v' (l ++ m) ∧ w.grownBy w' v.ownBlock ∧ Own8 w' base E v l ∧ ((w.grownBy w' none ∧ ∀ k, v'.ownBlock = some k → w.heap.size ≤ k) ∨ ∃ a c, v = .slice a l.length c ∧ v' = .slice a (l.length + m.length) c) := by
  rcases hx.cases with ⟨rfl, rfl⟩ | ⟨g, o, c, rfl, hc, hm, hr⟩ | ⟨rfl, ad, rfl⟩
  · refine ⟨v, w, ?_, by simpa using hown, ⟨rfl, rfl, rfl, Nat.le_refl _, fun _ _ _ => rfl⟩, hown, ?_⟩
    rotate_left
    · obtain ⟨a, c, e⟩ := hown.form
      exact .inr ⟨a, c, e, by simpa using e⟩
    rcases hown.2 with ⟨rfl, _⟩ | ⟨g, cap, cur, rfl, _, _, hnc, _⟩
    · simp [Builtin.append_, run_underlying ht, sizeOf, typeInfo, hi, Builtin.lenOf, Builtin.firstCells]
    · simp [Builtin.append_, run_underlying ht, sizeOf, typeInfo, hi, Builtin.lenOf, Builtin.firstCells, hnc, storeCells]
  rotate_left
  · refine ⟨v, w, ?_, by simpa using hown, ⟨rfl, rfl, rfl, Nat.le_refl _, fun _ _ _ => rfl⟩, hown, ?_⟩
    rotate_left
    · obtain ⟨a, c, e⟩ := hown.form
      exact .inr ⟨a, c, e, by simpa using e⟩
    rcases hown.2 with ⟨rfl, _⟩ | ⟨g, cap, cur, rfl, _, _, hnc, _⟩
    · simp [Builtin.append_, run_underlying ht, sizeOf, typeInfo, hi, Builtin.lenOf, Builtin.firstCells, loadCells, loadCellsFrom]
    · simp [Builtin.append_, run_underlying ht, sizeOf, typeInfo, hi, Builtin.lenOf, Builtin.firstCells, hnc, storeCells, loadCells, loadCellsFrom]
  · have hcell : ∀ (j : Nat) (u : Value), (m.map bv)[j]? = some u → w.cell? ((⟨g, o, none⟩ : Addr).add j) = some u := fun j u hu => by
        simp only [List.getElem?_map, Option.map_eq_some_iff] at hu
        obtain ⟨b, hb, rfl⟩ := hu
        have := hr j b hb
        unfold Addr.add
        split
        · rename_i hz
          subst hz
          simpa using this
        · exact this
    have hone : ∀ u ∈ m.map bv, u.oneCell' = true := fun u hu => by
        simp only [List.mem_map] at hu
        obtain ⟨b, _, rfl⟩ := hu
        rfl
    by_cases hnil : v = .slice none 0 0
    · obtain ⟨v', w', h1, h2, h3, h4⟩ := run_append_own (P := P) w w.heap.size T ty E i _ 1 1 ht hi hz hsz hby rfl (by decide) v l.length (l.map bv) (by
        subst hnil
        obtain ⟨_, _, e⟩ := hown.form
        injection e with _ e2 _
        have : l = [] := List.eq_nil_of_length_eq_zero e2.symm
        subst this
        exact Own8.nil _ _ _) ⟨g, o, none⟩ m.length c (m.map bv) (by simp) hcell hone (by unfold maxLen; omega) (by omega) (Nat.le_refl _)
      have ho' : Own8 w' w.heap.size E v' (l ++ m) := by
        unfold Own8
        rw [List.map_append, List.length_append]
        exact h2
      refine ⟨v', w', h1, ho'.mono hbase, h3, ?_, .inl ⟨by subst hnil; exact h3, fun k hk => (ho'.blk k hk).1⟩⟩
      · subst hnil
        obtain ⟨_, _, e⟩ := hown.form
        injection e with _ e2 _
        have : l = [] := List.eq_nil_of_length_eq_zero e2.symm
        subst this
        exact Own8.nil _ _ _
    · have hown' := hown
      rcases hown'.2 with ⟨h0, _⟩ | ⟨gv, cap, cur, rfl, hb, hg, hnc, hcm, hcs, htk⟩
      · exact absurd h0 hnil
      · by_cases hr : l.length + m.length ≤ cap
        · obtain ⟨w', h1, h2, h3⟩ := run_append_fits (P := P) w base T ty E i 1 ht hi hsz gv l.length cap (l.map bv) hown ⟨g, o, none⟩ m.length c (m.map bv) (by simp) hcell hone hr
          refine ⟨_, w', h1, ?_, h3, ?_, .inr ⟨_, _, rfl, rfl⟩⟩
          · unfold Own8
            rw [List.map_append, List.length_append]
            exact h2
          · rcases h2.2 with ⟨h0, _⟩ | ⟨g', cap', cur', e', hb', hg', hnc', hcm', hcs', htk'⟩
            · cases h0
            · injection e' with e1 _ e3
              injection e1 with e1
              injection e1 with e1
              subst e1 e3
              refine ⟨by simp, .inr ⟨gv, cap, cur', rfl, hb', hg', hnc, hcm', hcs', ?_⟩⟩
              have := congrArg (List.take (l.length * 1)) htk'
              rw [List.take_take, Nat.min_eq_left (by omega)] at this
              rw [this]
              simp
        · have holds : ∀ (j : Nat) (u : Value), (l.map bv)[j]? = some u → w.cell? ((⟨gv, 0, none⟩ : Addr).add j) = some u := fun j u hu => by
            simp only [List.getElem?_map, Option.map_eq_some_iff] at hu
            obtain ⟨b, hb, rfl⟩ := hu
            rcases (Own8.bs hown).cases with ⟨e, _⟩ | ⟨g2, o2, c2, e, _, _, hcel⟩ | ⟨e, _⟩
            · cases e
            rotate_left
            · rw [e] at hb; simp at hb
            · cases e
              have := hcel j b hb
              unfold Addr.add
              split
              · rename_i hz
                subst hz
                simpa using this
              · exact this
          obtain ⟨v', w', h1, h2, h3⟩ := run_append_arg_grows (P := P) w T ty E i _ 1 1 ht hi hz hsz hby rfl (by decide) ⟨gv, 0, none⟩ l.length cap (l.map bv) (by simp) holds ⟨g, o, none⟩ m.length c (m.map bv) (by simp) hcell (by omega) (by unfold maxLen; omega) (by omega)
          have ho' : Own8 w' w.heap.size E v' (l ++ m) := by
            unfold Own8
            rw [List.map_append, List.length_append]
            exact h2
          refine ⟨v', w', h1, ho'.mono hbase, ⟨h3.os, h3.tape, h3.output, h3.size, fun k hk _ => h3.block k hk (by simp)⟩, ?_, .inl ⟨h3, fun k hk => (ho'.blk k hk).1⟩⟩
          exact World.ownsRow.kept (row := none) hown h3 (by simp only [Value.ownBlock]; simp)

theorem Own8.extOwn {fp : Nat → Prop} {w w' : World} {base : Nat} {t : TypeId} {v : Value} {l : List UInt8} (h : Own8 w base t v l) (he : Ext fp w w') (hn : ∀ g, v.ownBlock = some g → ¬ fp g) : Own8 w' base t v l := by
  refine ⟨h.1, h.2.imp id ?_⟩
  rintro ⟨g, cap, cur, e, h1, h2, r⟩
  exact ⟨g, cap, cur, e, h1, (he.block g (Array.getElem?_eq_some_iff.1 h2).1 (hn g (by rw [e]; rfl))).trans h2, r⟩

set_option maxRecDepth 100000 in
set_option maxHeartbeats 800000 in
theorem slices_Chunk (a : Option Addr) (n c : Nat) (w : World) :
    Calls Try.prog 64 #[.slice a n c, .int .i64 240] w fun e w' => e = .returned (.func (.func 78) #[] #[.pointer (some ⟨w.heap.size, 0, none⟩), .pointer (some ⟨w.heap.size + 1, 0, none⟩)]) ∧ w' = (w.alloc (.cells #[.slice a n c] 40)).alloc (.cells #[.int .i64 240] 3) := by
  go_enter Try.func64, Try.ntmps64
  have hc := (Blk.new' (w.alloc (.cells #[.slice a n c] 40)) (w.heap.size + 1) (by simp) #[.int .i64 240] 3).cell (o := 0) rfl
  go_wp2_with fail
  go_ret
  exact ⟨rfl, rfl⟩

set_option maxRecDepth 100000 in
set_option maxHeartbeats 800000 in
theorem store_blocks (a : Option Addr) (n c : Nat) (num : Int) (w : World) :
    Calls Try.prog 55 #[.slice a n c, .int .i64 num] w fun e w' => e = .returned (.func (.func 63) #[] #[.pointer (some ⟨w.heap.size, 0, none⟩), .pointer (some ⟨w.heap.size + 1, 0, none⟩)]) ∧ w' = (w.alloc (.cells #[.slice a n c] 40)).alloc (.cells #[.int .i64 num] 3) := by
  go_enter Try.func55, Try.ntmps55
  go_wp2_with fail
  go_ret
  exact ⟨rfl, rfl⟩


theorem Ext.undrew {fp : Nat → Prop} {w x : World} (h : Ext fp w.drew x) : Ext fp w x := ⟨h.os, h.tape, h.output, h.size, h.block⟩

/-- A region that appends onto a slice of its own. -/
def QA (v v2 : Value) (B : Nat) (full : List UInt8) (x : World) (u : Value) : Prop := Own8 x B 5 u full ∧ (u = v2 ∨ u.ownBlock ≠ v.ownBlock)
def GrowA (v v2 : Value) (B : Nat) (fr full : List UInt8) (x y : World) : Prop :=
  Ext (fun b => v.ownBlock = some b) x y ∧ (Own8 x B 5 v fr → Own8 y B 5 v fr) ∧ ∀ u, QA v v2 B full x u → QA v v2 B full y u
theorem GrowA.refl {v v2 : Value} {B : Nat} {fr full : List UInt8} (w : World) : GrowA v v2 B fr full w w := ⟨Ext.refl _ _, id, fun _ => id⟩
theorem GrowA.trans {v v2 : Value} {B : Nat} {fr full : List UInt8} {x y z : World} (h : GrowA v v2 B fr full x y) (k : GrowA v v2 B fr full y z) : GrowA v v2 B fr full x z := ⟨h.1.trans' k.1, fun q => k.2.1 (h.2.1 q), fun u q => k.2.2 u (h.2.2 u q)⟩
theorem GrowA.below {v v2 : Value} {B : Nat} {fr full : List UInt8} {x y : World} (h : Below x.heap.size x y) : GrowA v v2 B fr full x y := ⟨Ext.ofBelow h, fun q => q.keep h, fun u q => ⟨q.1.keep h, q.2⟩⟩

theorem exec_append {P : Program} {o : Oper} {ev : Operand → Value} {s y : Operand} {T : TypeId} {w w' : World} {v' : Value} (ho : o.op = .call { callee := .builtin .append, args := #[s, y], argTypes := #[T, T] })
    (hr : (Builtin.append_ #[T, T] o.type #[ev s, ev y]).run P w = .ok v' w') : (execOp ev o).run P w = .ok (.value v') w' := by
  unfold execOp
  simp only [ho, resolve, invoke, builtin, Sem.run_bind, Sem.run_pure, Result.andThen_ok, List.map_toArray, List.map_cons, List.map_nil, hr]

set_option maxRecDepth 100000 in
set_option maxHeartbeats 1600000 in
theorem blocks_iter (bb nb : Nat) (a0 : Option Addr) (c0 : Nat) (l : List UInt8) (num : Int) (fp : Nat → Prop) (w : World) (hb : Blk w bb #[.slice a0 l.length c0] 40) (hn : Blk w nb #[.int .i64 num] 3) (hv : Bs w (.slice a0 l.length c0) l) (hl : l.length ≤ 1000000)
    (hn0 : 0 ≤ num) (hn1 : num < 281474976710656) (f1 : ¬ fp bb) (f2 : ¬ fp nb) (f3 : ∀ g, (Value.slice a0 l.length c0).ownBlock = some g → ¬ fp g ∧ g < w.heap.size) (f4 : ∀ b, fp b → b < w.heap.size) :
    Iter Try.prog 63 #[.pointer (some ⟨bb, 0, none⟩), .pointer (some ⟨nb, 0, none⟩)] (chunks l) (BlockY l num (w.heap.size + 7)) fp (w.heap.size + 7) w := by
  intro n l0 J Jx hJ hJx hR h0
  have hcl : l.length ≤ c0 := by obtain ⟨_, _, e, h, _⟩ := hv; cases e; exact h
  refine callsIn_of_wp_marks Try.func63 rfl trivial ?_
  simp only [Try.ntmps63, List.size_toArray, List.length_cons, List.length_nil, Nat.reduceAdd, Nat.reduceSub, Array.replicate_succ, Array.replicate_zero, List.push_toArray, List.append_toArray, List.nil_append, List.cons_append]
  obtain ⟨W1, hW1⟩ : ∃ W1, w.alloc (.cells #[.func (.yield l0) #[] #[]] 120) = W1 := ⟨_, rfl⟩
  obtain ⟨W2, hW2⟩ : ∃ W2, W1.alloc (.cells #[.int .i64 (chunks l : Int)] 3) = W2 := ⟨_, rfl⟩
  have s1 : W1.heap.size = w.heap.size + 1 := by rw [← hW1]; simp
  have s2 : W2.heap.size = w.heap.size + 2 := by rw [← hW2]; simp [s1]
  have cb1 : W1.cell? ⟨bb, 0, none⟩ = some (.slice a0 l.length c0) := hW1 ▸ (hb.alloc _).cell (o := 0) rfl
  have cb3 : (W2.alloc (.cells #[.int .i64 0] 3)).cell? ⟨bb, 0, none⟩ = some (.slice a0 l.length c0) := hW2 ▸ hW1 ▸ (((hb.alloc _).alloc _).alloc _).cell (o := 0) rfl
  have hdv : ((l.length : Int) + 240 - 1) / 240 = (chunks l : Int) := by unfold chunks; omega
  have hd2 : Int.tdiv ((l.length : Int) + 240 - 1) 240 = (chunks l : Int) := by rw [Int.tdiv_eq_ediv_of_nonneg (by omega)]; exact hdv
  gi_wp2
  refine ⟨trivial, fun h => by simp [Fence.wide] at h, callsIn_wide.2 ((slices_Chunk _ _ _ _).mono ?_)⟩
  rintro e W' ⟨rfl, rfl⟩
  obtain ⟨W4, hW4⟩ : ∃ W4, ((W2.alloc (.cells #[.int .i64 0] 3)).alloc (.cells #[.slice a0 l.length c0] 40)).alloc (.cells #[.int .i64 240] 3) = W4 := ⟨_, rfl⟩
  have s4 : W4.heap.size = w.heap.size + 5 := by rw [← hW4]; simp [s2]
  have b4 : Below w.heap.size w W4 := by
    rw [← hW4, ← hW2, ← hW1]
    exact (((((Below.refl _ w).alloc (Nat.le_refl _) _).alloc (by simp) _).alloc (by simp; omega) _).alloc (by simp; omega) _).alloc (by simp; omega) _
  have q0 : Blk W4 w.heap.size #[.func (.yield l0) #[] #[]] 120 := by
    rw [← hW4, ← hW2, ← hW1]
    exact ((((Blk.new w _ _).alloc _).alloc _).alloc _).alloc _
  have q1 : Blk W4 (w.heap.size + 1) #[.int .i64 (chunks l : Int)] 3 := by
    rw [← hW4, ← hW2]
    exact (((Blk.new' W1 _ (by omega) _ _).alloc _).alloc _).alloc _
  have q2 : Blk W4 (w.heap.size + 2) #[.int .i64 0] 3 := by
    rw [← hW4]
    exact ((Blk.new' W2 _ (by omega) _ _).alloc _).alloc _
  have q3 : Blk W4 (w.heap.size + 3) #[.slice a0 l.length c0] 40 := by
    rw [← hW4]
    exact (Blk.new' _ _ (by simp; omega) _ _).alloc _
  have q4 : Blk W4 (w.heap.size + 4) #[.int .i64 240] 3 := by
    rw [← hW4]
    exact Blk.new' _ _ (by simp; omega) _ _
  have hb4 := hb.below b4 hb.lt
  have hn4 := hn.below b4 hn.lt
  have hv4 := hv.keep b4
  have h04 := hJ 0 w W4 h0 (Ext.ofBelow b4)
  rw [World.size_alloc, s2]
  rw [hW4]
  clear hW4 cb1 cb3 hdv hd2 hW1 hW2 s1 s2
  gi_wp2
  refine wpIn_rangeQ (gf := 78) (lb := #[.pointer (some ⟨w.heap.size + 3, 0, none⟩), .pointer (some ⟨w.heap.size + 4, 0, none⟩)]) ?g ?eg (N := chunks l) (Y := ChunkY l (Value.slice a0 l.length c0).ownBlock) (fp := fun b => fp b ∨ b = w.heap.size + 2) (M := w.heap.size + 7) ?hM ?hit
    (fun k W => J k W ∧ Blk W (w.heap.size + 2) #[.int .i64 (k : Int)] 3 ∧ Blk W w.heap.size #[.func (.yield l0) #[] #[]] 120 ∧ Blk W (w.heap.size + 1) #[.int .i64 (chunks l : Int)] 3 ∧ Blk W nb #[.int .i64 num] 3)
    (fun c k W => c = .ret ∧ Jx k W) ?hI ?hIx ?hY ?hYs ?hfp ?h0 #[6] ?hassign ?hbody ?hdone ?hstop
  case g => rfl
  case eg => intro args w; rfl
  case hM => omega
  case hit =>
    intro W hbW hsW
    have := chunk_iter (w.heap.size + 3) (w.heap.size + 4) a0 c0 l (fun b => (fp b ∨ b = w.heap.size + 2) ∨ b = W4.heap.size + 1) W (q3.below hbW (by omega)) (q4.below hbW (by omega)) (hv4.ext (fp := nofp) (Ext.ofBelow hbW) (fun _ _ _ h => h)) (by omega) ?_ ?_ ?_
    · rw [show W.heap.size = w.heap.size + 7 from by omega] at this
      exact this
    · rintro ((h | h) | h)
      · have := f4 _ h; omega
      · omega
      · omega
    · rintro ((h | h) | h)
      · have := f4 _ h; omega
      · omega
      · omega
    · rintro g hg ((h | h) | h)
      · exact (f3 g hg).1 h
      · have := (f3 g hg).2; omega
      · have := (f3 g hg).2; omega
  case hI =>
    rintro k A B ⟨hj, h2, h0, h1, hnb⟩ he
    have hnl := hn.lt
    exact ⟨hJ k A B hj (he.mono (fun b _ h => by omega)), h2.ext he (by omega), h0.ext he (by omega), h1.ext he (by omega), hnb.ext he (by omega)⟩
  case hIx =>
    rintro c k A B ⟨rfl, hj⟩ he
    exact ⟨rfl, hJx k A B hj (he.mono (fun b _ h => by omega))⟩
  case hY =>
    rintro k A B args ⟨v, rfl, hbv, ho⟩ he
    refine ⟨v, rfl, hbv.ext he (fun g hg _ h => ?_), ho⟩
    have := (f3 g (ho g hg)).2
    omega
  case hYs =>
    rintro k A args ⟨v, rfl, _⟩
    rfl
  case hfp =>
    rintro b (h | h)
    · have := f4 _ h; omega
    · omega
  case h0 => exact ⟨h04, q2, q0, q1, hn4⟩
  case hassign =>
    intro m args W K hs hK
    obtain ⟨v, rfl⟩ : ∃ v, args = #[v] := by
      match args, hs with
      | ⟨[v]⟩, _ => exact ⟨v, rfl⟩
    rw [rangeAct_one] at hK
    simp only [List.setIfInBounds_toArray, List.set_cons_zero, List.set_cons_succ] at hK
    gi_wp2
    exact hK
  case hdone =>
    rintro W ⟨hj, _⟩ hd
    exact ⟨by simp, .inl ⟨_, _, rfl, run_takeDeferred hd, _, results_none rfl _ _ _, ⟨_, rfl⟩, .inl (hJ _ _ _ hj ((ext_putObj _ _ _).mono (fun b _ h => by omega)))⟩⟩
  case hstop =>
    rintro c k W ⟨rfl, hj⟩ hd
    gi_wp2
    exact ⟨by simp, .inl ⟨_, _, rfl, run_takeDeferred hd, _, results_none rfl _ _ _, ⟨_, rfl⟩, .inr ⟨k, hJx _ _ _ hj ((ext_putObj _ _ _).mono (fun b _ h => by omega))⟩⟩⟩
  case hbody =>
    rintro m k W args hk ⟨hJk, bK, bY, bC, bN⟩ ⟨v, rfl, hp, hob⟩ hM
    rw [rangeAct_one]
    simp only [List.setIfInBounds_toArray, List.set_cons_zero, List.set_cons_succ]
    obtain ⟨ap, cp, rfl⟩ := hp.form
    have hp240 : (chunkOf l k).length ≤ 240 := by rw [chunkOf_length]; omega
    obtain ⟨p, hpk⟩ : ∃ p, p = chunkOf l k := ⟨_, rfl⟩
    obtain ⟨N, hN⟩ : ∃ N, N = chunks l := ⟨_, rfl⟩
    rw [← hpk] at hp hp240 hob ⊢
    rw [← hN] at bC hk
    have hn2 : (N : Int) < 65536 := by rw [hN]; unfold chunks; omega
    have hk1 : (k : Int) < 65536 := by omega
    obtain ⟨B0, hB0⟩ : ∃ B0, B0 = W.heap.size := ⟨_, rfl⟩
    have HB0 := hid (Nat.le_of_eq hB0)
    have hw8 : IntKind.u8.wrap (p.length : Int) = (p.length : Int) := by rw [IntKind.wrap_u8']; omega
    have h240 : (240 : Int) - (p.length : Int) = ((240 - p.length : Nat) : Int) := by omega
    have hw64 : IntKind.i64.wrap ((240 - p.length : Nat) : Int) = ((240 - p.length : Nat) : Int) := by rw [IntKind.wrap_i64]; omega
    have HpN := hid (And.intro hpk hN)
    clear hob hpk hN
    gi_wp2
    refine wpIn_region_inv rfl Grows (fun i v x => match i with
        | 0 => ∃ g, v = .slice (some ⟨g, 0, none⟩) 1 1 ∧ Bs x v [165]
        | 1 => v = .int .i64 num
        | 2 => Bs x v (lowB num 6)
        | 3 => v = .int .i64 (k : Int)
        | 4 => Bs x v (lowB (k : Int) 2)
        | 5 => v = .int .i64 (N : Int)
        | 6 => Bs x v (lowB (N : Int) 2)
        | 7 => v = .slice ap p.length cp
        | 8 => v = .int .i64 (p.length : Int)
        | 9 => v = .int .u8 (p.length : Int)
        | 10 => ∃ g, v = .slice (some ⟨g, 0, none⟩) 1 1 ∧ Bs x v [byteOf (p.length : Int) 0]
        | 11 => v = .slice ap p.length cp
        | 12 => v = .slice ap p.length cp
        | 13 => v = .int .i64 (p.length : Int)
        | 14 => v = .int .i64 ((240 - p.length : Nat) : Int)
        | 15 => ∃ g, v = .slice (some ⟨g, 0, none⟩) (240 - p.length) (240 - p.length) ∧ Bs x v (List.replicate (240 - p.length) 0)
        | 16 => ∃ g vs, v = .slice (some ⟨g, 0, none⟩) 7 7 ∧ 7 = vs.length ∧ Parts x g vs [[165], lowB num 6, lowB (k : Int) 2, lowB (N : Int) 2, [byteOf (p.length : Int) 0], p, List.replicate (240 - p.length) 0]
        | 17 => Own8 x B0 5 v (blockF p num N k)
        | 18 => Own8 x B0 5 v (blockF p num N k)
        | _ => True) (by kernel_rfl) (Grows.refl _) Grows.trans ?stab ?steps ?fin
    case stab =>
      intro i v x y hg h
      match i with
      | 1 | 3 | 5 | 7 | 8 | 9 | 11 | 12 | 13 | 14 => exact h
      | 0 => exact (by obtain ⟨g, e, hb⟩ := h; exact ⟨g, e, hb.keep hg⟩)
      | 2 => exact Bs.keep h hg
      | 4 => exact Bs.keep h hg
      | 6 => exact Bs.keep h hg
      | 10 => exact (by obtain ⟨g, e, hb⟩ := h; exact ⟨g, e, hb.keep hg⟩)
      | 15 => exact (by obtain ⟨g, e, hb⟩ := h; exact ⟨g, e, hb.keep hg⟩)
      | 16 => exact (by obtain ⟨g, vs, e, h4, hb⟩ := h; exact ⟨g, vs, e, h4, hb.keep hg⟩)
      | 17 => exact Own8.keep h hg
      | 18 => exact Own8.keep h hg
      | n + 19 => trivial
    case steps =>
      refine ⟨?_, ?_, ?_, ?_, ?_, ?_, ?_, ?_, ?_, ?_, ?_, ?_, ?_, ?_, ?_, ?_, ?_, ?_, ?_, trivial⟩
      · intro a x hA
        refine stepIn_value (fun _ => trivial) rfl (w' := x.alloc (.cells #[.int .u8 165] 5)) (v := .slice (some ⟨x.heap.size, 0, none⟩) 1 1) ?_ (Grows.alloc _ _) ?_
        · go_simp
        · exact ⟨_, rfl, (Blk.new _ _ _).bs1 rfl⟩
      · intro a x hA
        have t2 := hA.at_ 2 (by rfl) rfl
        have hNx := (bN.keep hA.grown).cell (o := 0) rfl
        have hKx := (bK.keep hA.grown).cell (o := 0) rfl
        have hCx := (bC.keep hA.grown).cell (o := 0) rfl
        refine stepIn_value (fun _ => trivial) rfl (w' := x) (v := .int .i64 num) ?_ (Grows.refl _) ?_
        · go_simp
        · rfl
      · intro a x hA
        have t17 : a.tmps[17]?.getD undef = .int .i64 num := hA.dep_ ⟨1, .data⟩ (by simp) _ 17 rfl rfl
        refine stepIn_call (f := 62) (args := #[.int .i64 num, .int .i64 6]) rfl (by go_simp) ((store_low _ _ x hn0 (by omega) (by omega) (by simpa using hn1)).mono ?_)
        rintro e w' ⟨v, rfl, ho, hb⟩
        exact ⟨v, rfl, hb, ho.bs⟩
      · intro a x hA
        have t5 := hA.at_ 5 (by rfl) rfl
        have hNx := (bN.keep hA.grown).cell (o := 0) rfl
        have hKx := (bK.keep hA.grown).cell (o := 0) rfl
        have hCx := (bC.keep hA.grown).cell (o := 0) rfl
        refine stepIn_value (fun _ => trivial) rfl (w' := x) (v := .int .i64 (k : Int)) ?_ (Grows.refl _) ?_
        · go_simp
        · rfl
      · intro a x hA
        have t19 : a.tmps[19]?.getD undef = .int .i64 (k : Int) := hA.dep_ ⟨3, .data⟩ (by simp) _ 19 rfl rfl
        refine stepIn_call (f := 62) (args := #[.int .i64 (k : Int), .int .i64 2]) rfl (by go_simp) ((store_low _ _ x (by omega) (by omega) (by omega) (by simpa using hk1)).mono ?_)
        rintro e w' ⟨v, rfl, ho, hb⟩
        exact ⟨v, rfl, hb, ho.bs⟩
      · intro a x hA
        have t4 := hA.at_ 4 (by rfl) rfl
        have hNx := (bN.keep hA.grown).cell (o := 0) rfl
        have hKx := (bK.keep hA.grown).cell (o := 0) rfl
        have hCx := (bC.keep hA.grown).cell (o := 0) rfl
        refine stepIn_value (fun _ => trivial) rfl (w' := x) (v := .int .i64 (N : Int)) ?_ (Grows.refl _) ?_
        · go_simp
        · rfl
      · intro a x hA
        have t21 : a.tmps[21]?.getD undef = .int .i64 (N : Int) := hA.dep_ ⟨5, .data⟩ (by simp) _ 21 rfl rfl
        refine stepIn_call (f := 62) (args := #[.int .i64 (N : Int), .int .i64 2]) rfl (by go_simp) ((store_low _ _ x (by omega) (by omega) (by omega) (by simpa using hn2)).mono ?_)
        rintro e w' ⟨v, rfl, ho, hb⟩
        exact ⟨v, rfl, hb, ho.bs⟩
      · intro a x hA
        have t6 := hA.at_ 6 (by rfl) rfl
        refine stepIn_value (fun _ => trivial) rfl (w' := x) (v := .slice ap p.length cp) ?_ (Grows.refl _) ?_
        · go_simp
        · rfl
      · intro a x hA
        have t23 : a.tmps[23]?.getD undef = .slice ap p.length cp := hA.dep_ ⟨7, .data⟩ (by simp) _ 23 rfl rfl
        refine stepIn_value (fun _ => trivial) rfl (w' := x) (v := .int .i64 (p.length : Int)) ?_ (Grows.refl _) ?_
        · go_simp
        · rfl
      · intro a x hA
        have t24 : a.tmps[24]?.getD undef = .int .i64 (p.length : Int) := hA.dep_ ⟨8, .data⟩ (by simp) _ 24 rfl rfl
        refine stepIn_value (fun _ => trivial) rfl (w' := x) (v := .int .u8 (p.length : Int)) ?_ (Grows.refl _) ?_
        · go_simp
        · rfl
      · intro a x hA
        have t25 : a.tmps[25]?.getD undef = .int .u8 (p.length : Int) := hA.dep_ ⟨9, .data⟩ (by simp) _ 25 rfl rfl
        refine stepIn_value (fun _ => trivial) rfl (w' := x.alloc (.cells #[.int .u8 (p.length : Int)] 5)) (v := .slice (some ⟨x.heap.size, 0, none⟩) 1 1) ?_ (Grows.alloc _ _) ?_
        · go_simp
        · exact ⟨_, rfl, (Blk.new _ _ _).bs1 (by rw [byteOf_val]; simp; omega)⟩
      · intro a x hA
        have t6 := hA.at_ 6 (by rfl) rfl
        refine stepIn_value (fun _ => trivial) rfl (w' := x) (v := .slice ap p.length cp) ?_ (Grows.refl _) ?_
        · go_simp
        · rfl
      · intro a x hA
        have t6 := hA.at_ 6 (by rfl) rfl
        refine stepIn_value (fun _ => trivial) rfl (w' := x) (v := .slice ap p.length cp) ?_ (Grows.refl _) ?_
        · go_simp
        · rfl
      · intro a x hA
        have t28 : a.tmps[28]?.getD undef = .slice ap p.length cp := hA.dep_ ⟨12, .data⟩ (by simp) _ 28 rfl rfl
        refine stepIn_value (fun _ => trivial) rfl (w' := x) (v := .int .i64 (p.length : Int)) ?_ (Grows.refl _) ?_
        · go_simp
        · rfl
      · intro a x hA
        have t29 : a.tmps[29]?.getD undef = .int .i64 (p.length : Int) := hA.dep_ ⟨13, .data⟩ (by simp) _ 29 rfl rfl
        refine stepIn_value (fun _ => trivial) rfl (w' := x) (v := .int .i64 ((240 - p.length : Nat) : Int)) ?_ (Grows.refl _) ?_
        · go_simp
        · rfl
      · intro a x hA
        have t30 : a.tmps[30]?.getD undef = .int .i64 ((240 - p.length : Nat) : Int) := hA.dep_ ⟨14, .data⟩ (by simp) _ 30 rfl rfl
        have hmk := run_make_u8 (240 - p.length) (by omega) x
        refine stepIn_value (fun _ => trivial) rfl (w' := x.alloc (.cells (madeCells #[.int .u8 0] (240 - p.length)) 5)) (v := .slice (some ⟨x.heap.size, 0, none⟩) (240 - p.length) (240 - p.length)) ?_ (Grows.alloc _ _) ?_
        · go_simp
        · exact ⟨_, rfl, bs_made _ _ (by unfold maxLen; omega)⟩
      · intro a x hA
        have t16 : ∃ g, (a.tmps[16]?.getD undef) = .slice (some ⟨g, 0, none⟩) 1 1 ∧ Bs x (a.tmps[16]?.getD undef) [165] := hA.dep_ ⟨0, .data⟩ (by simp) _ 16 rfl rfl
        have t18 : Bs x (a.tmps[18]?.getD undef) (lowB num 6) := hA.dep_ ⟨2, .data⟩ (by simp) _ 18 rfl rfl
        have t20 : Bs x (a.tmps[20]?.getD undef) (lowB (k : Int) 2) := hA.dep_ ⟨4, .data⟩ (by simp) _ 20 rfl rfl
        have t22 : Bs x (a.tmps[22]?.getD undef) (lowB (N : Int) 2) := hA.dep_ ⟨6, .data⟩ (by simp) _ 22 rfl rfl
        have t26 : ∃ g, (a.tmps[26]?.getD undef) = .slice (some ⟨g, 0, none⟩) 1 1 ∧ Bs x (a.tmps[26]?.getD undef) [byteOf (p.length : Int) 0] := hA.dep_ ⟨10, .data⟩ (by simp) _ 26 rfl rfl
        have t27 : a.tmps[27]?.getD undef = .slice ap p.length cp := hA.dep_ ⟨11, .data⟩ (by simp) _ 27 rfl rfl
        have t31 : ∃ g, (a.tmps[31]?.getD undef) = .slice (some ⟨g, 0, none⟩) (240 - p.length) (240 - p.length) ∧ Bs x (a.tmps[31]?.getD undef) (List.replicate (240 - p.length) 0) := hA.dep_ ⟨15, .data⟩ (by simp) _ 31 rfl rfl
        obtain ⟨g16, e16, b16⟩ := t16
        obtain ⟨a18, c18, e18⟩ := t18.form
        obtain ⟨a20, c20, e20⟩ := t20.form
        obtain ⟨a22, c22, e22⟩ := t22.form
        obtain ⟨g26, e26, b26⟩ := t26
        obtain ⟨g31, e31, b31⟩ := t31
        rw [e16] at b16
        rw [e18] at t18
        rw [e20] at t20
        rw [e22] at t22
        rw [e26] at b26
        rw [e31] at b31
        have hl := hp.keep hA.grown
        have hgr := Grows.alloc x (.cells #[.slice (some ⟨g16, 0, none⟩) 1 1, .slice a18 (lowB num 6).length c18, .slice a20 (lowB (k : Int) 2).length c20, .slice a22 (lowB (N : Int) 2).length c22, .slice (some ⟨g26, 0, none⟩) 1 1, .slice ap p.length cp, .slice (some ⟨g31, 0, none⟩) (240 - p.length) (240 - p.length)] 40)
        refine stepIn_value (fun _ => trivial) rfl (w' := x.alloc (.cells #[.slice (some ⟨g16, 0, none⟩) 1 1, .slice a18 (lowB num 6).length c18, .slice a20 (lowB (k : Int) 2).length c20, .slice a22 (lowB (N : Int) 2).length c22, .slice (some ⟨g26, 0, none⟩) 1 1, .slice ap p.length cp, .slice (some ⟨g31, 0, none⟩) (240 - p.length) (240 - p.length)] 40)) (v := .slice (some ⟨x.heap.size, 0, none⟩) 7 7) ?_ hgr ?_
        · clear b16 t18 t20 t22 b26 b31 hl hp
          go_simp
        · exact ⟨_, _, rfl, rfl, Parts.seven (Blk.new _ _ _) (b16.keep hgr) (t18.keep hgr) (t20.keep hgr) (t22.keep hgr) (b26.keep hgr) (hl.keep hgr) (b31.keep hgr)⟩
      · intro a x hA
        have t32 : ∃ g vs, (a.tmps[32]?.getD undef) = .slice (some ⟨g, 0, none⟩) 7 7 ∧ 7 = vs.length ∧ Parts x g vs [[165], lowB num 6, lowB (k : Int) 2, lowB (N : Int) 2, [byteOf (p.length : Int) 0], p, List.replicate (240 - p.length) 0] := hA.dep_ ⟨16, .data⟩ (by simp) _ 32 rfl rfl
        obtain ⟨g, vs, e32, h4, hpp⟩ := t32
        have hF : [[165], lowB num 6, lowB (k : Int) 2, lowB (N : Int) 2, [byteOf (p.length : Int) 0], p, List.replicate (240 - p.length) 0].flatten = blockF p num N k := by simp [blockF]
        have hFl : (blockF p num N k).length = 252 := blockF_length _ _ _ _ hp240
        refine stepIn_call (f := 34) (args := #[.slice (some ⟨g, 0, none⟩) 7 7]) rfl (by clear hpp; go_simp) ((slices_Concat _ _ _ _ _ x h4 hpp (by omega) (by rw [hF]; omega)).mono ?_)
        rw [hF]
        rintro e w' ⟨v, rfl, ho, hb⟩
        have hs := hA.grow.size
        exact ⟨v, rfl, hb, ho.mono (Nat.le_trans HB0.out hs)⟩
      · intro a x hA
        have t33 : Own8 x B0 5 (a.tmps[33]?.getD undef) (blockF p num N k) := hA.dep_ ⟨17, .data⟩ (by simp) _ 33 rfl rfl
        exact stepIn_value (fun _ => trivial) rfl (w' := x) (v := a.tmps[33]?.getD undef) (by go_simp) (Grows.refl _) t33
    case fin =>
      intro y W' hg hV
      simp only [AllVals] at hV
      obtain ⟨_, _, _, _, _, _, _, _, _, _, _, _, _, _, _, _, _, _, h18, _⟩ := hV
      have hg5 : Below W.heap.size W W' := ⟨hg.os, hg.tape, hg.output, hg.size, hg.block⟩
      simp only [putAll, Act.put, List.setIfInBounds_toArray, List.set_cons_zero, List.set_cons_succ]
      have bK5 := bK.keep hg5
      have bY5 := bY.keep hg5
      have bC5 := bC.keep hg5
      have bN5 := bN.keep hg5
      have J5 := hJ k W W' hJk (Ext.ofBelow hg5)
      obtain ⟨a7, c7, e7⟩ := h18.form
      rw [blockF_length _ _ _ _ hp240] at e7
      rw [e7] at h18 ⊢
      obtain ⟨fr, hfr⟩ : ∃ fr, fr = blockF p num N k := ⟨_, rfl⟩
      rw [← hfr] at h18
      have hfrl : fr.length = 252 := by rw [hfr]; exact blockF_length _ _ _ _ hp240
      have Hfr := hid hfr
      have hcl := crcOf_lt fr
      have hwc : IntKind.i64.wrap (crcOf fr : Int) = (crcOf fr : Int) := by rw [IntKind.wrap_i64]; omega
      clear e7 hfr hg bK bY bC bN hp HB0
      gi_wp2
      refine wpIn_region_tail 8 rfl (GrowA (.slice a7 252 c7) (.slice a7 256 c7) B0 fr (fr ++ lowB (crcOf fr : Int) 4)) (fun i v x => match i with
          | 0 => v = .func (.yield l0) #[] #[]
          | 1 => v = .int .i64 (k : Int)
          | 2 => v = .slice a7 252 c7
          | 3 => v = .slice a7 252 c7
          | 4 => v = .int .u32 (crcOf fr : Int)
          | 5 => v = .int .i64 (crcOf fr : Int)
          | 6 => Bs x v (lowB (crcOf fr : Int) 4) ∧ ∀ g, v.ownBlock = some g → (Value.slice a7 252 c7).ownBlock ≠ some g
          | 7 => QA (.slice a7 252 c7) (.slice a7 256 c7) B0 (fr ++ lowB (crcOf fr : Int) 4) x v
          | _ => True) (by kernel_rfl) (GrowA.refl _) GrowA.trans ?stab ?steps ?fin
      case stab =>
        intro i v x y hg h
        match i with
        | 0 | 1 | 2 | 3 | 4 | 5 => exact h
        | 6 => exact ⟨h.1.ext hg.1 (fun g h1 _ h2 => h.2 g h1 h2), h.2⟩
        | 7 => exact hg.2.2 _ h
        | n + 8 => trivial
      case steps =>
        simp only [List.take_succ_cons, List.take_zero]
        refine ⟨?_, ?_, ?_, ?_, ?_, ?_, ?_, ?_, trivial⟩
        · intro a x hA
          have t3 := hA.at_ 3 (by rfl) rfl
          have hKx := (bK5.ext hA.grow.1.undrew (fun h => by have := (h18.blk _ h).1; omega)).cell (o := 0) rfl
          have hYx := (bY5.ext hA.grow.1.undrew (fun h => by have := (h18.blk _ h).1; omega)).cell (o := 0) rfl
          refine stepIn_value (fun _ => trivial) rfl (w' := x) (v := .func (.yield l0) #[] #[]) ?_ (GrowA.refl _) ?_
          · go_simp
          · rfl
        · intro a x hA
          have t5 := hA.at_ 5 (by rfl) rfl
          have hKx := (bK5.ext hA.grow.1.undrew (fun h => by have := (h18.blk _ h).1; omega)).cell (o := 0) rfl
          have hYx := (bY5.ext hA.grow.1.undrew (fun h => by have := (h18.blk _ h).1; omega)).cell (o := 0) rfl
          refine stepIn_value (fun _ => trivial) rfl (w' := x) (v := .int .i64 (k : Int)) ?_ (GrowA.refl _) ?_
          · go_simp
          · rfl
        · intro a x hA
          have t7 := hA.at_ 7 (by rfl) rfl
          refine stepIn_value (fun _ => trivial) rfl (w' := x) (v := .slice a7 252 c7) ?_ (GrowA.refl _) ?_
          · go_simp
          · rfl
        · intro a x hA
          have t7 := hA.at_ 7 (by rfl) rfl
          refine stepIn_value (fun _ => trivial) rfl (w' := x) (v := .slice a7 252 c7) ?_ (GrowA.refl _) ?_
          · go_simp
          · rfl
        · intro a x hA
          have t37 : a.tmps[37]?.getD undef = .slice a7 252 c7 := hA.dep_ ⟨3, .data⟩ (by simp) _ 37 rfl rfl
          have hKx := (bK5.ext hA.grow.1.undrew (fun h => by have := (h18.blk _ h).1; omega)).cell (o := 0) rfl
          have hYx := (bY5.ext hA.grow.1.undrew (fun h => by have := (h18.blk _ h).1; omega)).cell (o := 0) rfl
          have hfx : Own8 x B0 5 (.slice a7 252 c7) fr := hA.grow.2.1 h18
          refine stepIn_call (f := 51) (args := #[.slice a7 252 c7]) rfl (by clear hfx; go_simp) ((wire_Crc _ _ x hfx.bs (by omega)).mono ?_)
          rintro e w' ⟨rfl, hb⟩
          exact ⟨_, rfl, GrowA.below hb, rfl⟩
        · intro a x hA
          have t38 : a.tmps[38]?.getD undef = .int .u32 (crcOf fr : Int) := hA.dep_ ⟨4, .data⟩ (by simp) _ 38 rfl rfl
          refine stepIn_value (fun _ => trivial) rfl (w' := x) (v := .int .i64 (crcOf fr : Int)) ?_ (GrowA.refl _) ?_
          · go_simp
          · rfl
        · intro a x hA
          have t39 : a.tmps[39]?.getD undef = .int .i64 (crcOf fr : Int) := hA.dep_ ⟨5, .data⟩ (by simp) _ 39 rfl rfl
          have hsz := hA.grow.1.size
          have hbk := h18.blk
          refine stepIn_call (f := 62) (args := #[.int .i64 (crcOf fr : Int), .int .i64 4]) rfl (by clear hbk; go_simp) ((store_low _ _ x (by omega) (by omega) (by omega) (by simp; omega)).mono ?_)
          rintro e w' ⟨v, rfl, ho, hb⟩
          refine ⟨v, rfl, GrowA.below hb, ho.bs, fun g hg h2 => ?_⟩
          have h3 := (ho.blk g hg).1
          have h4 := (hbk g h2).2
          have h5 : W'.heap.size ≤ x.heap.size := hsz
          omega
        · intro a x hA
          have t36 : a.tmps[36]?.getD undef = .slice a7 252 c7 := hA.dep_ ⟨2, .data⟩ (by simp) _ 36 rfl rfl
          have t40 : Bs x (a.tmps[40]?.getD undef) (lowB (crcOf fr : Int) 4) ∧ ∀ g, (a.tmps[40]?.getD undef).ownBlock = some g → (Value.slice a7 252 c7).ownBlock ≠ some g := hA.dep_ ⟨6, .data⟩ (by simp) _ 40 rfl rfl
          have hfx : Own8 x B0 5 (.slice a7 252 c7) fr := hA.grow.2.1 h18
          obtain ⟨i0, hi, hz0, hz1, hz2⟩ := info_parts info_u8
          have hsz : W'.heap.size ≤ x.heap.size := hA.grow.1.size
          obtain ⟨v', w', hr, q1, q2, q3, q4⟩ := run_append8k (P := Try.prog) Try.underlying40 hi hz0 hz1 hz2 40 hfx t40.1 (by simp [lowB_length]; omega) (by rw [hB0]; exact Nat.le_trans hg5.size hsz)
          have hv2 : v' = .slice a7 256 c7 ∨ (x.grownBy w' none ∧ ∀ k, v'.ownBlock = some k → x.heap.size ≤ k) := by
            rcases q4 with q4 | ⟨a', c', e1, e2⟩
            · exact .inr q4
            · rw [hfrl] at e1 e2
              cases e1
              exact .inl (by rw [e2]; simp [lowB_length])
          have hq : QA (.slice a7 252 c7) (.slice a7 256 c7) B0 (fr ++ lowB (crcOf fr : Int) 4) w' v' := ⟨q1, by
            rcases hv2 with e | ⟨_, hnew⟩
            · exact .inl e
            · refine .inr (fun e => ?_)
              cases ho : v'.ownBlock with
              | none =>
                rw [ho] at e
                cases a7 with
                | none =>
                  rcases q1.2 with ⟨_, h0⟩ | ⟨_, _, _, e', _⟩
                  · simp [lowB_length] at h0
                  · rw [e'] at ho; cases ho
                | some ad => cases e
              | some g =>
                have := (hfx.blk g (by rw [← e, ho])).2
                have := hnew g ho
                omega⟩
          refine stepIn_value (fun _ => trivial) rfl (w' := w') (v := v') (exec_append rfl (by
            have e36 : a.eval (.tmp 36) = .slice a7 252 c7 := by simp [go_sem, t36]
            have e40 : a.eval (.tmp 40) = a.tmps[40]?.getD undef := by simp [go_sem]
            rw [e36, e40]; exact hr)) ⟨⟨q2.os, q2.tape, q2.output, q2.size, fun g h1 h2 => q2.block g h1 (fun e => h2 e.symm)⟩, fun _ => q3, fun u hu => ?_⟩ hq
          rcases hv2 with e | ⟨hgn, _⟩
          · rcases hu.2 with e2 | e2
            · rw [e2]; rw [e] at hq; exact hq
            · exact ⟨hu.1.extOwn (fp := fun b => (Value.slice a7 252 c7).ownBlock = some b) ⟨q2.os, q2.tape, q2.output, q2.size, fun g h1 h2 => q2.block g h1 (fun e => h2 e.symm)⟩ (fun g h1 h2 => e2 (by rw [h1, h2])), .inr e2⟩
          · exact ⟨World.ownsRow.kept (row := none) hu.1 hgn (by cases u.ownBlock <;> simp), hu.2⟩
      case fin =>
        intro y6 W6 hg hV
        simp only [List.take_succ_cons, List.take_zero, AllVals] at hV
        obtain ⟨u0, u1, u2, u3, u4, u5, u6, u7, _⟩ := hV
        simp only [List.take_succ_cons, List.take_zero, List.drop_succ_cons, List.drop_zero, putAll, Act.put, List.setIfInBounds_toArray, List.set_cons_zero, List.set_cons_succ]
        have hg6 : Ext nofp W W6 := (Ext.ofBelow hg5).drew.trans hg.1 (fun b h => .inr (by have := (h18.blk _ h).1; omega))
        obtain ⟨a41, c41, e41⟩ := u7.1.form
        have hl6 : (fr ++ lowB (crcOf fr : Int) 4).length = 256 := by simp [lowB_length, hfrl]
        rw [hl6] at e41
        clear hl6
        have HbB := u7.1.bs
        have HbO := u7.1.blk
        rw [e41] at HbB HbO
        rw [u0, u1, e41]
        clear e41 u0 u1 u2 u3 u4 u5 u6 u7
        have J6 := hJ k W W6 hJk (hg6.mono (fun b _ h => h.elim))
        have hsz6 := hg6.size
        have hRound := hR (m - 1) k W6 #[.int .i64 (k : Int), .slice a41 256 c41] (by rw [← HpN.out.2]; exact hk) J6 ⟨_, rfl, by rw [← HpN.out.1, ← HpN.out.2, blockB, ← Hfr.out]; exact HbB, fun g hg => by have := (HbO g hg).1; omega⟩ (by omega)
        have bK6 := bK5.ext (hg.1.undrew) (fun h => by have := (h18.blk _ h).1; omega)
        have bY6 := bY5.ext (hg.1.undrew) (fun h => by have := (h18.blk _ h).1; omega)
        have bC6 := bC5.ext (hg.1.undrew) (fun h => by have := (h18.blk _ h).1; omega)
        have bN6 := bN5.ext (hg.1.undrew) (fun h => by have := (h18.blk _ h).1; have := hn.lt; omega)
        clear hg hg5 h18 bK5 bY5 bC5 bN5 J5 hwc hcl hw64 h240 hw8 HbB J6
        obtain ⟨fn, tmps, assign, body, hy, hRR⟩ := hRound
        gi_wp2
        refine ⟨fun h => by simp [Fence.wide, Fence.inRound] at h, ?_⟩
        refine RoundIn.mono (F := Fence.wide.inRound (W4.heap.size + 1)) (show RoundIn (Fence.wide.inRound (W4.heap.size + 1)) (m - 1) Try.prog l0 fn tmps assign body W6 _ from hRR) ?_
        rintro e W7 (⟨rfl, hJ7, hx7⟩ | ⟨rfl, ⟨k', hJx7⟩, hx7⟩)
        · have bK7 := bK6.ext hx7 (fun h => by have := f4 _ h; omega)
          have bY7 := bY6.ext hx7 (fun h => by have := f4 _ h; omega)
          have bC7 := bC6.ext hx7 (fun h => by have := f4 _ h; omega)
          have bN7 := bN6.ext hx7 f2
          have cK7 := bK7.cell (o := 0) rfl
          have fK7 := bK7.free 0
          gi_wp2
          have hx6 : Ext (fun b => fp b ∨ b = w.heap.size + 2) W W7 := (hg6.mono (fun b _ h => h.elim)).trans hx7 (fun b h => .inl (.inl h))
          have hset : Ext (fun b => b = w.heap.size + 2) W7 (W7.setCell ⟨w.heap.size + 2, 0, none⟩ (.int .i64 ((k : Int) + 1))) := (Ext.refl (fun b => b = w.heap.size + 2) W7).setCell (a := ⟨w.heap.size + 2, 0, none⟩) (.inl rfl) _
          refine ⟨hx6.trans hset (fun b h => .inl (.inr h)), hJ _ _ _ hJ7 (hset.mono (fun b _ h => by omega)), ?_, bY7.setOther (by simp) _, ?_, bN7.setOther (by have := hn.lt; simp; omega) _⟩
          · have := bK7.set (o := 0) (.int .i64 ((k : Int) + 1))
            simpa using this
          · rw [← HpN.out.2]
            exact bC7.setOther (by simp) _
        · gi_wp2
          exact ⟨(hg6.mono (fun b _ h => h.elim)).trans hx7 (fun b h => .inl (.inl h)), k', rfl, hJx7⟩

end Go.Proofs.Ytpkaepmmkojdaaa
