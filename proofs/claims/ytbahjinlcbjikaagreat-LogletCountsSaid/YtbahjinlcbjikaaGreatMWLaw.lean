import Derived.Test.YtbahjinlcbjikaaGreatMap
import Derived.Test.YtbahjinlcbjikaaGreatNet
import Derived.Test.YtbahjinlcbjikaaGreatMLgP
/-! A map with int keys as a function from keys to values. No program is named here. -/
namespace Go.Proofs.YtbahjinlcbjikaaGreat
open Go.RowKit

theorem mget_mput {K : Type} [DecidableEq K] (es : List (Ent K)) (k j : K) (v : Value) (c : Nat) : mget (mput es k v c) j = if j = k then some v else mget es j := by
  unfold mput
  split
  · rename_i h
    have hc : ((fun e : Ent K => decide (j = e.k)) ∘ (fun e : Ent K => if k = e.k then { e with v := v } else e)) = (fun e => decide (j = e.k)) := by
      funext e
      simp only [Function.comp]
      split <;> rfl
    unfold mget
    rw [List.find?_map, hc]
    cases hf : es.find? (fun e => decide (j = e.k)) with
    | none =>
      rw [List.find?_eq_none] at hf
      have hne : j ≠ k := by
        rintro rfl
        obtain ⟨e, he, h1⟩ := List.any_eq_true.1 h
        exact hf e he h1
      rw [if_neg hne]
      rfl
    | some e =>
      have he : j = e.k := by simpa using List.find?_some hf
      by_cases hyx : j = k
      · rw [if_pos hyx]
        subst hyx
        simp [he]
      · rw [if_neg hyx]
        have : k ≠ e.k := fun h => hyx (he.trans h.symm)
        simp [this]
  · rename_i h
    unfold mget
    rw [List.find?_append]
    by_cases hyx : j = k
    · rw [if_pos hyx]
      subst hyx
      have hn : es.find? (fun e => decide (j = e.k)) = none := by
        rw [List.find?_eq_none]
        intro e he hd
        exact h (List.any_eq_true.2 ⟨e, he, hd⟩)
      rw [hn]
      simp
    · rw [if_neg hyx]
      have : [({ k := k, v := v, born := c } : Ent K)].find? (fun e : Ent K => decide (j = e.k)) = none := by simp [hyx]
      rw [this, Option.or_none]

def TabAt (W : World) (m : Nat) (z : Value) (f : Int → Value) : Prop := ∃ es c, MapAt W m encI es c ∧ ∀ k, (mget es k).getD z = f k
section
variable {P : Program} {W W' : World} {m : Nat} {z : Value} {f : Int → Value} {M T E : TypeId}
theorem TabAt.new (W : World) (z : Value) : TabAt (W.alloc (.map #[] 0)) W.heap.size z (fun _ => z) := ⟨[], 0, MapAt.new W encI, fun _ => rfl⟩
theorem TabAt.ext {fp : Nat → Prop} (h : TabAt W m z f) (he : Ext fp W W') (hn : ¬ fp m) : TabAt W' m z f := by
  obtain ⟨es, c, h1, h2⟩ := h
  exact ⟨es, c, h1.ext he hn, h2⟩
theorem TabAt.keep (h : TabAt W m z f) (hb : Below W.heap.size W W') : TabAt W' m z f := h.ext (fp := nofp) (Ext.ofBelow hb) (fun h => h)
theorem TabAt.of (h : TabAt W m z f) {g : Int → Value} (he : ∀ k, f k = g k) : TabAt W m z g := by
  obtain ⟨es, c, h1, h2⟩ := h
  exact ⟨es, c, h1, fun k => (h2 k).trans (he k)⟩
theorem TabAt.lt (h : TabAt W m z f) : m < W.heap.size := by
  obtain ⟨es, c, h1, _⟩ := h
  exact h1.lt
theorem TabAt.look (h : TabAt W m z f) (hM : P.underlying M = some (.map T E)) (hT : P.underlying T = some (.int .i64)) (hz : ∀ w, (zeroValue E).run P w = .ok z w) (k : Int) :
    (Instr.lookup M (.map (some m)) (.int .i64 k) false).run P W = .ok (f k) W := by
  obtain ⟨es, c, h1, h2⟩ := h
  have := run_lookup_raw (P := P) (keyLaw_int hT) h1 hM k hz false
  rw [← h2 k]
  exact this
theorem TabAt.put (h : TabAt W m z f) (hM : P.underlying M = some (.map T E)) (hT : P.underlying T = some (.int .i64)) (k : Int) (v : Value) :
    ∃ W', (Instr.mapUpdate M (.map (some m)) (.int .i64 k) v).run P W = .ok () W' ∧ TabAt W' m z (fun j => if j = k then v else f j) ∧ Ext (fun b => b = m) W W' := by
  obtain ⟨es, c, h1, h2⟩ := h
  obtain ⟨W', q1, q2, q3⟩ := run_update_raw (P := P) (keyLaw_int hT) h1 hM k v
  refine ⟨W', q1, ⟨_, _, q2, fun j => ?_⟩, q3⟩
  rw [mget_mput]
  show _ = if j = k then v else f j
  by_cases hj : j = k
  · rw [if_pos hj, if_pos hj]; rfl
  · rw [if_neg hj, if_neg hj]; exact h2 j
end
end Go.Proofs.YtbahjinlcbjikaaGreat

/-! Package loglet: Quorum, Check. -/
namespace Go.Proofs.YtbahjinlcbjikaaGreat
open Go.RowKit

section
variable {W : World}
set_option maxRecDepth 100000 in
set_option maxHeartbeats 800000 in
theorem log_Quorum (id : Int) (a : Option Addr) (n c : Nat) (hn : n ≤ 9223372036854775806) :
    Calls Tryz.prog 9 #[.agg #[.int .i64 id, .slice a n c]] W fun e w' => e = .returned (.int .i64 ((n / 2 + 1 : Nat) : Int)) ∧ Below W.heap.size W w' := by
  have h1 : (n : Int) / 2 = ((n / 2 : Nat) : Int) := by omega
  have h2 : Int.tdiv (n : Int) 2 = ((n / 2 : Nat) : Int) := by rw [Int.tdiv_eq_ediv_of_nonneg (by omega)]; exact h1
  have h5 : n / 2 ≤ 4611686018427387903 := by omega
  generalize n / 2 = q at *
  have h3 : wrap64 ((q : Int) + 1) = (q : Int) + 1 := by unfold wrap64; omega
  clear hn
  go_enter Tryz.func9, Tryz.ntmps9
  go_wp2_with fail
  go_ret
  exact ⟨by simp, (Below.refl _ _).alloc (Nat.le_refl _) _⟩

def okTo (nd : Int) (l : List Int) : Bool := decide ((∀ x ∈ l, 0 ≤ x ∧ x < nd) ∧ l.Nodup)
theorem okTo_succ {nd : Int} {l : List Int} {k : Nat} {x : Int} (hx : l[k]? = some x) : okTo nd (l.take (k + 1)) = (okTo nd (l.take k) && (decide (x ≥ 0) && (decide (x < nd) && !decide (x ∈ l.take k)))) := by
  have hlt : k < l.length := (List.getElem?_eq_some_iff.1 hx).1
  have ht : l.take (k + 1) = l.take k ++ [x] := by
    rw [List.take_add_one, hx]; rfl
  rw [ht]
  unfold okTo
  rw [Bool.eq_iff_iff]
  simp only [List.nodup_append, List.mem_append, List.mem_singleton, Bool.and_eq_true, decide_eq_true_eq, Bool.not_eq_true', decide_eq_false_iff_not]
  constructor
  · rintro ⟨h1, h2, _, h3⟩
    have hb := h1 x (.inr rfl)
    exact ⟨⟨fun y hy => h1 y (.inl hy), h2⟩, hb.1, hb.2, fun hm => h3 x hm x rfl rfl⟩
  · rintro ⟨⟨h1, h2⟩, h3, h4, h5⟩
    refine ⟨fun y hy => ?_, h2, by simp, fun y hy z hz e => ?_⟩
    · rcases hy with hy | rfl
      · exact h1 y hy
      · exact ⟨h3, h4⟩
    · subst hz
      subst e
      exact h5 hy
theorem okTo_nil (nd : Int) : okTo nd [] = true := by simp [okTo]
theorem mem_take_succ {l : List Int} {k : Nat} {x y : Int} (hx : l[k]? = some x) : y ∈ l.take (k + 1) ↔ (y = x ∨ y ∈ l.take k) := by
  rw [List.take_add_one, hx]
  simp only [Option.toList_some, List.mem_append, List.mem_singleton]
  exact or_comm

def checkE (b : Bool) : Int := if b then 0 else 1
theorem check_base (id : Int) (l : List Int) (nd : Int) : checkB ⟨id, l⟩ nd = (decide (0 ≤ id ∧ id < 281474976710656 ∧ 1 ≤ l.length ∧ l.length ≤ 9) && okTo nd l) := by
  unfold checkB okTo
  rw [Bool.eq_iff_iff]
  simp only [Bool.and_eq_true, decide_eq_true_eq]
  constructor
  · rintro ⟨h1, h2, h3, h4, h5, h6⟩; exact ⟨⟨h1, h2, h3, h4⟩, h5, h6⟩
  · rintro ⟨⟨h1, h2, h3, h4⟩, h5, h6⟩; exact ⟨h1, h2, h3, h4, h5, h6⟩
/-- What the test of the id and of the nodes' number gives, in the walk's spelling. -/
theorem check_cases (id : Int) (n : Nat) {base : Bool} (h : decide (0 ≤ id ∧ id < 281474976710656 ∧ 1 ≤ n ∧ n ≤ 9) = base) :
    (decide (id ≥ 0) = false ∧ base = false) ∨ (decide (id ≥ 0) = true ∧ decide (id < 281474976710656) = false ∧ base = false) ∨
    (decide (id ≥ 0) = true ∧ decide (id < 281474976710656) = true ∧ decide ((n : Int) ≥ 1) = false ∧ base = false) ∨
    (decide (id ≥ 0) = true ∧ decide (id < 281474976710656) = true ∧ decide ((n : Int) ≥ 1) = true ∧ decide ((n : Int) ≤ 9) = base) := by
  subst h
  by_cases h1 : 0 ≤ id
  · by_cases h2 : id < 281474976710656
    · by_cases h3 : 1 ≤ n
      · refine .inr (.inr (.inr ⟨decide_eq_true (by omega), decide_eq_true (by omega), decide_eq_true (by omega), ?_⟩))
        rw [Bool.eq_iff_iff]
        simp only [decide_eq_true_eq]
        omega
      · exact .inr (.inr (.inl ⟨decide_eq_true (by omega), decide_eq_true (by omega), decide_eq_false (by omega), decide_eq_false (by omega)⟩))
    · exact .inr (.inl ⟨decide_eq_true (by omega), decide_eq_false (by omega), decide_eq_false (by omega)⟩)
  · exact .inl ⟨decide_eq_false (by omega), decide_eq_false (by omega)⟩
end
end Go.Proofs.YtbahjinlcbjikaaGreat

/-! Package loglet: Check. -/
namespace Go.Proofs.YtbahjinlcbjikaaGreat
open Go.RowKit

section
variable {W : World}
set_option maxRecDepth 100000 in
set_option maxHeartbeats 12800000 in
theorem log_Check (id : Int) (v : Value) (l : List Int) (nd : Int) (hv : Is W v l) (hl : l.length ≤ 9223372036854775806) :
    Calls Tryz.prog 11 #[.agg #[.int .i64 id, v], .int .i64 nd] W fun e w' => e = .returned (.int .i64 (checkE (checkB ⟨id, l⟩ nd))) ∧ Below W.heap.size W w' := by
  obtain ⟨base, hbase⟩ : ∃ b, (decide (0 ≤ id ∧ id < 281474976710656 ∧ 1 ≤ l.length ∧ l.length ≤ 9)) = b := ⟨_, rfl⟩
  have hchk : checkB ⟨id, l⟩ nd = (base && okTo nd l) := by rw [check_base, hbase]
  have HC := hid hchk
  have HV := hid hv
  obtain ⟨a, c, hav⟩ : ∃ a c, v = .slice a l.length c := by obtain ⟨a, c, e, _⟩ := hv; exact ⟨a, c, e⟩
  subst hav
  have htab0 := TabAt.new (W.alloc (.cells #[.int .i64 id, .slice a l.length c] 24)) (.bool false)
  rw [World.size_alloc] at htab0
  have HT := hid htab0
  have hmm := @run_makeMap Tryz.prog
  have hcs := check_cases id l.length hbase
  clear hv hchk hbase htab0
  rcases hcs with ⟨e1, hb⟩ | ⟨e1, e2, hb⟩ | ⟨e1, e2, e3, hb⟩ | ⟨e1, e2, e3, hb⟩
  all_goals
    go_enter Tryz.func11, Tryz.ntmps11
    go_wp2_with fail
    clear e1
    try clear e2
    try clear e3
    have Hb := hid hb
    clear hb hmm
    go_loopw [5, 33] (fun ok i wr => ∃ k : Nat, k ≤ l.length ∧ i = .int .i64 (k : Int) ∧ ok = .bool (base && okTo nd (l.take k)) ∧ TabAt wr (W.heap.size + 1) (.bool false) (fun y => .bool (decide (y ∈ l.take k))) ∧ Below W.heap.size W wr) (fun _ i _ => l.length - (intOf i).toNat)
    case atStart =>
      refine ⟨0, Nat.zero_le _, rfl, by rw [List.take_zero, okTo_nil, Bool.and_true] <;> first | exact congrArg Value.bool Hb.out.symm | rfl, ?_, ((Below.refl _ W).alloc (Nat.le_refl _) _).alloc (by simp) _⟩
      have := HT.out
      simpa using this
    case round =>
      obtain ⟨k, hk, rfl, rfl, htab, hbel⟩ := hrel
      by_cases hlt : k < l.length
      · obtain ⟨x, hx⟩ : ∃ x, l[k]? = some x := ⟨l[k], by simp⟩
        have hd1 : decide ((k : Int) < (l.length : Int)) = true := decide_eq_true (by omega)
        obtain ⟨_, _, ea, hr⟩ := HV.out
        obtain ⟨g, o, eg, hc⟩ := hr k x hx
        injection ea with ea _ _
        rw [eg] at ea
        subst ea
        have hcell : wr.cell? ⟨g, o + k, none⟩ = some (.int .i64 x) := by rw [hbel.cell (World.block_lt_of_cell? W _ hc)]; exact hc
        have hlk := htab.look (P := Tryz.prog) Tryz.underlying93 Tryz.underlying3 (fun w => by kernel_rfl) x
        obtain ⟨w2, hup, htab2, hx2⟩ := htab.put (P := Tryz.prog) Tryz.underlying93 Tryz.underlying3 x (.bool true)
        have HN := hid (show TabAt w2 (W.heap.size + 1) (.bool false) (fun y => .bool (decide (y ∈ l.take (k + 1)))) ∧ Below W.heap.size W w2 from ⟨by
          refine htab2.of (fun y => ?_)
          show (if y = x then Value.bool true else Value.bool (decide (y ∈ l.take k))) = Value.bool (decide (y ∈ l.take (k + 1)))
          by_cases hy : y = x
          · rw [if_pos hy, decide_eq_true ((mem_take_succ hx).2 (.inl hy))]
          · rw [if_neg hy]
            congr 1
            rw [Bool.eq_iff_iff]
            simp only [decide_eq_true_eq]
            rw [mem_take_succ hx]
            exact ⟨.inr, fun h => h.resolve_left hy⟩, hbel.trans (hx2.belowOf hbel.size (fun b hb e => by have e2 : b = W.heap.size + 1 := e; omega))⟩)
        have HS := hid (okTo_succ (nd := nd) hx)
        clear hc hr eg htab htab2 hx2 hbel hx
        obtain ⟨cb, hcb⟩ : ∃ cb, (base && okTo nd (l.take k)) = cb := ⟨_, rfl⟩
        rw [hcb]
        have HCB := hid hcb
        clear hcb
        obtain ⟨d3, hd3⟩ : ∃ d, decide (x ∈ l.take k) = d := ⟨_, rfl⟩
        rw [hd3] at hlk
        have HD3 := hid hd3
        clear hd3
        cases cb
        · go_wp2_with fail
          go_roundw
          case rel => exact ⟨k + 1, by omega, by go_num, by rw [HS.out, ← Bool.and_assoc, HCB.out]; rfl, HN.out.1, HN.out.2⟩
          case measure => simp [intOf]; omega
        · by_cases hx0 : x ≥ 0
          · have hdx : decide (x ≥ 0) = true := decide_eq_true hx0
            by_cases hx1 : x < nd
            · have hdy : decide (x < nd) = true := decide_eq_true hx1
              have HDX := hid hdx
              have HDY := hid hdy
              go_wp2_with fail
              go_roundw
              case rel => exact ⟨k + 1, by omega, by go_num, by rw [HS.out, ← Bool.and_assoc, HCB.out, HDX.out, HDY.out, HD3.out]; rfl, HN.out.1, HN.out.2⟩
              case measure => simp [intOf]; omega
            · have hdy : decide (x < nd) = false := decide_eq_false hx1
              have HDX := hid hdx
              have HDY := hid hdy
              go_wp2_with fail
              go_roundw
              case rel => exact ⟨k + 1, by omega, by go_num, by rw [HS.out, ← Bool.and_assoc, HCB.out, HDX.out, HDY.out]; rfl, HN.out.1, HN.out.2⟩
              case measure => simp [intOf]; omega
          · have hdx : decide (x ≥ 0) = false := decide_eq_false hx0
            have HDX := hid hdx
            go_wp2_with fail
            go_roundw
            case rel => exact ⟨k + 1, by omega, by go_num, by rw [HS.out, ← Bool.and_assoc, HCB.out, HDX.out]; rfl, HN.out.1, HN.out.2⟩
            case measure => simp [intOf]; omega
      · obtain rfl : k = l.length := by omega
        have hd1 : decide ((l.length : Int) < (l.length : Int)) = false := decide_eq_false (by omega)
        have HF := hid (show checkE (checkB ⟨id, l⟩ nd) = checkE (base && okTo nd (l.take l.length)) by rw [HC.out, List.take_length])
        generalize (base && okTo nd (l.take l.length)) = cb at *
        have HBel := hid hbel
        clear hbel htab
        cases cb
        · go_wp2_with fail
          go_ret
          rw [HF.out]
          exact ⟨rfl, HBel.out⟩
        · go_wp2_with fail
          go_ret
          rw [HF.out]
          exact ⟨rfl, HBel.out⟩
end
end Go.Proofs.YtbahjinlcbjikaaGreat

/-! Package net, on: Luck, Send of what is not late. -/
namespace Go.Proofs.YtbahjinlcbjikaaGreat
open Go.RowKit

section
variable {W : World} {N : Nat} {lv tv : Value}
theorem OwnI.form {w : World} {base : Nat} {t : TypeId} {v : Value} {l : List Int} (h : OwnI w base t v l) : (v = .slice none 0 0 ∧ l = []) ∨ ∃ g c, v = .slice (some ⟨g, 0, none⟩) l.length c := by
  rcases h.2 with ⟨e, h0⟩ | ⟨g, cap, cur, e, _⟩
  · exact .inl ⟨e, List.eq_nil_of_length_eq_zero h0⟩
  · exact .inr ⟨g, cap, e⟩

set_option maxRecDepth 100000 in
set_option maxHeartbeats 1600000 in
theorem row_put (lv : Value) (l m : List Int) (v : Value) (h : Blk W N #[lv, tv, .bool true] 64) (ho : OwnI W 0 3 lv l) (hne : lv.ownBlock ≠ some N) (hv : Is W v m) (hl : (l.length + m.length) * 8 ≤ 140737488355328) :
    Calls Tryz.prog 52 #[.pointer (some ⟨N, 0, none⟩), v] W fun e w' => (∃ x, e = .returned x) ∧ ∃ lv', Blk w' N #[lv', tv, .bool true] 64 ∧ OwnI w' 0 3 lv' (l ++ m) ∧ (∀ k, lv'.ownBlock = some k → lv.ownBlock = some k ∨ W.heap.size ≤ k) ∧ Ext (fun b => b = N ∨ lv.ownBlock = some b) W w' := by
  obtain ⟨i0, hi, hz0, hz1, hz2⟩ := info_parts info_int
  obtain ⟨lv', w1, hr, h1, h2, h3⟩ := run_appendI (P := Tryz.prog) Tryz.underlying22 hi hz0 hz1 hz2 22 ho hv hl (Nat.zero_le _)
  have c0 := h.cell (o := 0) rfl
  have hx : Ext (fun b => b = N ∨ lv.ownBlock = some b) W w1 := (Ext.refl _ W).grown h2 (fun k e => .inl (.inr e))
  have k1 : Blk w1 N #[lv, tv, .bool true] 64 := h.ext ((Ext.refl (fun b => lv.ownBlock = some b) W).grown h2 (fun k e => .inl e)) hne
  have hN1 : lv'.ownBlock ≠ some N := fun e => (h3 N e).elim hne (fun e => by have := h.lt; omega)
  have c1 := k1.cell (o := 0) rfl
  have f1 := k1.free 0
  have HF := hid (And.intro (k1.set (o := 0) lv') (And.intro ((OwnI.ext h1 ((Ext.refl (fun b => b = N) w1).setCell (a := ⟨N, 0, none⟩) (.inl rfl) lv') (fun k hk e => by subst e; exact hN1 hk)) : OwnI (w1.setCell ⟨N, 0, none⟩ lv') 0 3 lv' (l ++ m)) (And.intro h3 (hx.setCell (a := ⟨N, 0, none⟩) (.inl (.inl rfl)) lv'))))
  obtain ⟨va, vc, hvf⟩ : ∃ a c, v = .slice a m.length c := by obtain ⟨a, c, e, _⟩ := hv; exact ⟨a, c, e⟩
  have hl1 : ∃ a n c, lv = .slice a n c := by
    rcases ho.form with ⟨e, _⟩ | ⟨g, c, e⟩
    · exact ⟨_, _, _, e⟩
    · exact ⟨_, _, _, e⟩
  have hl2 : ∃ a n c, lv' = .slice a n c := by
    rcases h1.form with ⟨e, _⟩ | ⟨g, c, e⟩
    · exact ⟨_, _, _, e⟩
    · exact ⟨_, _, _, e⟩
  obtain ⟨a1, n1, q1, rfl⟩ := hl1
  obtain ⟨a2, n2, q2, rfl⟩ := hl2
  subst hvf
  clear hx k1 hN1 hv ho h h1 h2 h3 hi hz0 hz1 hz2 hne hl
  go_enter Tryz.func52, Tryz.ntmps52
  go_wp2_with (at_builtin; refine wpList_val rfl (exec_append rfl hr) ?_)
  go_end0
  refine ⟨⟨_, rfl⟩, _, ?_, HF.out.2.1, HF.out.2.2.1, HF.out.2.2.2⟩
  simpa using HF.out.1

set_option maxRecDepth 100000 in
set_option maxHeartbeats 1600000 in
theorem net_Luck (l m : List Int) (v : Value) (h : Blk W N #[lv, tv, .bool true] 64) (ho : OwnI W 0 3 lv l) (hne : lv.ownBlock ≠ some N) (hv : Is W v m) (hl : (l.length + m.length) * 8 ≤ 140737488355328) :
    Calls Tryz.prog 27 #[.pointer (some ⟨N, 0, none⟩), v] W fun e w' => (∃ x, e = .returned x) ∧ ∃ lv', Blk w' N #[lv', tv, .bool true] 64 ∧ OwnI w' 0 3 lv' (l ++ m) ∧ (∀ k, lv'.ownBlock = some k → lv.ownBlock = some k ∨ W.heap.size ≤ k) ∧ Ext (fun b => b = N ∨ lv.ownBlock = some b) W w' := by
  obtain ⟨va, vc, hvf⟩ : ∃ a c, v = .slice a m.length c := by obtain ⟨a, c, e, _⟩ := hv; exact ⟨a, c, e⟩
  have HP := hid (row_put lv l m v h ho hne hv hl)
  subst hvf
  have HN := hid (net_none h)
  clear h ho hne hv hl
  go_enter Tryz.func27, Tryz.ntmps27
  go_wp2_with fail
  refine HN.out.mono ?_
  rintro e Wx ⟨rfl, hw⟩
  rw [hw]
  clear hw Wx
  go_wp2_with fail
  refine HP.out.mono ?_
  rintro e w' ⟨⟨x, rfl⟩, hp⟩
  have HH := hid hp
  clear hp
  go_wp2_with fail
  go_end0
  exact ⟨⟨_, rfl⟩, HH.out⟩

/-- The first of what waits; 0 where nothing does. -/
def firstI (l : List Int) : Int := match l with
  | [] => 0
  | x :: _ => x
set_option maxRecDepth 100000 in
set_option maxHeartbeats 1600000 in
theorem row_take (lv : Value) (l : List Int) (h : Blk W N #[lv, tv, .bool true] 64) (ho : OwnI W 0 3 lv l) (hne : lv.ownBlock ≠ some N) :
    Calls Tryz.prog 75 #[.pointer (some ⟨N, 0, none⟩), .int .i64 0] W fun e w' => (∃ b, e = .returned (.tuple #[.int .i64 (firstI l), .bool b])) ∧ ∃ lv', Blk w' N #[lv', tv, .bool true] 64 ∧ OwnI w' 0 3 lv' l.tail ∧ lv'.ownBlock = lv.ownBlock ∧ Ext (fun b => b = N ∨ lv.ownBlock = some b) W w' := by
  have c0 := h.cell (o := 0) rfl
  cases l with
  | nil =>
    obtain ⟨a1, q1, rfl⟩ : ∃ a q, lv = .slice a 0 q := by
      rcases ho.form with ⟨e, _⟩ | ⟨g, c, e⟩
      · exact ⟨_, _, e⟩
      · exact ⟨_, _, e⟩
    have HH := hid (And.intro h ho)
    clear h ho hne
    go_enter Tryz.func75, Tryz.ntmps75
    go_wp2_with fail
    go_ret2
    exact ⟨⟨_, rfl⟩, _, HH.out.1, HH.out.2, rfl, Ext.refl _ _⟩
  | cons z l =>
    obtain ⟨g, cap, rfl⟩ : ∃ g c, lv = .slice (some ⟨g, 0, none⟩) (l.length + 1) c := by
      rcases ho.form with ⟨_, e⟩ | ⟨g, c, e⟩
      · cases e
      · exact ⟨g, c, e⟩
    have hcz := ho.cell (i := 0) (z := z) rfl
    have HD := hid (delete_int 0 g l.length cap z l ho rfl (Nat.zero_le _))
    have hgN : N ≠ g := fun e => hne (by rw [e]; rfl)
    have HH := hid h
    have hlt : (0 : Int) < (l.length : Int) + 1 := by omega
    clear h ho hne
    go_enter Tryz.func75, Tryz.ntmps75
    go_wp2_with fail
    refine HD.out.mono ?_
    rintro e w2 ⟨rfl, o2, x2⟩
    have k2 := HH.out.ext x2 hgN
    have c2 := k2.cell (o := 0) rfl
    have f2 := k2.free 0
    have HF := hid (And.intro (k2.set (o := 0) (.slice (some ⟨g, 0, none⟩) l.length cap)) (And.intro ((OwnI.ext o2 ((Ext.refl (fun b => b = N) w2).setCell (a := ⟨N, 0, none⟩) (.inl rfl) (.slice (some ⟨g, 0, none⟩) l.length cap)) (fun k hk e => by subst e; cases hk; exact hgN rfl)) : OwnI (w2.setCell ⟨N, 0, none⟩ (.slice (some ⟨g, 0, none⟩) l.length cap)) 0 3 (.slice (some ⟨g, 0, none⟩) l.length cap) l) ((x2.mono (fun b _ e => .inr (by rw [e]; rfl)) : Ext (fun b => b = N ∨ (Value.slice (some ⟨g, 0, none⟩) (l.length + 1) cap).ownBlock = some b) W w2).setCell (a := ⟨N, 0, none⟩) (.inl (.inl rfl)) (.slice (some ⟨g, 0, none⟩) l.length cap))))
    clear HD k2 o2 x2 hcz
    go_wp2_with fail
    go_ret2
    exact ⟨⟨_, rfl⟩, _, by simpa using HF.out.1, HF.out.2.1, rfl, HF.out.2.2⟩
end
end Go.Proofs.YtbahjinlcbjikaaGreat

/-! Package net, on: Send of what is not late. -/
namespace Go.Proofs.YtbahjinlcbjikaaGreat
open Go.RowKit

theorem fate_first (s : LkS) : s.fate = mod5 (firstI s.luck) := by
  unfold LkS.fate firstI
  cases s.luck with
  | nil => rfl
  | cons x l => rfl
theorem mod5_nums (x : Int) : ∃ c, mod5 x = c ∧ (c = 0 ∨ c = 1 ∨ c = 2 ∨ c = 3 ∨ c = 4) ∧ wrap64 (x.tmod 5 + 5) = x.tmod 5 + 5 ∧ (x.tmod 5 + 5).tmod 5 = c := by
  have h1 := Int.lt_tmod_of_pos x (show (0 : Int) < 5 by omega)
  have h2 := Int.tmod_lt_of_pos x (show (0 : Int) < 5 by omega)
  have hb := mod5_bound x
  refine ⟨_, rfl, by omega, ?_, rfl⟩
  generalize x.tmod 5 = t at *
  unfold wrap64
  omega
theorem fate_eq (w : World) : (binOp .neq 144 (.agg #[.int .i64 0, .bool false]) (.agg #[.int .i64 0, .bool false])).run Tryz.prog w = .ok (.bool false) w := by kernel_rfl
theorem fate_1 (w : World) : (binOp .neq 144 (.agg #[.int .i64 1, .bool true]) (.agg #[.int .i64 0, .bool false])).run Tryz.prog w = .ok (.bool true) w := by kernel_rfl
theorem fate_2 (w : World) : (binOp .neq 144 (.agg #[.int .i64 1, .bool false]) (.agg #[.int .i64 0, .bool false])).run Tryz.prog w = .ok (.bool true) w := by kernel_rfl
theorem fate_3 (w : World) : (binOp .neq 144 (.agg #[.int .i64 2, .bool true]) (.agg #[.int .i64 0, .bool false])).run Tryz.prog w = .ok (.bool true) w := by kernel_rfl

section
variable {W : World} {N : Nat} {lv tv : Value}
theorem send_end {w w2 : World} {lv' : Value} {l : List Int} (h1 : Blk w N #[lv', tv, .bool true] 64) (h2 : OwnI w 0 3 lv' l) (h3 : lv'.ownBlock = lv.ownBlock) (h4 : Ext (fun b => b = N ∨ lv.ownBlock = some b) W w) (hb : Below w.heap.size w w2) :
    Blk w2 N #[lv', tv, .bool true] 64 ∧ OwnI w2 0 3 lv' l ∧ lv'.ownBlock = lv.ownBlock ∧ Ext (fun b => b = N ∨ lv.ownBlock = some b) W w2 :=
  ⟨h1.keep hb, OwnI.ext (fp := nofp) h2 (Ext.ofBelow hb) (fun _ _ h => h), h3, h4.then hb⟩
set_option maxRecDepth 100000 in
set_option maxHeartbeats 6400000 in
theorem net_Send (l : List Int) (to : Int) (ab : Option Addr) (nb cb : Nat) (h : Blk W N #[lv, tv, .bool true] 64) (ho : OwnI W 0 3 lv l) (hne : lv.ownBlock ≠ some N) (hf : mod5 (firstI l) ≠ 3) :
    Calls Tryz.prog 46 #[.pointer (some ⟨N, 0, none⟩), .int .i64 to, .slice ab nb cb] W fun e w' => e = .returned (.tuple #[.int .i64 (timesF (mod5 (firstI l)) : Int), .bool (replyF (mod5 (firstI l)))]) ∧ ∃ lv', Blk w' N #[lv', tv, .bool true] 64 ∧ OwnI w' 0 3 lv' l.tail ∧ lv'.ownBlock = lv.ownBlock ∧ Ext (fun b => b = N ∨ lv.ownBlock = some b) W w' := by
  have HP := hid (row_take lv l h ho hne)
  have HN := hid (net_none h)
  obtain ⟨c, hc, hcs, hw, hm⟩ := mod5_nums (firstI l)
  rw [hc] at hf ⊢
  generalize firstI l = z at *
  have q0 := fate_eq
  have q1 := fate_1
  have q2 := fate_2
  have q3 := fate_3
  clear h ho hne hc
  rcases hcs with rfl | rfl | rfl | rfl | rfl
  case inr.inr.inr.inl => exact absurd rfl hf
  all_goals
    clear hf
    go_enter Tryz.func46, Tryz.ntmps46
    go_wp2_with fail
    refine HN.out.mono ?_
    rintro e Wx ⟨rfl, hw9⟩
    rw [hw9]
    clear hw9 Wx
    go_wp2_with fail
    refine HP.out.mono ?_
    rintro e w' ⟨⟨x, rfl⟩, hp⟩
    have HH := hid hp
    clear hp
    go_wp2_with fail
    try (go_quiet (fail); go_wp2_with fail)
    go_ret2
    obtain ⟨lv', h1, h2, h3, h4⟩ := HH.out
    refine ⟨rfl, lv', ?_⟩
    first
      | exact send_end h1 h2 h3 h4 (((Below.refl _ _).alloc (Nat.le_refl _) _).alloc (by simp) _)
      | exact send_end h1 h2 h3 h4 (below_drewN (((Below.refl _ _).alloc (Nat.le_refl _) _).alloc (by simp) _) _)
end
end Go.Proofs.YtbahjinlcbjikaaGreat

/-! Plain laws: numbers and frames, there and back. -/
namespace Go.Proofs.YtbahjinlcbjikaaGreat
open Go.RowKit

theorem getRep_put (e tl : Nat) (sl : Bool) (l : List UInt8) (h : tellsB e tl l.length = true) : getRep (putRepB e tl sl l) = some (e, tl, sl, l) := by
  have h0 := of_decide_eq_true h
  have hb : bodyF (frameB 2 (repB e tl (if sl then 1 else 0) l)) 2 4 = some (repB e tl (if sl then 1 else 0) l) := bodyF_frame 2 4 _ (by omega) (by simp [repB, lowB_length]; omega) (by simp [repB, lowB_length]; omega)
  unfold putRepB
  rw [if_pos h]
  unfold getRep
  rw [hb]
  have e1 : (repB e tl (if sl then 1 else 0) l).take 1 = lowB (e : Int) 1 := rfl
  have e2 : ((repB e tl (if sl then 1 else 0) l).drop 1).take 2 = lowB (tl : Int) 2 := rfl
  have e3 : ((repB e tl (if sl then 1 else 0) l).drop 3).take 1 = lowB ((if sl then 1 else 0 : Nat) : Int) 1 := by cases sl <;> rfl
  have e4 : (repB e tl (if sl then 1 else 0) l).drop 4 = l := rfl
  simp only [e1, e2, e3, e4]
  rw [numOf_low' (n := e) (by omega), numOf_low' (n := tl) (by omega), numOf_low' (n := if sl then 1 else 0) (by cases sl <;> simp)]
  rw [if_pos ⟨by cases sl <;> simp, h⟩]
  cases sl <;> rfl
theorem getReq_put (k lo po : Nat) (l : List UInt8) (h : rightB k lo po l.length = true) : getReq (frameB 1 (reqB k lo po l)) = some (k, lo, po, l) := by
  have h0 := of_decide_eq_true h
  have hb : bodyF (frameB 1 (reqB k lo po l)) 1 9 = some (reqB k lo po l) := bodyF_frame 1 9 _ (by omega) (by simp [reqB, lowB_length]; omega) (by simp [reqB, lowB_length]; omega)
  unfold getReq
  rw [hb]
  have e1 : (reqB k lo po l).take 1 = lowB (k : Int) 1 := rfl
  have e2 : ((reqB k lo po l).drop 1).take 6 = lowB (lo : Int) 6 := rfl
  have e3 : ((reqB k lo po l).drop 7).take 2 = lowB (po : Int) 2 := rfl
  have e4 : (reqB k lo po l).drop 9 = l := rfl
  simp only [e1, e2, e3, e4]
  rw [numOf_low' (by omega), numOf_low' (by omega), numOf_low' (by omega)]
  rw [if_pos h]
end Go.Proofs.YtbahjinlcbjikaaGreat
