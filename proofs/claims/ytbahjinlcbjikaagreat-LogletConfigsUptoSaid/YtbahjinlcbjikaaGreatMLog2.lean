import Derived.Test.YtbahjinlcbjikaaGreatMap
import Derived.Test.YtbahjinlcbjikaaGreatNet
/-! A map with int keys as a function from keys to values. No program is named here. -/
namespace Go.Proofs.YtbahjinlcbjikaaGreat
open Go.RowKit

theorem mget_mput {K : Type} [DecidableEq K] (es : List (Ent K)) (k j : K) (v : Value) (c : Nat) : mget (mput es k v c) j = if j = k then some v else mget es j := by
  unfold mput
  split
  · rename_i h
    have hc : ((fun e : Ent K => decide (j = e.k)) ∘ (fun e : Ent K => if k = e.k then { e with v := v } else e)) = (fun e => decide (j = e.k)) := by
      funext e
      simp only [Function.comp]
      split <;> rfl
    unfold mget
    rw [List.find?_map, hc]
    cases hf : es.find? (fun e => decide (j = e.k)) with
    | none =>
      rw [List.find?_eq_none] at hf
      have hne : j ≠ k := by
        rintro rfl
        obtain ⟨e, he, h1⟩ := List.any_eq_true.1 h
        exact hf e he h1
      rw [if_neg hne]
      rfl
    | some e =>
      have he : j = e.k := by simpa using List.find?_some hf
      by_cases hyx : j = k
      · rw [if_pos hyx]
        subst hyx
        simp [he]
      · rw [if_neg hyx]
        have : k ≠ e.k := fun h => hyx (he.trans h.symm)
        simp [this]
  · rename_i h
    unfold mget
    rw [List.find?_append]
    by_cases hyx : j = k
    · rw [if_pos hyx]
      subst hyx
      have hn : es.find? (fun e => decide (j = e.k)) = none := by
        rw [List.find?_eq_none]
        intro e he hd
        exact h (List.any_eq_true.2 ⟨e, he, hd⟩)
      rw [hn]
      simp
    · rw [if_neg hyx]
      have : [({ k := k, v := v, born := c } : Ent K)].find? (fun e : Ent K => decide (j = e.k)) = none := by simp [hyx]
      rw [this, Option.or_none]

def TabAt (W : World) (m : Nat) (z : Value) (f : Int → Value) : Prop := ∃ es c, MapAt W m encI es c ∧ ∀ k, (mget es k).getD z = f k
section
variable {P : Program} {W W' : World} {m : Nat} {z : Value} {f : Int → Value} {M T E : TypeId}
theorem TabAt.new (W : World) (z : Value) : TabAt (W.alloc (.map #[] 0)) W.heap.size z (fun _ => z) := ⟨[], 0, MapAt.new W encI, fun _ => rfl⟩
theorem TabAt.ext {fp : Nat → Prop} (h : TabAt W m z f) (he : Ext fp W W') (hn : ¬ fp m) : TabAt W' m z f := by
  obtain ⟨es, c, h1, h2⟩ := h
  exact ⟨es, c, h1.ext he hn, h2⟩
theorem TabAt.keep (h : TabAt W m z f) (hb : Below W.heap.size W W') : TabAt W' m z f := h.ext (fp := nofp) (Ext.ofBelow hb) (fun h => h)
theorem TabAt.of (h : TabAt W m z f) {g : Int → Value} (he : ∀ k, f k = g k) : TabAt W m z g := by
  obtain ⟨es, c, h1, h2⟩ := h
  exact ⟨es, c, h1, fun k => (h2 k).trans (he k)⟩
theorem TabAt.lt (h : TabAt W m z f) : m < W.heap.size := by
  obtain ⟨es, c, h1, _⟩ := h
  exact h1.lt
theorem TabAt.look (h : TabAt W m z f) (hM : P.underlying M = some (.map T E)) (hT : P.underlying T = some (.int .i64)) (hz : ∀ w, (zeroValue E).run P w = .ok z w) (k : Int) :
    (Instr.lookup M (.map (some m)) (.int .i64 k) false).run P W = .ok (f k) W := by
  obtain ⟨es, c, h1, h2⟩ := h
  have := run_lookup_raw (P := P) (keyLaw_int hT) h1 hM k hz false
  rw [← h2 k]
  exact this
theorem TabAt.put (h : TabAt W m z f) (hM : P.underlying M = some (.map T E)) (hT : P.underlying T = some (.int .i64)) (k : Int) (v : Value) :
    ∃ W', (Instr.mapUpdate M (.map (some m)) (.int .i64 k) v).run P W = .ok () W' ∧ TabAt W' m z (fun j => if j = k then v else f j) ∧ Ext (fun b => b = m) W W' := by
  obtain ⟨es, c, h1, h2⟩ := h
  obtain ⟨W', q1, q2, q3⟩ := run_update_raw (P := P) (keyLaw_int hT) h1 hM k v
  refine ⟨W', q1, ⟨_, _, q2, fun j => ?_⟩, q3⟩
  rw [mget_mput]
  show _ = if j = k then v else f j
  by_cases hj : j = k
  · rw [if_pos hj, if_pos hj]; rfl
  · rw [if_neg hj, if_neg hj]; exact h2 j
end
end Go.Proofs.YtbahjinlcbjikaaGreat

/-! Package loglet: Quorum, Check. -/
namespace Go.Proofs.YtbahjinlcbjikaaGreat
open Go.RowKit

section
variable {W : World}
set_option maxRecDepth 100000 in
set_option maxHeartbeats 800000 in
theorem log_Quorum (id : Int) (a : Option Addr) (n c : Nat) (hn : n ≤ 9223372036854775806) :
    Calls Tryz.prog 9 #[.agg #[.int .i64 id, .slice a n c]] W fun e w' => e = .returned (.int .i64 ((n / 2 + 1 : Nat) : Int)) ∧ Below W.heap.size W w' := by
  have h1 : (n : Int) / 2 = ((n / 2 : Nat) : Int) := by omega
  have h2 : Int.tdiv (n : Int) 2 = ((n / 2 : Nat) : Int) := by rw [Int.tdiv_eq_ediv_of_nonneg (by omega)]; exact h1
  have h5 : n / 2 ≤ 4611686018427387903 := by omega
  generalize n / 2 = q at *
  have h3 : wrap64 ((q : Int) + 1) = (q : Int) + 1 := by unfold wrap64; omega
  clear hn
  go_enter Tryz.func9, Tryz.ntmps9
  go_wp2_with fail
  go_ret
  exact ⟨by simp, (Below.refl _ _).alloc (Nat.le_refl _) _⟩

def okTo (nd : Int) (l : List Int) : Bool := decide ((∀ x ∈ l, 0 ≤ x ∧ x < nd) ∧ l.Nodup)
theorem okTo_succ {nd : Int} {l : List Int} {k : Nat} {x : Int} (hx : l[k]? = some x) : okTo nd (l.take (k + 1)) = (okTo nd (l.take k) && (decide (x ≥ 0) && (decide (x < nd) && !decide (x ∈ l.take k)))) := by
  have hlt : k < l.length := (List.getElem?_eq_some_iff.1 hx).1
  have ht : l.take (k + 1) = l.take k ++ [x] := by
    rw [List.take_add_one, hx]; rfl
  rw [ht]
  unfold okTo
  rw [Bool.eq_iff_iff]
  simp only [List.nodup_append, List.mem_append, List.mem_singleton, Bool.and_eq_true, decide_eq_true_eq, Bool.not_eq_true', decide_eq_false_iff_not]
  constructor
  · rintro ⟨h1, h2, _, h3⟩
    have hb := h1 x (.inr rfl)
    exact ⟨⟨fun y hy => h1 y (.inl hy), h2⟩, hb.1, hb.2, fun hm => h3 x hm x rfl rfl⟩
  · rintro ⟨⟨h1, h2⟩, h3, h4, h5⟩
    refine ⟨fun y hy => ?_, h2, by simp, fun y hy z hz e => ?_⟩
    · rcases hy with hy | rfl
      · exact h1 y hy
      · exact ⟨h3, h4⟩
    · subst hz
      subst e
      exact h5 hy
theorem okTo_nil (nd : Int) : okTo nd [] = true := by simp [okTo]
theorem mem_take_succ {l : List Int} {k : Nat} {x y : Int} (hx : l[k]? = some x) : y ∈ l.take (k + 1) ↔ (y = x ∨ y ∈ l.take k) := by
  rw [List.take_add_one, hx]
  simp only [Option.toList_some, List.mem_append, List.mem_singleton]
  exact or_comm

def checkE (b : Bool) : Int := if b then 0 else 1
theorem check_base (id : Int) (l : List Int) (nd : Int) : checkB ⟨id, l⟩ nd = (decide (0 ≤ id ∧ id < 281474976710656 ∧ 1 ≤ l.length ∧ l.length ≤ 9) && okTo nd l) := by
  unfold checkB okTo
  rw [Bool.eq_iff_iff]
  simp only [Bool.and_eq_true, decide_eq_true_eq]
  constructor
  · rintro ⟨h1, h2, h3, h4, h5, h6⟩; exact ⟨⟨h1, h2, h3, h4⟩, h5, h6⟩
  · rintro ⟨⟨h1, h2, h3, h4⟩, h5, h6⟩; exact ⟨h1, h2, h3, h4, h5, h6⟩
/-- What the test of the id and of the nodes' number gives, in the walk's spelling. -/
theorem check_cases (id : Int) (n : Nat) {base : Bool} (h : decide (0 ≤ id ∧ id < 281474976710656 ∧ 1 ≤ n ∧ n ≤ 9) = base) :
    (decide (id ≥ 0) = false ∧ base = false) ∨ (decide (id ≥ 0) = true ∧ decide (id < 281474976710656) = false ∧ base = false) ∨
    (decide (id ≥ 0) = true ∧ decide (id < 281474976710656) = true ∧ decide ((n : Int) ≥ 1) = false ∧ base = false) ∨
    (decide (id ≥ 0) = true ∧ decide (id < 281474976710656) = true ∧ decide ((n : Int) ≥ 1) = true ∧ decide ((n : Int) ≤ 9) = base) := by
  subst h
  by_cases h1 : 0 ≤ id
  · by_cases h2 : id < 281474976710656
    · by_cases h3 : 1 ≤ n
      · refine .inr (.inr (.inr ⟨decide_eq_true (by omega), decide_eq_true (by omega), decide_eq_true (by omega), ?_⟩))
        rw [Bool.eq_iff_iff]
        simp only [decide_eq_true_eq]
        omega
      · exact .inr (.inr (.inl ⟨decide_eq_true (by omega), decide_eq_true (by omega), decide_eq_false (by omega), decide_eq_false (by omega)⟩))
    · exact .inr (.inl ⟨decide_eq_true (by omega), decide_eq_false (by omega), decide_eq_false (by omega)⟩)
  · exact .inl ⟨decide_eq_false (by omega), decide_eq_false (by omega)⟩
end
end Go.Proofs.YtbahjinlcbjikaaGreat

/-! Package loglet: Check. -/
namespace Go.Proofs.YtbahjinlcbjikaaGreat
open Go.RowKit

section
variable {W : World}
set_option maxRecDepth 100000 in
set_option maxHeartbeats 12800000 in
theorem log_Check (id : Int) (v : Value) (l : List Int) (nd : Int) (hv : Is W v l) (hl : l.length ≤ 9223372036854775806) :
    Calls Tryz.prog 11 #[.agg #[.int .i64 id, v], .int .i64 nd] W fun e w' => e = .returned (.int .i64 (checkE (checkB ⟨id, l⟩ nd))) ∧ Below W.heap.size W w' := by
  obtain ⟨base, hbase⟩ : ∃ b, (decide (0 ≤ id ∧ id < 281474976710656 ∧ 1 ≤ l.length ∧ l.length ≤ 9)) = b := ⟨_, rfl⟩
  have hchk : checkB ⟨id, l⟩ nd = (base && okTo nd l) := by rw [check_base, hbase]
  have HC := hid hchk
  have HV := hid hv
  obtain ⟨a, c, hav⟩ : ∃ a c, v = .slice a l.length c := by obtain ⟨a, c, e, _⟩ := hv; exact ⟨a, c, e⟩
  subst hav
  have htab0 := TabAt.new (W.alloc (.cells #[.int .i64 id, .slice a l.length c] 24)) (.bool false)
  rw [World.size_alloc] at htab0
  have HT := hid htab0
  have hmm := @run_makeMap Tryz.prog
  have hcs := check_cases id l.length hbase
  clear hv hchk hbase htab0
  rcases hcs with ⟨e1, hb⟩ | ⟨e1, e2, hb⟩ | ⟨e1, e2, e3, hb⟩ | ⟨e1, e2, e3, hb⟩
  all_goals
    go_enter Tryz.func11, Tryz.ntmps11
    go_wp2_with fail
    clear e1
    try clear e2
    try clear e3
    have Hb := hid hb
    clear hb hmm
    go_loopw [5, 33] (fun ok i wr => ∃ k : Nat, k ≤ l.length ∧ i = .int .i64 (k : Int) ∧ ok = .bool (base && okTo nd (l.take k)) ∧ TabAt wr (W.heap.size + 1) (.bool false) (fun y => .bool (decide (y ∈ l.take k))) ∧ Below W.heap.size W wr) (fun _ i _ => l.length - (intOf i).toNat)
    case atStart =>
      refine ⟨0, Nat.zero_le _, rfl, by rw [List.take_zero, okTo_nil, Bool.and_true] <;> first | exact congrArg Value.bool Hb.out.symm | rfl, ?_, ((Below.refl _ W).alloc (Nat.le_refl _) _).alloc (by simp) _⟩
      have := HT.out
      simpa using this
    case round =>
      obtain ⟨k, hk, rfl, rfl, htab, hbel⟩ := hrel
      by_cases hlt : k < l.length
      · obtain ⟨x, hx⟩ : ∃ x, l[k]? = some x := ⟨l[k], by simp⟩
        have hd1 : decide ((k : Int) < (l.length : Int)) = true := decide_eq_true (by omega)
        obtain ⟨_, _, ea, hr⟩ := HV.out
        obtain ⟨g, o, eg, hc⟩ := hr k x hx
        injection ea with ea _ _
        rw [eg] at ea
        subst ea
        have hcell : wr.cell? ⟨g, o + k, none⟩ = some (.int .i64 x) := by rw [hbel.cell (World.block_lt_of_cell? W _ hc)]; exact hc
        have hlk := htab.look (P := Tryz.prog) Tryz.underlying93 Tryz.underlying3 (fun w => by kernel_rfl) x
        obtain ⟨w2, hup, htab2, hx2⟩ := htab.put (P := Tryz.prog) Tryz.underlying93 Tryz.underlying3 x (.bool true)
        have HN := hid (show TabAt w2 (W.heap.size + 1) (.bool false) (fun y => .bool (decide (y ∈ l.take (k + 1)))) ∧ Below W.heap.size W w2 from ⟨by
          refine htab2.of (fun y => ?_)
          show (if y = x then Value.bool true else Value.bool (decide (y ∈ l.take k))) = Value.bool (decide (y ∈ l.take (k + 1)))
          by_cases hy : y = x
          · rw [if_pos hy, decide_eq_true ((mem_take_succ hx).2 (.inl hy))]
          · rw [if_neg hy]
            congr 1
            rw [Bool.eq_iff_iff]
            simp only [decide_eq_true_eq]
            rw [mem_take_succ hx]
            exact ⟨.inr, fun h => h.resolve_left hy⟩, hbel.trans (hx2.belowOf hbel.size (fun b hb e => by have e2 : b = W.heap.size + 1 := e; omega))⟩)
        have HS := hid (okTo_succ (nd := nd) hx)
        clear hc hr eg htab htab2 hx2 hbel hx
        obtain ⟨cb, hcb⟩ : ∃ cb, (base && okTo nd (l.take k)) = cb := ⟨_, rfl⟩
        rw [hcb]
        have HCB := hid hcb
        clear hcb
        obtain ⟨d3, hd3⟩ : ∃ d, decide (x ∈ l.take k) = d := ⟨_, rfl⟩
        rw [hd3] at hlk
        have HD3 := hid hd3
        clear hd3
        cases cb
        · go_wp2_with fail
          go_roundw
          case rel => exact ⟨k + 1, by omega, by go_num, by rw [HS.out, ← Bool.and_assoc, HCB.out]; rfl, HN.out.1, HN.out.2⟩
          case measure => simp [intOf]; omega
        · by_cases hx0 : x ≥ 0
          · have hdx : decide (x ≥ 0) = true := decide_eq_true hx0
            by_cases hx1 : x < nd
            · have hdy : decide (x < nd) = true := decide_eq_true hx1
              have HDX := hid hdx
              have HDY := hid hdy
              go_wp2_with fail
              go_roundw
              case rel => exact ⟨k + 1, by omega, by go_num, by rw [HS.out, ← Bool.and_assoc, HCB.out, HDX.out, HDY.out, HD3.out]; rfl, HN.out.1, HN.out.2⟩
              case measure => simp [intOf]; omega
            · have hdy : decide (x < nd) = false := decide_eq_false hx1
              have HDX := hid hdx
              have HDY := hid hdy
              go_wp2_with fail
              go_roundw
              case rel => exact ⟨k + 1, by omega, by go_num, by rw [HS.out, ← Bool.and_assoc, HCB.out, HDX.out, HDY.out]; rfl, HN.out.1, HN.out.2⟩
              case measure => simp [intOf]; omega
          · have hdx : decide (x ≥ 0) = false := decide_eq_false hx0
            have HDX := hid hdx
            go_wp2_with fail
            go_roundw
            case rel => exact ⟨k + 1, by omega, by go_num, by rw [HS.out, ← Bool.and_assoc, HCB.out, HDX.out]; rfl, HN.out.1, HN.out.2⟩
            case measure => simp [intOf]; omega
      · obtain rfl : k = l.length := by omega
        have hd1 : decide ((l.length : Int) < (l.length : Int)) = false := decide_eq_false (by omega)
        have HF := hid (show checkE (checkB ⟨id, l⟩ nd) = checkE (base && okTo nd (l.take l.length)) by rw [HC.out, List.take_length])
        generalize (base && okTo nd (l.take l.length)) = cb at *
        have HBel := hid hbel
        clear hbel htab
        cases cb
        · go_wp2_with fail
          go_ret
          rw [HF.out]
          exact ⟨rfl, HBel.out⟩
        · go_wp2_with fail
          go_ret
          rw [HF.out]
          exact ⟨rfl, HBel.out⟩
end
end Go.Proofs.YtbahjinlcbjikaaGreat
