import Derived.Test.YtbahjinlcbjikaaGreatMQLog1
import Derived.Test.YtbahjinlcbjikaaGreatMLit
/-! Package loglet: Check. -/
namespace Go.Proofs.YtbahjinlcbjikaaGreat
open Go.RowKit

section
variable {W : World}
set_option maxRecDepth 100000 in
set_option maxHeartbeats 12800000 in
theorem log_Check (id : Int) (v : Value) (l : List Int) (nd : Int) (hv : Is W v l) (hl : l.length ≤ 9223372036854775806) :
    Calls Tryz.prog 11 #[.agg #[.int .i64 id, v], .int .i64 nd] W fun e w' => e = .returned (.int .i64 (checkE (checkB ⟨id, l⟩ nd))) ∧ Below W.heap.size W w' := by
  obtain ⟨base, hbase⟩ : ∃ b, (decide (0 ≤ id ∧ id < 281474976710656 ∧ 1 ≤ l.length ∧ l.length ≤ 9)) = b := ⟨_, rfl⟩
  have hchk : checkB ⟨id, l⟩ nd = (base && okTo nd l) := by rw [check_base, hbase]
  have HC := hid hchk
  have HV := hid hv
  obtain ⟨a, c, hav⟩ : ∃ a c, v = .slice a l.length c := by obtain ⟨a, c, e, _⟩ := hv; exact ⟨a, c, e⟩
  subst hav
  have htab0 := TabAt.new (W.alloc (.cells #[.int .i64 id, .slice a l.length c] 24)) (.bool false)
  rw [World.size_alloc] at htab0
  have HT := hid htab0
  have hmm := @run_makeMap Tryz.prog
  have hcs := check_cases id l.length hbase
  clear hv hchk hbase htab0
  rcases hcs with ⟨e1, hb⟩ | ⟨e1, e2, hb⟩ | ⟨e1, e2, e3, hb⟩ | ⟨e1, e2, e3, hb⟩
  all_goals
    go_enter Tryz.func11, Tryz.ntmps11
    go_wp2_with fail
    clear e1
    try clear e2
    try clear e3
    have Hb := hid hb
    clear hb hmm
    go_loopw [5, 33] (fun ok i wr => ∃ k : Nat, k ≤ l.length ∧ i = .int .i64 (k : Int) ∧ ok = .bool (base && okTo nd (l.take k)) ∧ TabAt wr (W.heap.size + 1) (.bool false) (fun y => .bool (decide (y ∈ l.take k))) ∧ Below W.heap.size W wr) (fun _ i _ => l.length - (intOf i).toNat)
    case atStart =>
      refine ⟨0, Nat.zero_le _, rfl, by rw [List.take_zero, okTo_nil, Bool.and_true] <;> first | exact congrArg Value.bool Hb.out.symm | rfl, ?_, ((Below.refl _ W).alloc (Nat.le_refl _) _).alloc (by simp) _⟩
      have := HT.out
      simpa using this
    case round =>
      obtain ⟨k, hk, rfl, rfl, htab, hbel⟩ := hrel
      by_cases hlt : k < l.length
      · obtain ⟨x, hx⟩ : ∃ x, l[k]? = some x := ⟨l[k], by simp⟩
        have hd1 : decide ((k : Int) < (l.length : Int)) = true := decide_eq_true (by omega)
        obtain ⟨_, _, ea, hr⟩ := HV.out
        obtain ⟨g, o, eg, hc⟩ := hr k x hx
        injection ea with ea _ _
        rw [eg] at ea
        subst ea
        have hcell : wr.cell? ⟨g, o + k, none⟩ = some (.int .i64 x) := by rw [hbel.cell (World.block_lt_of_cell? W _ hc)]; exact hc
        have hlk := htab.look (P := Tryz.prog) Tryz.underlying93 Tryz.underlying3 (fun w => by kernel_rfl) x
        obtain ⟨w2, hup, htab2, hx2⟩ := htab.put (P := Tryz.prog) Tryz.underlying93 Tryz.underlying3 x (.bool true)
        have HN := hid (show TabAt w2 (W.heap.size + 1) (.bool false) (fun y => .bool (decide (y ∈ l.take (k + 1)))) ∧ Below W.heap.size W w2 from ⟨by
          refine htab2.of (fun y => ?_)
          show (if y = x then Value.bool true else Value.bool (decide (y ∈ l.take k))) = Value.bool (decide (y ∈ l.take (k + 1)))
          by_cases hy : y = x
          · rw [if_pos hy, decide_eq_true ((mem_take_succ hx).2 (.inl hy))]
          · rw [if_neg hy]
            congr 1
            rw [Bool.eq_iff_iff]
            simp only [decide_eq_true_eq]
            rw [mem_take_succ hx]
            exact ⟨.inr, fun h => h.resolve_left hy⟩, hbel.trans (hx2.belowOf hbel.size (fun b hb e => by have e2 : b = W.heap.size + 1 := e; omega))⟩)
        have HS := hid (okTo_succ (nd := nd) hx)
        clear hc hr eg htab htab2 hx2 hbel hx
        obtain ⟨cb, hcb⟩ : ∃ cb, (base && okTo nd (l.take k)) = cb := ⟨_, rfl⟩
        rw [hcb]
        have HCB := hid hcb
        clear hcb
        obtain ⟨d3, hd3⟩ : ∃ d, decide (x ∈ l.take k) = d := ⟨_, rfl⟩
        rw [hd3] at hlk
        have HD3 := hid hd3
        clear hd3
        cases cb
        · go_wp2_with fail
          go_roundw
          case rel => exact ⟨k + 1, by omega, by go_num, by rw [HS.out, ← Bool.and_assoc, HCB.out]; rfl, HN.out.1, HN.out.2⟩
          case measure => simp [intOf]; omega
        · by_cases hx0 : x ≥ 0
          · have hdx : decide (x ≥ 0) = true := decide_eq_true hx0
            by_cases hx1 : x < nd
            · have hdy : decide (x < nd) = true := decide_eq_true hx1
              have HDX := hid hdx
              have HDY := hid hdy
              go_wp2_with fail
              go_roundw
              case rel => exact ⟨k + 1, by omega, by go_num, by rw [HS.out, ← Bool.and_assoc, HCB.out, HDX.out, HDY.out, HD3.out]; rfl, HN.out.1, HN.out.2⟩
              case measure => simp [intOf]; omega
            · have hdy : decide (x < nd) = false := decide_eq_false hx1
              have HDX := hid hdx
              have HDY := hid hdy
              go_wp2_with fail
              go_roundw
              case rel => exact ⟨k + 1, by omega, by go_num, by rw [HS.out, ← Bool.and_assoc, HCB.out, HDX.out, HDY.out]; rfl, HN.out.1, HN.out.2⟩
              case measure => simp [intOf]; omega
          · have hdx : decide (x ≥ 0) = false := decide_eq_false hx0
            have HDX := hid hdx
            go_wp2_with fail
            go_roundw
            case rel => exact ⟨k + 1, by omega, by go_num, by rw [HS.out, ← Bool.and_assoc, HCB.out, HDX.out]; rfl, HN.out.1, HN.out.2⟩
            case measure => simp [intOf]; omega
      · obtain rfl : k = l.length := by omega
        have hd1 : decide ((l.length : Int) < (l.length : Int)) = false := decide_eq_false (by omega)
        have HF := hid (show checkE (checkB ⟨id, l⟩ nd) = checkE (base && okTo nd (l.take l.length)) by rw [HC.out, List.take_length])
        generalize (base && okTo nd (l.take l.length)) = cb at *
        have HBel := hid hbel
        clear hbel htab
        cases cb
        · go_wp2_with fail
          go_ret
          rw [HF.out]
          exact ⟨rfl, HBel.out⟩
        · go_wp2_with fail
          go_ret
          rw [HF.out]
          exact ⟨rfl, HBel.out⟩
end
end Go.Proofs.YtbahjinlcbjikaaGreat

/-! Plain laws: numbers and frames, there and back. -/
namespace Go.Proofs.YtbahjinlcbjikaaGreat
open Go.RowKit

theorem getRep_put (e tl : Nat) (sl : Bool) (l : List UInt8) (h : tellsB e tl l.length = true) : getRep (putRepB e tl sl l) = some (e, tl, sl, l) := by
  have h0 := of_decide_eq_true h
  have hb : bodyF (frameB 2 (repB e tl (if sl then 1 else 0) l)) 2 4 = some (repB e tl (if sl then 1 else 0) l) := bodyF_frame 2 4 _ (by omega) (by simp [repB, lowB_length]; omega) (by simp [repB, lowB_length]; omega)
  unfold putRepB
  rw [if_pos h]
  unfold getRep
  rw [hb]
  have e1 : (repB e tl (if sl then 1 else 0) l).take 1 = lowB (e : Int) 1 := rfl
  have e2 : ((repB e tl (if sl then 1 else 0) l).drop 1).take 2 = lowB (tl : Int) 2 := rfl
  have e3 : ((repB e tl (if sl then 1 else 0) l).drop 3).take 1 = lowB ((if sl then 1 else 0 : Nat) : Int) 1 := by cases sl <;> rfl
  have e4 : (repB e tl (if sl then 1 else 0) l).drop 4 = l := rfl
  simp only [e1, e2, e3, e4]
  rw [numOf_low' (n := e) (by omega), numOf_low' (n := tl) (by omega), numOf_low' (n := if sl then 1 else 0) (by cases sl <;> simp)]
  rw [if_pos ⟨by cases sl <;> simp, h⟩]
  cases sl <;> rfl
theorem getReq_put (k lo po : Nat) (l : List UInt8) (h : rightB k lo po l.length = true) : getReq (frameB 1 (reqB k lo po l)) = some (k, lo, po, l) := by
  have h0 := of_decide_eq_true h
  have hb : bodyF (frameB 1 (reqB k lo po l)) 1 9 = some (reqB k lo po l) := bodyF_frame 1 9 _ (by omega) (by simp [reqB, lowB_length]; omega) (by simp [reqB, lowB_length]; omega)
  unfold getReq
  rw [hb]
  have e1 : (reqB k lo po l).take 1 = lowB (k : Int) 1 := rfl
  have e2 : ((reqB k lo po l).drop 1).take 6 = lowB (lo : Int) 6 := rfl
  have e3 : ((reqB k lo po l).drop 7).take 2 = lowB (po : Int) 2 := rfl
  have e4 : (reqB k lo po l).drop 9 = l := rfl
  simp only [e1, e2, e3, e4]
  rw [numOf_low' (by omega), numOf_low' (by omega), numOf_low' (by omega)]
  rw [if_pos h]
end Go.Proofs.YtbahjinlcbjikaaGreat

/-! Package loglet: none; a node that is not up is asked; plain words of Ask. -/
namespace Go.Proofs.YtbahjinlcbjikaaGreat
open Go.RowKit

/-- So many messages more may be late. -/
def LkS.room (s : LkS) (c : Nat) : Prop := s.net.late.length + c ≤ 4000000000000
/-- A node that is not up. -/
def OffAt (W : World) (v : Value) : Prop := v = .pointer none ∨ ∃ n pv, v = .pointer (some ⟨n, 0, none⟩) ∧ Blk W n #[pv, .pointer none] 99
section
variable {W : World} {v : Value}
set_option maxHeartbeats 800000 in
theorem off_Store (h : OffAt W v) : Calls Tryz.prog 121 #[v] W fun e w' => e = .returned (.pointer none) ∧ w' = W := by
  rcases h with rfl | ⟨n, pv, rfl, hb⟩
  · go_enter Tryz.func121, Tryz.ntmps121
    go_wp2_with fail
    go_ret
    exact ⟨rfl, rfl⟩
  · have c1 := hb.cell (o := 1) rfl
    go_enter Tryz.func121, Tryz.ntmps121
    go_wp2_with fail
    go_ret
    exact ⟨rfl, rfl⟩
set_option maxHeartbeats 800000 in
theorem off_Up (h : OffAt W v) : Calls Tryz.prog 76 #[v] W fun e w' => e = .returned (.bool false) ∧ w' = W := by
  go_enter Tryz.func76, Tryz.ntmps76
  go_wp2_with fail
  refine (off_Store h).mono ?_
  rintro e W1 ⟨rfl, hw⟩
  rw [hw]
  clear hw W1
  go_wp2_with fail
  go_ret
  exact ⟨rfl, rfl⟩
set_option maxHeartbeats 800000 in
theorem off_Ask (h : OffAt W v) (a : Option Addr) (n c : Nat) : Calls Tryz.prog 47 #[v, .slice a n c] W fun e w' => e = .returned (.slice none 0 0) ∧ w' = W := by
  go_enter Tryz.func47, Tryz.ntmps47
  go_wp2_with fail
  refine (off_Up h).mono ?_
  rintro e W1 ⟨rfl, hw⟩
  rw [hw]
  clear hw W1
  go_wp2_with fail
  go_ret
  exact ⟨rfl, rfl⟩
end
section
variable {W : World} {L : Nat} {p : LkP} {s : LkS}
set_option maxHeartbeats 800000 in
theorem link_none (h : LkAt W L p s) : Calls Tryz.prog 45 #[.pointer (some ⟨L, 0, none⟩)] W fun e w' => e = .returned (.bool false) ∧ w' = W := by
  have c0 := h.link.cell (o := 0) rfl
  go_enter Tryz.func45, Tryz.ntmps45
  go_wp2_with fail
  refine (net_Made h.net.net).mono ?_
  rintro e Wx ⟨rfl, hw⟩
  rw [hw]
  clear hw Wx
  go_wp2_with fail
  go_ret
  exact ⟨rfl, rfl⟩
end

/-- A reply's bytes. -/
def bytesR : Option LRp → List UInt8
  | none => []
  | some r => putRepB r.e r.tl r.sl r.b
def LRp.ok (r : LRp) : Prop := tellsB r.e r.tl r.b.length = true
theorem askD_ok {d : Nds} {k lo po : Int} {l : List UInt8} {r : LRp} (h : (askD d k lo po l).1 = some r) : r.ok := by
  unfold askD at h
  split at h
  · cases h
  · simp only at h
    split at h
    · rename_i ht
      cases h
      exact ht
    · cases h
theorem askN_ok {d : Nds} {k lo po : Int} {l : List UInt8} {r : LRp} {t : Nat} (h : (askN k lo po l t d).1 = some r) : r.ok := by
  cases t with
  | zero => cases h
  | succ t => exact askD_ok h
theorem askF_askD (S : St) (D : Dk) (k lo po : Nat) (l : List UInt8) (h : rightB k lo po l.length = true) : askF S D (frameB 1 (reqB k lo po l)) = (bytesR (askD (some (S, D)) k lo po l).1, (doF S D k lo po l).2.2) ∧ (askD (some (S, D)) k lo po l).2 = some (doF S D k lo po l).2.2 := by
  refine ⟨?_, rfl⟩
  unfold askF
  rw [getReq_put k lo po l h]
  simp only [askD]
  congr 1
  by_cases ht : tellsB (doF S D k lo po l).1 (tailF (doF S D k lo po l).2.2.1 lo) (doF S D k lo po l).2.1.length = true
  · rw [if_pos ht]; rfl
  · rw [if_neg ht]
    show putRepB _ _ _ _ = []
    unfold putRepB
    rw [if_neg ht]
theorem bytesR_get {r : LRp} (h : r.ok) : ∃ e tl : Nat, (e : Int) = r.e ∧ (tl : Int) = r.tl ∧ getRep (bytesR (some r)) = some (e, tl, r.sl, r.b) ∧ 0 < (bytesR (some r)).length := by
  have h0 := of_decide_eq_true h
  obtain ⟨e, he⟩ := Int.eq_ofNat_of_zero_le (show 0 ≤ r.e by omega)
  obtain ⟨tl, htl⟩ := Int.eq_ofNat_of_zero_le (show 0 ≤ r.tl by omega)
  have hok : tellsB (e : Int) (tl : Int) r.b.length = true := by rw [← he, ← htl]; exact h
  refine ⟨e, tl, he.symm, htl.symm, ?_, ?_⟩
  · show getRep (putRepB r.e r.tl r.sl r.b) = _
    rw [he, htl]
    exact getRep_put e tl r.sl r.b hok
  · show 0 < (putRepB r.e r.tl r.sl r.b).length
    unfold putRepB
    rw [if_pos (show tellsB r.e r.tl r.b.length = true from h), frame_length]
    omega
theorem putRep_few (e tl : Int) (sl : Bool) (l : List UInt8) : (putRepB e tl sl l).length ≤ 1073741824 := by
  unfold putRepB
  split
  · rename_i h
    have := of_decide_eq_true h
    rw [frame_length]
    simp [repB, lowB_length]
    omega
  · simp
theorem bytesR_few (o : Option LRp) : (bytesR o).length ≤ 1073741824 := by
  cases o with
  | none => simp [bytesR]
  | some r =>
    show (putRepB r.e r.tl r.sl r.b).length ≤ _
    exact putRep_few _ _ _ _
theorem set_same {α : Type} {l : List α} {i : Nat} {d : α} (h : l[i]? = some d) : l.set i d = l := by
  apply List.ext_getElem?
  intro j
  by_cases hj : i = j
  · subst hj
    rw [List.getElem?_set_self (List.getElem?_eq_some_iff.1 h).1, h]
  · rw [List.getElem?_set_ne hj]
end Go.Proofs.YtbahjinlcbjikaaGreat

/-! Package loglet: Ask. -/
namespace Go.Proofs.YtbahjinlcbjikaaGreat
open Go.RowKit

section
variable {W : World} {L : Nat} {p : LkP} {s : LkS}
/-- What came of a node's being asked. -/
def LAskPost (W : World) (L : Nat) (p : LkP) (R : Option LRp × LkS) (e : Ending) (w' : World) : Prop :=
  ∃ p', LkAt w' L p' R.2 ∧ (∀ b, p'.all L b → p.all L b ∨ W.heap.size ≤ b) ∧ Ext (p.all L) W w' ∧ match R.1 with
    | none => ∃ a0 a1 a2 a n c, e = .returned (.tuple #[.agg #[.int .i64 a0, .int .i64 a1, .bool a2, .slice a n c], .bool false])
    | some r => ∃ v, e = .returned (.tuple #[.agg #[.int .i64 r.e, .int .i64 r.tl, .bool r.sl, v], .bool true]) ∧ Own8 w' W.heap.size 5 v r.b ∧ ∀ g, v.ownBlock = some g → ¬ p'.all L g
theorem askL_no {W' WZ : World} {to k lo po : Int} {l : List UInt8} (h : LkAt W L p s) (b : Below W.heap.size W W') (x : Ext (fun b => b = W.heap.size + 1) W' WZ) (hn : ¬ (rightB k lo po l.length = true ∧ 0 ≤ to ∧ to < s.nds.length)) :
    LAskPost W L p (askL s to k lo po l) (.returned (.tuple #[.agg #[.int .i64 0, .int .i64 0, .bool false, .slice none 0 0], .bool false])) WZ := by
  have hb : Below W.heap.size W WZ := b.trans (x.belowOf b.size (fun b hb e => by have e2 : b = W.heap.size + 1 := e; omega))
  unfold askL
  rw [if_neg hn]
  exact ⟨p, h.keep hb, fun b hb => .inl hb, Ext.ofBelow hb, _, _, _, _, _, _, rfl⟩

set_option maxRecDepth 100000 in
set_option maxHeartbeats 12800000 in
theorem link_Ask_no (h : LkAt W L p s) (to k lo po : Int) (v : Value) (l : List UInt8) (hv : Bs W v l) (hn : ¬ (rightB k lo po l.length = true ∧ 0 ≤ to ∧ to < s.nds.length)) :
    Calls Tryz.prog 22 #[.pointer (some ⟨L, 0, none⟩), .int .i64 to, .agg #[.int .i64 k, .int .i64 lo, .int .i64 po, v]] W (LAskPost W L p (askL s to k lo po l)) := by
  obtain ⟨av, cv, rfl⟩ := hv.form
  obtain ⟨W0, hW0⟩ : ∃ W0, (W.alloc (.cells #[.int .i64 k, .int .i64 lo, .int .i64 po, .slice av l.length cv] 55)).alloc (.cells #[.int .i64 0, .int .i64 0, .bool false, .slice none 0 0] 51) = W0 := ⟨_, rfl⟩
  have b0 : Below W.heap.size W W0 := by rw [← hW0]; exact ((Below.refl _ W).alloc (Nat.le_refl _) _).alloc (by simp) _
  have k5 : Blk W0 W.heap.size #[.int .i64 k, .int .i64 lo, .int .i64 po, .slice av l.length cv] 55 := by rw [← hW0]; exact (Blk.new W _ _).alloc _
  have k6 : Blk W0 (W.heap.size + 1) #[.int .i64 0, .int .i64 0, .bool false, .slice none 0 0] 51 := by rw [← hW0]; exact Blk.new' _ _ (by simp) _ _
  have h0 := h.keep b0
  have hv0 := hv.keep b0
  have hls := h.link.lt
  have x0 := k5.cell (o := 0) rfl
  have x1 := k5.cell (o := 1) rfl
  have x2 := k5.cell (o := 2) rfl
  have x3 := k5.cell (o := 3) rfl
  have HZ := hid hn
  have hmx := hv.len
  unfold maxLen at hmx
  have HPR : ∃ cc : Int, (cc ≠ 0 ∨ cc = 0 ∧ (to < 0 ∨ (s.nds.length : Int) ≤ to)) ∧ Calls Tryz.prog 44 #[.agg #[.int .i64 k, .int .i64 lo, .int .i64 po, .slice av l.length cv]] W0 (fun e w' => ∃ a n c, e = .returned (.tuple #[.slice a n c, .int .i64 cc]) ∧ Below W0.heap.size W0 w') := by
    by_cases hr : rightB k lo po l.length = true
    · refine ⟨0, .inr ⟨rfl, ?_⟩, (put_request k lo po _ l W0 hv0 hr).mono ?_⟩
      · by_cases h1 : to < 0
        · exact .inl h1
        · exact .inr (Int.not_lt.1 (fun h2 => hn ⟨hr, by omega, h2⟩))
      · rintro e w' ⟨v', rfl, ho, hb⟩
        obtain ⟨a, c, rfl⟩ := ho.form
        exact ⟨_, _, _, rfl, hb⟩
    · refine ⟨1, .inl (by decide), (put_request_no k lo po av l.length cv W0 (by omega) (by simpa using hr)).mono ?_⟩
      rintro e w' ⟨rfl, hb⟩
      exact ⟨_, _, _, rfl, hb⟩
  obtain ⟨cc, hcc, HPC⟩ := HPR
  have HPC := hid HPC
  have HP := hid h
  have HL0 := hid h0
  have HK0 := hid k6
  have HB0 := hid b0
  have hfew := h.few
  have hnl : (0 : Int) ≤ s.nds.length := by omega
  clear hn hv hv0 h h0 k6 b0 k5 hls hmx
  rcases hcc with hcc | ⟨rfl, hto | hto⟩
  · skip
    have hc1 : (cc != 0) = true := bne_iff_ne.2 hcc
    go_enter Tryz.func22, Tryz.ntmps22
    go_wp2_with fail
    clear hW0
    refine HPC.out.mono ?_
    rintro e W2 ⟨a2, n2, c2, rfl, b2⟩
    have HL := hid (HL0.out.keep b2)
    have K6 := hid (HK0.out.keep b2)
    have HX := hid (HB0.out.trans (b2.mono HB0.out.size))
    clear b2 x0 x1 x2 x3
    go_wp2_with fail
    refine (link_none HL.out).mono ?_
    rintro e Wx ⟨rfl, hw⟩
    rw [hw]
    clear hw Wx
    have y0 := HL.out.link.cell (o := 0) rfl
    have y1 := HL.out.link.cell (o := 1) rfl
    have m0 := K6.out.cell (o := 0) rfl
    have mf0 := K6.out.free 0
    have m1 := K6.out.cell (o := 1) rfl
    have mf1 := K6.out.free 1
    have m2 := K6.out.cell (o := 2) rfl
    have mf2 := K6.out.free 2
    have m3 := K6.out.cell (o := 3) rfl
    have mf3 := K6.out.free 3
    go_wp2_with fail
    all_goals
      obtain ⟨WZ, hWZ⟩ : ∃ WZ, ((((W2.setCell ⟨W.heap.size + 1, 0, none⟩ (.int .i64 0)).setCell ⟨W.heap.size + 1, 1, none⟩ (.int .i64 0)).setCell ⟨W.heap.size + 1, 2, none⟩ (.bool false)).setCell ⟨W.heap.size + 1, 3, none⟩ (.slice none 0 0)) = WZ := ⟨_, rfl⟩
      have kZ := ((((K6.out.set (o := 0) (.int .i64 0)).set (o := 1) (.int .i64 0)).set (o := 2) (.bool false)).set (o := 3) (.slice none 0 0))
      rw [hWZ] at kZ
      simp only [List.setIfInBounds_toArray, List.set_cons_zero, List.set_cons_succ] at kZ
      have xZ : Ext (fun b => b = W.heap.size + 1) W2 WZ := by rw [← hWZ]; exact (((((Ext.refl (fun b => b = W.heap.size + 1) W2).setCell (a := ⟨W.heap.size + 1, 0, none⟩) (.inl rfl) _).setCell (a := ⟨W.heap.size + 1, 1, none⟩) (.inl rfl) _).setCell (a := ⟨W.heap.size + 1, 2, none⟩) (.inl rfl) _).setCell (a := ⟨W.heap.size + 1, 3, none⟩) (.inl rfl) _)
      rw [hWZ]
      have hld := run_loadVar_row (P := Tryz.prog) WZ (W.heap.size + 1) 51 51 _ (0, 0) _ kZ Tryz.underlying51 rfl size_reply
      refine bodyPost_ret (v := .tuple #[.agg #[.int .i64 0, .int .i64 0, .bool false, .slice none 0 0], .bool false]) ?_ rfl ?_
      · simp [results, Tryz.results22, hld, asAddr]
      · exact askL_no HP.out HX.out xZ HZ.out
  · skip
    have hd1 : decide (to < 0) = true := decide_eq_true hto
    go_enter Tryz.func22, Tryz.ntmps22
    go_wp2_with fail
    clear hW0
    refine HPC.out.mono ?_
    rintro e W2 ⟨a2, n2, c2, rfl, b2⟩
    have HL := hid (HL0.out.keep b2)
    have K6 := hid (HK0.out.keep b2)
    have HX := hid (HB0.out.trans (b2.mono HB0.out.size))
    clear b2 x0 x1 x2 x3
    go_wp2_with fail
    refine (link_none HL.out).mono ?_
    rintro e Wx ⟨rfl, hw⟩
    rw [hw]
    clear hw Wx
    have y0 := HL.out.link.cell (o := 0) rfl
    have y1 := HL.out.link.cell (o := 1) rfl
    have m0 := K6.out.cell (o := 0) rfl
    have mf0 := K6.out.free 0
    have m1 := K6.out.cell (o := 1) rfl
    have mf1 := K6.out.free 1
    have m2 := K6.out.cell (o := 2) rfl
    have mf2 := K6.out.free 2
    have m3 := K6.out.cell (o := 3) rfl
    have mf3 := K6.out.free 3
    go_wp2_with fail
    all_goals
      obtain ⟨WZ, hWZ⟩ : ∃ WZ, ((((W2.setCell ⟨W.heap.size + 1, 0, none⟩ (.int .i64 0)).setCell ⟨W.heap.size + 1, 1, none⟩ (.int .i64 0)).setCell ⟨W.heap.size + 1, 2, none⟩ (.bool false)).setCell ⟨W.heap.size + 1, 3, none⟩ (.slice none 0 0)) = WZ := ⟨_, rfl⟩
      have kZ := ((((K6.out.set (o := 0) (.int .i64 0)).set (o := 1) (.int .i64 0)).set (o := 2) (.bool false)).set (o := 3) (.slice none 0 0))
      rw [hWZ] at kZ
      simp only [List.setIfInBounds_toArray, List.set_cons_zero, List.set_cons_succ] at kZ
      have xZ : Ext (fun b => b = W.heap.size + 1) W2 WZ := by rw [← hWZ]; exact (((((Ext.refl (fun b => b = W.heap.size + 1) W2).setCell (a := ⟨W.heap.size + 1, 0, none⟩) (.inl rfl) _).setCell (a := ⟨W.heap.size + 1, 1, none⟩) (.inl rfl) _).setCell (a := ⟨W.heap.size + 1, 2, none⟩) (.inl rfl) _).setCell (a := ⟨W.heap.size + 1, 3, none⟩) (.inl rfl) _)
      rw [hWZ]
      have hld := run_loadVar_row (P := Tryz.prog) WZ (W.heap.size + 1) 51 51 _ (0, 0) _ kZ Tryz.underlying51 rfl size_reply
      refine bodyPost_ret (v := .tuple #[.agg #[.int .i64 0, .int .i64 0, .bool false, .slice none 0 0], .bool false]) ?_ rfl ?_
      · simp [results, Tryz.results22, hld, asAddr]
      · exact askL_no HP.out HX.out xZ HZ.out
  · skip
    have hd1 : decide (to < 0) = false := decide_eq_false (by omega)
    have hd2 : decide (to ≥ (s.nds.length : Int)) = true := decide_eq_true hto
    go_enter Tryz.func22, Tryz.ntmps22
    go_wp2_with fail
    clear hW0
    refine HPC.out.mono ?_
    rintro e W2 ⟨a2, n2, c2, rfl, b2⟩
    have HL := hid (HL0.out.keep b2)
    have K6 := hid (HK0.out.keep b2)
    have HX := hid (HB0.out.trans (b2.mono HB0.out.size))
    clear b2 x0 x1 x2 x3
    go_wp2_with fail
    refine (link_none HL.out).mono ?_
    rintro e Wx ⟨rfl, hw⟩
    rw [hw]
    clear hw Wx
    have y0 := HL.out.link.cell (o := 0) rfl
    have y1 := HL.out.link.cell (o := 1) rfl
    have m0 := K6.out.cell (o := 0) rfl
    have mf0 := K6.out.free 0
    have m1 := K6.out.cell (o := 1) rfl
    have mf1 := K6.out.free 1
    have m2 := K6.out.cell (o := 2) rfl
    have mf2 := K6.out.free 2
    have m3 := K6.out.cell (o := 3) rfl
    have mf3 := K6.out.free 3
    go_wp2_with fail
    all_goals
      obtain ⟨WZ, hWZ⟩ : ∃ WZ, ((((W2.setCell ⟨W.heap.size + 1, 0, none⟩ (.int .i64 0)).setCell ⟨W.heap.size + 1, 1, none⟩ (.int .i64 0)).setCell ⟨W.heap.size + 1, 2, none⟩ (.bool false)).setCell ⟨W.heap.size + 1, 3, none⟩ (.slice none 0 0)) = WZ := ⟨_, rfl⟩
      have kZ := ((((K6.out.set (o := 0) (.int .i64 0)).set (o := 1) (.int .i64 0)).set (o := 2) (.bool false)).set (o := 3) (.slice none 0 0))
      rw [hWZ] at kZ
      simp only [List.setIfInBounds_toArray, List.set_cons_zero, List.set_cons_succ] at kZ
      have xZ : Ext (fun b => b = W.heap.size + 1) W2 WZ := by rw [← hWZ]; exact (((((Ext.refl (fun b => b = W.heap.size + 1) W2).setCell (a := ⟨W.heap.size + 1, 0, none⟩) (.inl rfl) _).setCell (a := ⟨W.heap.size + 1, 1, none⟩) (.inl rfl) _).setCell (a := ⟨W.heap.size + 1, 2, none⟩) (.inl rfl) _).setCell (a := ⟨W.heap.size + 1, 3, none⟩) (.inl rfl) _)
      rw [hWZ]
      have hld := run_loadVar_row (P := Tryz.prog) WZ (W.heap.size + 1) 51 51 _ (0, 0) _ kZ Tryz.underlying51 rfl size_reply
      refine bodyPost_ret (v := .tuple #[.agg #[.int .i64 0, .int .i64 0, .bool false, .slice none 0 0], .bool false]) ?_ rfl ?_
      · simp [results, Tryz.results22, hld, asAddr]
      · exact askL_no HP.out HX.out xZ HZ.out
end
end Go.Proofs.YtbahjinlcbjikaaGreat
