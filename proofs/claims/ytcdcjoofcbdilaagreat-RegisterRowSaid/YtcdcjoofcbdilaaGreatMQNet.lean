import Derived.Test.YtcdcjoofcbdilaaGreatMQNetP
import Derived.Test.YtcdcjoofcbdilaaGreatBase
import Derived.Test.YtcdcjoofcbdilaaGreatMSlices
import Derived.Lib.ConvBytes
import Derived.Lib.SliceRun
/-! Package register, the plain words: acceptors that are up or not, on a net. -/
namespace Go.Proofs.YtcdcjoofcbdilaaGreat
open Go.RowKit

/-- An answer. -/
structure An where
  e : Int
  ver : Int
  pr : Int
  ba : Int
  le : Bool
  b : List UInt8
/-- An acceptor: what it knows, its store, its disk; none: it is not up. -/
abbrev Acs := Option (Fs × St × Dk)
structure RgS where
  net : NetS
  acs : List Acs
  base : Int
/-- An acceptor is asked: its answer, itself behind it. -/
def askAc (d : Acs) (k key ver bal : Int) (l : List UInt8) : Option An × Acs :=
  match d with
  | none => (none, none)
  | some (F, S, D) =>
    (if ansOk (answerA F S D k key ver bal l).1.e (answerA F S D k key ver bal l).1.ver (answerA F S D k key ver bal l).1.f.pr (answerA F S D k key ver bal l).1.f.ba (answerA F S D k key ver bal l).1.f.va.length then
        some ⟨(answerA F S D k key ver bal l).1.e, (answerA F S D k key ver bal l).1.ver, (answerA F S D k key ver bal l).1.f.pr, (answerA F S D k key ver bal l).1.f.ba, (answerA F S D k key ver bal l).1.f.le, (answerA F S D k key ver bal l).1.f.va⟩ else none,
      some (answerA F S D k key ver bal l).2)
def askAcN (k key ver bal : Int) (l : List UInt8) : Nat → Acs → Option An × Acs
  | 0, d => (none, d)
  | t + 1, d => askAc (askAcN k key ver bal l t d).2 k key ver bal l
def askR (s : RgS) (to : Int) (k key ver bal : Int) (l : List UInt8) : Option An × RgS :=
  if askOk k key ver bal l.length = true ∧ 0 ≤ to ∧ to < s.acs.length then
    (if replyF s.net.fate then (askAcN k key ver bal l (timesF s.net.fate) (s.acs.getD to.toNat none)).1 else none,
      ⟨s.net.send (s.base + to) (frameB 3 (askB k key ver bal l)), s.acs.set to.toNat (askAcN k key ver bal l (timesF s.net.fate) (s.acs.getD to.toNat none)).2, s.base⟩)
  else (none, s)
/-- Some of them are asked, one behind the other. -/
def allR (s : RgS) (k key ver bal : Int) (l : List UInt8) : List Int → List An × RgS
  | [] => ([], s)
  | n :: r => ((askR s n k key ver bal l).1.toList ++ (allR (askR s n k key ver bal l).2 k key ver bal l r).1, (allR (askR s n k key ver bal l).2 k key ver bal l r).2)
/-- The numbers from s on, n of them. -/
def idxR : Nat → Nat → List Int
  | _, 0 => []
  | s, n + 1 => (s : Int) :: idxR (s + 1) n
theorem idxR_length : ∀ (n s : Nat), (idxR s n).length = n
  | 0, _ => rfl
  | n + 1, s => by simp [idxR, idxR_length n (s + 1)]
theorem idxR_snoc : ∀ (n s : Nat), idxR s (n + 1) = idxR s n ++ [((s + n : Nat) : Int)]
  | 0, s => by simp [idxR]
  | n + 1, s => by
    have h := idxR_snoc n (s + 1)
    show (s : Int) :: idxR (s + 1) (n + 1) = ((s : Int) :: idxR (s + 1) n) ++ [((s + (n + 1) : Nat) : Int)]
    rw [h, show s + 1 + n = s + (n + 1) from by omega]
    rfl
def hearR (s : RgS) (k key ver bal : Int) (l : List UInt8) : List An × RgS := allR s k key ver bal l (idxR 0 s.acs.length)
def goodR (rs : List An) : List An := rs.filter (fun r => decide (r.e = 0))
def learnR (rs : List An) : Option An := rs.find? (fun r => r.le)
def promR (rs : List An) : Int := rs.foldl (fun m r => max m r.pr) 0
def accR (rs : List An) : Bool := rs.any (fun r => decide (0 < r.ba))
def fullR (rs : List An) : Bool := rs.any (fun r => decide (r.e = 7))
/-- The first one with the greatest rank above 0. -/
def bestR (f : An → Int) (rs : List An) : Option An := (rs.foldl (fun (p : Option An × Int) r => if p.2 < f r then (some r, f r) else p) (none, 0)).1
def RgS.most (s : RgS) : Nat := s.acs.length / 2 + 1
/-- The round behind a turn. -/
def nextR (round top : Int) : Int := max (round + 1) (if 0 < top then (top - 1) / 16 + 1 else 1)
/-- One turn of agree: a result, or the next round and the error so far; the link behind it. -/
def turnR (s : RgS) (key id ver : Int) (want : Option (List UInt8)) (round : Int) : ((List UInt8 × Int) ⊕ (Int × Int)) × RgS :=
  let p := hearR s 1 key ver (16 * round + id + 1) []
  match learnR p.1 with
  | some x => (.inl (x.b, 0), (hearR p.2 3 key ver 0 x.b).2)
  | none =>
    let e := if fullR p.1 = true then (7 : Int) else 33
    if s.most ≤ (goodR p.1).length then
      match bestR (·.ba) (goodR p.1), want with
      | none, none => if accR p.1 = true then (.inr (nextR round (promR p.1), e), p.2) else (.inl ([], 33), p.2)
      | some x, _ =>
        let g := hearR p.2 2 key ver (16 * round + id + 1) x.b
        if s.most ≤ (goodR g.1).length then (.inl (x.b, 0), (hearR g.2 3 key ver 0 x.b).2)
        else (.inr (nextR round (max (promR p.1) (promR g.1)), if fullR g.1 = true then 7 else e), g.2)
      | none, some v =>
        let g := hearR p.2 2 key ver (16 * round + id + 1) v
        if s.most ≤ (goodR g.1).length then (.inl (v, 0), (hearR g.2 3 key ver 0 v).2)
        else (.inr (nextR round (max (promR p.1) (promR g.1)), if fullR g.1 = true then 7 else e), g.2)
    else (.inr (nextR round (promR p.1), e), p.2)
def agreeGo (key id ver : Int) (want : Option (List UInt8)) : Nat → RgS → Int → Int → (List UInt8 × Int) × RgS
  | 0, s, _, e => (([], e), s)
  | n + 1, s, round, _ => match (turnR s key id ver want round).1 with
    | .inl r => (r, (turnR s key id ver want round).2)
    | .inr (rd, e) => agreeGo key id ver want n (turnR s key id ver want round).2 rd e
def agreeR (s : RgS) (key id ver : Int) (want : Option (List UInt8)) : (List UInt8 × Int) × RgS := agreeGo key id ver want 4 s 0 0
def mayR (s : RgS) (key id : Int) : Bool := decide (0 ≤ key ∧ key < 281474976710656 ∧ 0 ≤ id ∧ id < 16 ∧ 1 ≤ s.acs.length ∧ s.acs.length ≤ 9)
/-- Read: the version, the value, the error. -/
def readR (s : RgS) (key id : Int) : (Int × List UInt8 × Int) × RgS :=
  if mayR s key id then
    let p := hearR s 4 key 0 0 []
    if (goodR p.1).length < s.most then ((0, [], 33), p.2)
    else match bestR (·.ver) (goodR p.1) with
      | none => ((0, [], 0), p.2)
      | some x => match (goodR p.1).find? (fun y => decide (y.ver = x.ver) && y.le) with
        | some y => ((y.ver, y.b, 0), p.2)
        | none =>
          let r := agreeR p.2 key id x.ver none
          if r.1.2 = 0 then ((x.ver, r.1.1, 0), r.2) else ((0, [], r.1.2), r.2)
  else ((0, [], 1), s)
def swapR (s : RgS) (key id ver : Int) (v : List UInt8) : Int × RgS :=
  if mayR s key id = true ∧ 0 ≤ ver ∧ ver ≤ 281474976710654 ∧ v.length ≤ 4000 then
    let p := readR s key id
    if p.1.2.2 ≠ 0 then (p.1.2.2, p.2)
    else if p.1.1 ≠ ver then (34, p.2)
    else
      let r := agreeR p.2 key id (ver + 1) (some v)
      (if r.1.2 = 0 ∧ r.1.1 ≠ v then 34 else r.1.2, r.2)
  else (1, s)
end Go.Proofs.YtcdcjoofcbdilaaGreat

/-! append at ints. -/
namespace Go.Proofs.YtcdcjoofcbdilaaGreat
open Go.RowKit

theorem info_int : ((Tryz.prog.info? 3).map (fun i => (i.zero, i.size, i.bytes))) = some (some (.int .i64 0), 1, 8) := by kernel_rfl
theorem run_appendI {P : Program} {T E : TypeId} {i : TypeInfo} (ht : P.underlying T = some (.slice E)) (hi : P.info? E = some i) (hz : i.zero = some (.int .i64 0)) (hsz : i.size = 1) (hby : i.bytes = 8) (ty : TypeId)
    {w : World} {base : Nat} {v x : Value} {l m : List Int} (hown : OwnI w base E v l) (hx : Is w x m) (hlen : (l.length + m.length) * 8 ≤ 140737488355328) (hbase : base ≤ w.heap.size) :
    ∃ v' w', (Builtin.append_ #[T, T] ty #[v, x]).run P w = .ok v' w' ∧ OwnI w' base E v' (l ++ m) ∧ w.grownBy w' v.ownBlock ∧ (∀ k, v'.ownBlock = some k → v.ownBlock = some k ∨ w.heap.size ≤ k) := by
  obtain ⟨a, c, rfl, hr⟩ := hx
  cases a with
  | none =>
    have hm : m = [] := by
      cases m with
      | nil => rfl
      | cons z m => obtain ⟨_, _, e, _⟩ := hr 0 z rfl; cases e
    subst hm
    refine ⟨v, w, ?_, by simpa using hown, ⟨rfl, rfl, rfl, Nat.le_refl _, fun _ _ _ => rfl⟩, fun k h => .inl h⟩
    rcases hown.2 with ⟨rfl, _⟩ | ⟨g, cap, cur, rfl, _, _, hnc, _⟩
    · simp [Builtin.append_, run_underlying ht, sizeOf, typeInfo, hi, Builtin.lenOf, Builtin.firstCells]
    · simp [Builtin.append_, run_underlying ht, sizeOf, typeInfo, hi, Builtin.lenOf, Builtin.firstCells, hnc, storeCells]
  | some ad =>
    have hcells : ∀ (j : Nat) (u : Value), (m.map iv)[j]? = some u → w.cell? (ad.add j) = some u := fun j u hu => by
        simp only [List.getElem?_map, Option.map_eq_some_iff] at hu
        obtain ⟨b, hb, rfl⟩ := hu
        obtain ⟨g, o, e, hc⟩ := hr j b hb
        cases e
        unfold Addr.add
        split
        · rename_i hz
          subst hz
          simpa using hc
        · exact hc
    have hone : ∀ u ∈ m.map iv, u.oneCell' = true := fun u hu => by
        simp only [List.mem_map] at hu
        obtain ⟨b, _, rfl⟩ := hu
        rfl
    by_cases hnil : v = .slice none 0 0
    · subst hnil
      obtain ⟨v', w', h1, h2, h3, h4⟩ := run_append_own (P := P) w w.heap.size T ty E i _ 1 8 ht hi hz hsz hby rfl (by decide) (.slice none 0 0) l.length (l.map iv) (by
        rcases hown.2 with ⟨_, h0⟩ | ⟨_, _, _, e, _⟩
        · have : l = [] := List.eq_nil_of_length_eq_zero h0
          subst this
          exact World.ownsRow_nil w w.heap.size E 1
        · cases e) ad m.length c (m.map iv) (by simp) hcells hone (by unfold maxLen; omega) (by omega) (Nat.le_refl _)
      refine ⟨v', w', h1, ?_, h3, fun k hk => .inr (World.ownsRow.lt h2 k hk).1⟩
      unfold OwnI
      rw [List.map_append, List.length_append]
      refine ⟨h2.1, h2.2.imp id ?_⟩
      rintro ⟨g, cap, cur, e, q1, r⟩
      exact ⟨g, cap, cur, e, by omega, r⟩
    · rcases hown.2 with ⟨h0, _⟩ | ⟨gv, cap, cur, rfl, hb, hg, hnc, hcm, hcs, htk⟩
      · exact absurd h0 hnil
      · by_cases hroom : l.length + m.length ≤ cap
        · obtain ⟨w', h1, h2, h3⟩ := run_append_fits (P := P) w base T ty E i 1 ht hi hsz gv l.length cap (l.map iv) hown ad m.length c (m.map iv) (by simp) hcells hone hroom
          refine ⟨_, w', h1, ?_, h3, fun k hk => .inl hk⟩
          unfold OwnI
          rw [List.map_append, List.length_append]
          exact h2
        · have holds : ∀ (j : Nat) (u : Value), (l.map iv)[j]? = some u → w.cell? ((⟨gv, 0, none⟩ : Addr).add j) = some u := fun j u hu => by
            have h9 : w.cell? ⟨gv, j, none⟩ = some u := by
              rw [← htk, List.getElem?_take] at hu
              split at hu
              · simp [World.cell?, hg]
                simpa using hu
              · cases hu
            unfold Addr.add
            split
            · rename_i hz
              subst hz
              exact h9
            · simpa using h9
          obtain ⟨v', w', h1, h2, h3⟩ := run_append_arg_grows (P := P) w T ty E i _ 1 8 ht hi hz hsz hby rfl (by decide) ⟨gv, 0, none⟩ l.length cap (l.map iv) (by simp) holds ad m.length c (m.map iv) (by simp) hcells (by omega) (by unfold maxLen; omega) (by omega)
          have ho' : OwnI w' w.heap.size E v' (l ++ m) := by
            unfold OwnI
            rw [List.map_append, List.length_append]
            exact h2
          refine ⟨v', w', h1, ?_, ⟨h3.os, h3.tape, h3.output, h3.size, fun k hk _ => h3.block k hk (by simp)⟩, fun k hk => .inr (World.ownsRow.lt ho' k hk).1⟩
          refine ⟨ho'.1, ho'.2.imp id ?_⟩
          rintro ⟨g, cap2, cur2, e, q1, r⟩
          exact ⟨g, cap2, cur2, e, by omega, r⟩
end Go.Proofs.YtcdcjoofcbdilaaGreat

/-! '[]byte("x")' of one byte, as the text has it: a literal slice that is converted. -/
namespace Go.Proofs.YtcdcjoofcbdilaaGreat
open Go.RowKit

theorem litA_bs {W W' : World} (x : Int) (u : UInt8) (hx : x = (u.toNat : Int)) (h : (W.alloc (.cells #[.int .u8 x] 5)).freeze ⟨W.heap.size, 1, none⟩ 1 = W') : Bs W' (.slice (some ⟨W.heap.size, 0, none⟩) 1 1) [u] := by
  rw [← h]
  refine Bs.mk rfl (Nat.le_refl _) (by simp [maxLen]) (fun i y hi => ?_)
  match i, hi with
  | 0, hi =>
    simp at hi
    subst hi
    have hb := Blk.new W #[.int .u8 x] 5
    unfold Blk at hb
    generalize W.alloc (.cells #[.int .u8 x] 5) = V at hb ⊢
    generalize W.heap.size = g at hb ⊢
    simp [World.cell?, World.freeze, Array.getElem?_modify, hb, hx]
theorem litA_below {W W' : World} {x : Int} (h : (W.alloc (.cells #[.int .u8 x] 5)).freeze ⟨W.heap.size, 1, none⟩ 1 = W') : Below W.heap.size W W' := by
  rw [← h]
  exact Lib.below_freeze ((Below.refl _ W).alloc (Nat.le_refl _) _) (Nat.le_refl _) 1
theorem litA_conv {W W' : World} {x : Int} (h : (W.alloc (.cells #[.int .u8 x] 5)).freeze ⟨W.heap.size, 1, none⟩ 1 = W') : (convert 30 30 (.slice (some ⟨W.heap.size, 0, none⟩) 1 1)).run Tryz.prog (W.alloc (.cells #[.int .u8 x] 5)) = .ok (.slice (some ⟨W.heap.size, 0, none⟩) 1 1) W' := by
  have hb := Blk.new W #[.int .u8 x] 5
  unfold Blk at hb
  rw [← h]
  clear h
  generalize W.alloc (.cells #[.int .u8 x] 5) = V at hb ⊢
  generalize W.heap.size = g at hb ⊢
  simp [convert, run_underlying Tryz.underlying30, run_underlying Tryz.underlying5, Sem.run_bind, markStringish, World.shape?, hb]
end Go.Proofs.YtcdcjoofcbdilaaGreat

/-! Package net: New, Made, Luck, Send; nothing late. -/
namespace Go.Proofs.YtcdcjoofcbdilaaGreat
open Go.RowKit

theorem szint : (Tryz.prog.info? 3).map (·.size) = some 1 := by kernel_rfl
theorem run_slice_m {P : Program} {T E : TypeId} (hT : P.underlying T = some (.slice E)) (hE : (P.info? E).map (·.size) = some 1) (a : Option Addr) (n c : Nat) (lo hi mx : Int) (h0 : 0 ≤ lo) (h1 : lo ≤ hi) (h2 : hi ≤ mx) (h3 : mx ≤ c) (W : World) :
    (Instr.slice T (.slice a n c) (some (.int .i64 lo)) (some (.int .i64 hi)) (some (.int .i64 mx))).run P W = .ok (.slice (sla a mx.toNat lo.toNat) (hi.toNat - lo.toNat) (mx.toNat - lo.toNat)) W := by
  have hs : (sizeOf E).run P W = .ok 1 W := by
    cases hq : P.info? E with
    | none => simp [hq] at hE
    | some i =>
      simp [hq] at hE
      simp [sizeOf, typeInfo, hq, hE]
  have e1 : ∀ (code : BoundsCode), (Instr.sliceBound (.int .i64 mx) c code).run P W = .ok mx.toNat W := fun code => run_sliceBound (P := P) (w := W) .i64 mx c code (by omega) h3
  have e1' : ∀ (code : BoundsCode), (Instr.sliceBound (.int .i64 hi) mx.toNat code).run P W = .ok hi.toNat W := fun code => run_sliceBound (P := P) (w := W) .i64 hi mx.toNat code (by omega) (by omega)
  have e2 : ∀ (code : BoundsCode), (Instr.sliceBound (.int .i64 lo) hi.toNat code).run P W = .ok lo.toNat W := fun code => run_sliceBound (P := P) (w := W) .i64 lo hi.toNat code h0 (by omega)
  simp [Instr.slice, Instr.sliceBounds, run_underlying hT, e1, e1', e2, hs, sla, Sem.run_bind]
/-- A row with room, and what stands behind its cells turned. -/
theorem OwnI.over {w : World} {base : Nat} {t : TypeId} {g n cap k : Nat} {l : List Int} {z : Value} (h : OwnI w base t (.slice (some ⟨g, 0, none⟩) n cap) l) (hk : l.length ≤ k) : OwnI (w.setCell ⟨g, k, none⟩ z) base t (.slice (some ⟨g, 0, none⟩) n cap) l := by
  refine ⟨h.1, .inr ?_⟩
  rcases h.2 with ⟨e, _⟩ | ⟨g2, cap2, cur, e, hb, hg, hnc, hcm, hcs, htk⟩
  · cases e
  · injection e with e1 e2 e3
    injection e1 with e1
    injection e1 with e1
    subst e1 e3
    refine ⟨g, cap, cur.setIfInBounds k z, by rw [e2], hb, ?_, hnc, hcm, by simp [hcs], ?_⟩
    · exact Blk.set (g := g) (o := k) (c := cur) (t := t) hg z
    · rw [← htk]
      simp only [Array.toList_setIfInBounds, Nat.mul_one]
      rw [List.take_set_of_le (by omega)]
theorem OwnI.cell {w : World} {base : Nat} {t : TypeId} {g n cap : Nat} {l : List Int} (h : OwnI w base t (.slice (some ⟨g, 0, none⟩) n cap) l) {i : Nat} {z : Int} (hi : l[i]? = some z) : w.cell? ⟨g, i, none⟩ = some (iv z) := by
  rcases h.2 with ⟨e, _⟩ | ⟨g2, cap2, cur, e, hb, hg, hnc, hcm, hcs, htk⟩
  · cases e
  · injection e with e1 e2 e3
    injection e1 with e1
    injection e1 with e1
    subst e1 e3
    have hu : (l.map iv)[i]? = some (iv z) := by simp [hi]
    rw [← htk, List.getElem?_take] at hu
    split at hu
    · simp [World.cell?, hg]
      simpa using hu
    · cases hu
theorem OwnI.room {w : World} {base : Nat} {t : TypeId} {g n cap : Nat} {l : List Int} (h : OwnI w base t (.slice (some ⟨g, 0, none⟩) n cap) l) : n = l.length ∧ n ≤ cap ∧ cap ≤ maxLen ∧ ∃ cur, Blk w g cur t ∧ cur.size = cap := by
  rcases h.2 with ⟨e, _⟩ | ⟨g2, cap2, cur, e, hb, hg, hnc, hcm, hcs, htk⟩
  · cases e
  · injection e with e1 e2 e3
    injection e1 with e1
    injection e1 with e1
    subst e1 e3
    exact ⟨e2, by omega, hcm, cur, hg, by simpa using hcs⟩

section
variable {W : World} {N : Nat} {lv tv : Value}
set_option maxHeartbeats 800000 in
theorem net_Made (h : Blk W N #[lv, tv, .bool true] 56) : Calls Tryz.prog 9 #[.pointer (some ⟨N, 0, none⟩)] W fun e w' => e = .returned (.bool true) ∧ w' = W := by
  have c2 := h.cell (o := 2) rfl
  go_enter Tryz.func9, Tryz.ntmps9
  go_wp2_with fail
  go_ret
  exact ⟨rfl, rfl⟩
set_option maxHeartbeats 800000 in
theorem net_none (h : Blk W N #[lv, tv, .bool true] 56) : Calls Tryz.prog 50 #[.pointer (some ⟨N, 0, none⟩)] W fun e w' => e = .returned (.bool false) ∧ w' = W := by
  go_enter Tryz.func50, Tryz.ntmps50
  go_wp2_with fail
  refine (net_Made h).mono ?_
  rintro e Wx ⟨rfl, hw⟩
  rw [hw]
  clear hw Wx
  go_wp2_with fail
  go_ret
  exact ⟨rfl, rfl⟩
set_option maxHeartbeats 800000 in
theorem net_New : Calls Tryz.prog 17 #[] W fun e w' => e = .returned (.pointer (some ⟨W.heap.size, 0, none⟩)) ∧ Blk w' W.heap.size #[.slice none 0 0, .slice none 0 0, .bool true] 56 ∧ Below W.heap.size W w' := by
  go_enter Tryz.func17, Tryz.ntmps17
  go_wp2_with fail
  go_ret
  exact ⟨rfl, Blk.new _ _ _, (Below.refl _ _).alloc (Nat.le_refl _) _⟩
theorem exec_clear {P : Program} {o : Oper} {ev : Operand → Value} {s : Operand} {T : TypeId} {w w' : World} (ho : o.op = .call { callee := .builtin .clear, args := #[s], argTypes := #[T] })
    (hr : (Builtin.clear_ #[T] o.type #[ev s]).run P w = .ok (.tuple #[]) w') : (execOp ev o).run P w = .ok (.value (.tuple #[])) w' := by
  unfold execOp
  simp only [ho, resolve, invoke, builtin, Sem.run_bind, Sem.run_pure, Result.andThen_ok, List.map_toArray, List.map_cons, List.map_nil, hr]
set_option maxRecDepth 100000 in
set_option maxHeartbeats 1600000 in
theorem delete_int (base g n cap : Nat) (z : Int) (l : List Int) (h : OwnI W base 3 (.slice (some ⟨g, 0, none⟩) (n + 1) cap) (z :: l)) (hl : l.length = n) (hb : base ≤ W.heap.size) :
    Calls Tryz.prog 101 #[.slice (some ⟨g, 0, none⟩) (n + 1) cap, .int .i64 0, .int .i64 1] W fun e w' => e = .returned (.slice (some ⟨g, 0, none⟩) n cap) ∧ OwnI w' base 3 (.slice (some ⟨g, 0, none⟩) n cap) l ∧ Ext (fun b => b = g) W w' := by
  obtain ⟨hx9, hcap, hmax, cur, hblk, hcur⟩ := h.room
  clear hx9
  unfold maxLen at hmax
  obtain ⟨i0, hi, hz0, hz1, hz2⟩ := info_parts info_int
  have hs1 := fun (w : World) => run_slice_m (P := Tryz.prog) Tryz.underlying34 szint (some ⟨g, 0, none⟩) (n + 1) cap 0 1 ((n + 1 : Nat) : Int) (by omega) (by omega) (by omega) (by omega) w
  have hs2 := fun (w : World) => run_slice_to (P := Tryz.prog) Tryz.underlying34 szint (some ⟨g, 0, none⟩) (n + 1) cap 0 (by omega) (by omega) w
  have hs3 := fun (w : World) => run_slice_from (P := Tryz.prog) Tryz.underlying34 szint (some ⟨g, 0, none⟩) (n + 1) cap 1 (by omega) (by omega) w
  have hsla : sla (some ⟨g, 0, none⟩) cap (1 : Int).toNat = (if cap = 1 then some ⟨g, 0, none⟩ else some ⟨g, 1, none⟩) := by
    unfold sla
    by_cases h9 : cap = 1
    · simp [h9]
    · simp [h9, Addr.add]
  obtain ⟨sa, hsa⟩ : ∃ sa, (if cap = 1 then some (⟨g, 0, none⟩ : Addr) else some ⟨g, 1, none⟩) = sa := ⟨_, rfl⟩
  rw [hsla, hsa] at hs3
  have e1 : (1 : Int).toNat = 1 := rfl
  have e0 : (0 : Int).toNat = 0 := rfl
  rw [e1] at hs3
  rw [e0] at hs2
  rw [show n + 1 - 1 = n from rfl] at hs3
  clear e1 e0 hsla
  -- the append
  have hown0 : ∀ w : World, Blk w g cur 3 → OwnI w base 3 (.slice (some ⟨g, 0, none⟩) 0 cap) [] := fun w hw => by
    rcases h.2 with ⟨e, _⟩ | ⟨g2, cap2, cur2, e, hb2, hg, hnc, hcm, hcs, htk⟩
    · cases e
    · injection e with e1 e2 e3
      injection e1 with e1
      injection e1 with e1
      subst e1 e3
      exact ⟨rfl, .inr ⟨g, cap, cur, rfl, hb2, hw, Nat.zero_le _, hcm, by simpa using hcur, by simp⟩⟩
  have hcell := fun i (u : Int) (hu : l[i]? = some u) => h.cell (i := i + 1) (z := u) (by simpa using hu)
  have HAP : Hid (∃ w', (Builtin.append_ #[34, 34] 34 #[.slice (some ⟨g, 0, none⟩) 0 cap, .slice sa n (cap - 1)]).run Tryz.prog W.drew = .ok (.slice (some ⟨g, 0, none⟩) n cap) w' ∧ OwnI w' base 3 (.slice (some ⟨g, 0, none⟩) n cap) l ∧ Ext (fun b => b = g) W w' ∧ ∃ cur', Blk w' g cur' 3 ∧ cur'.size = cap) := by
    refine hid ?_
    have hsrc : ∃ ad, sa = some ad ∧ ∀ (j : Nat) (u : Value), (l.map iv)[j]? = some u → W.drew.cell? (ad.add j) = some u := by
      by_cases hc1 : cap = 1
      · rw [if_pos hc1] at hsa
        refine ⟨_, hsa.symm, fun j u hu => ?_⟩
        have : l = [] := List.eq_nil_of_length_eq_zero (by omega)
        subst this
        simp at hu
      · rw [if_neg hc1] at hsa
        refine ⟨_, hsa.symm, fun j u hu => ?_⟩
        simp only [List.getElem?_map, Option.map_eq_some_iff] at hu
        obtain ⟨b, hb, rfl⟩ := hu
        have hc := hcell j b hb
        unfold Addr.add
        split
        · rename_i hz
          subst hz
          exact hc
        · rw [show 1 + j = j + 1 from by omega]
          exact hc
    obtain ⟨ad, rfl, hsrc⟩ := hsrc
    obtain ⟨w', h1, h2, h3⟩ := run_append_fits (P := Tryz.prog) W.drew base 34 34 3 i0 1 Tryz.underlying34 hi hz1 g 0 cap [] (hown0 _ hblk) ad n (cap - 1) (l.map iv) (by simp [hl]) hsrc (fun u hu => by
        simp only [List.mem_map] at hu
        obtain ⟨b, _, rfl⟩ := hu
        rfl) (by omega)
    have ho : OwnI w' base 3 (.slice (some ⟨g, 0, none⟩) n cap) l := by
      unfold OwnI
      rw [hl]
      simpa using h2
    refine ⟨w', by simpa using h1, ho, ?_, ho.room.2.2.2⟩
    exact ((Ext.refl (fun b => b = g) W).drew).grown h3 (fun k e => by cases e; exact .inl rfl)
  have hzv : ∀ w, (zeroValue 3).run Tryz.prog w = .ok (.int .i64 0) w := fun w => by kernel_rfl
  have Hl := hid hl
  have Hcur := hid hcur
  clear h hblk hown0 hcell hi hz0 hz1 hz2 hsa hcur hl
  go_enter Tryz.func101, Tryz.ntmps101
  go_wp2_with fail
  refine wp_region_tail 6 rfl Stays (fun i v x => match i with
      | 0 => v = .slice (some ⟨g, 0, none⟩) (n + 1) cap
      | 1 => v = .int .i64 0
      | 2 => v = .slice (some ⟨g, 0, none⟩) 0 cap
      | 3 => v = .slice (some ⟨g, 0, none⟩) (n + 1) cap
      | 4 => v = .int .i64 1
      | 5 => v = .slice sa n (cap - 1)
      | _ => True) (by kernel_rfl) (Stays.refl _) Stays.trans ?rstab ?rsteps ?rfin
  case rstab =>
    intro i v x y hg h
    match i with
    | 0 | 1 | 2 | 3 | 4 | 5 => exact h
    | n + 6 => trivial
  case rsteps =>
    simp only [List.take_succ_cons, List.take_zero]
    refine ⟨?_, ?_, ?_, ?_, ?_, ?_, trivial⟩
    · intro a x hA
      have t0 := hA.at_ 0 (by first | rfl | kernel_rfl) rfl
      refine step_value (w' := x) (v := .slice (some ⟨g, 0, none⟩) (n + 1) cap) ?_ (Stays.refl _) ?_
      · go_simp
      · rfl
    · intro a x hA
      have t1 := hA.at_ 1 (by first | rfl | kernel_rfl) rfl
      refine step_value (w' := x) (v := .int .i64 0) ?_ (Stays.refl _) ?_
      · go_simp
      · rfl
    · intro a x hA
      have t20 : a.tmps[20]?.getD undef = .slice (some ⟨g, 0, none⟩) (n + 1) cap := hA.dep_ ⟨0, .data⟩ (by simp) _ 20 rfl rfl
      have t21 : a.tmps[21]?.getD undef = .int .i64 0 := hA.dep_ ⟨1, .data⟩ (by simp) _ 21 rfl rfl
      have hq := hs2 x
      refine step_value (w' := x) (v := .slice (some ⟨g, 0, none⟩) 0 cap) ?_ (Stays.refl _) rfl
      go_simp
    · intro a x hA
      have t0 := hA.at_ 0 (by first | rfl | kernel_rfl) rfl
      refine step_value (w' := x) (v := .slice (some ⟨g, 0, none⟩) (n + 1) cap) ?_ (Stays.refl _) ?_
      · go_simp
      · rfl
    · intro a x hA
      have t2 := hA.at_ 2 (by first | rfl | kernel_rfl) rfl
      refine step_value (w' := x) (v := .int .i64 1) ?_ (Stays.refl _) ?_
      · go_simp
      · rfl
    · intro a x hA
      have t23 : a.tmps[23]?.getD undef = .slice (some ⟨g, 0, none⟩) (n + 1) cap := hA.dep_ ⟨3, .data⟩ (by simp) _ 23 rfl rfl
      have t24 : a.tmps[24]?.getD undef = .int .i64 1 := hA.dep_ ⟨4, .data⟩ (by simp) _ 24 rfl rfl
      have hq := hs3 x
      refine step_value (w' := x) (v := .slice sa n (cap - 1)) ?_ (Stays.refl _) rfl
      go_simp
  case rfin =>
    intro y W' hg hV
    simp only [List.take_succ_cons, List.take_zero, AllVals] at hV
    obtain ⟨_, _, u2, _, _, u5, _⟩ := hV
    obtain rfl : W' = W.drew := hg
    simp only [List.take_succ_cons, List.take_zero, List.drop_succ_cons, List.drop_zero, putAll, Act.put, List.setIfInBounds_toArray, List.set_cons_zero, List.set_cons_succ]
    rw [u2, u5]
    obtain ⟨w6, hr, o6, x6, cur6, k6, z6⟩ := HAP.out
    have hs4 := fun (w : World) => run_slice_b (P := Tryz.prog) Tryz.underlying34 szint (some ⟨g, 0, none⟩) n cap ((n : Nat) : Int) ((n + 1 : Nat) : Int) (by omega) (by omega) (by omega) w
    have hcl : (Builtin.clear_ #[34] 0 #[.slice (some ⟨g, n, none⟩) 1 (cap - n)]).run Tryz.prog w6 = .ok (.tuple #[]) (w6.setCell ⟨g, n, none⟩ (.int .i64 0)) := by
      obtain ⟨cv, hcv⟩ : ∃ cv, cur6[n]? = some cv := ⟨cur6[n]'(by omega), by simp⟩
      have hc9 := k6.cell hcv
      have := Lib.run_clear_slice (P := Tryz.prog) w6 34 3 0 (.int .i64 0) Tryz.underlying34 hzv rfl rfl g n 1 (cap - n) (by omega) (fun j hj => by rw [show n + j = n from by omega, hc9]; rfl) (fun j hj => k6.free _)
      rw [this]
      rfl
    have HF := hid (And.intro (o6.over (z := .int .i64 0) (Nat.le_of_eq Hl.out)) (x6.setCell (a := ⟨g, n, none⟩) (.inl rfl) (.int .i64 0)))
    have e9 : (n : Int).toNat = n := rfl
    have e8 : ((n + 1 : Nat) : Int).toNat = n + 1 := rfl
    rw [e8, e9, show n + 1 - n = 1 from by omega] at hs4
    clear e8 e9 u2 u5 hs1 hs2 hs3 o6 x6 k6
    go_wp2_with (at_builtin; refine wpList_val rfl (exec_append rfl hr) ?_)
    go_ret
    exact ⟨rfl, HF.out.1, HF.out.2⟩
end
end Go.Proofs.YtcdcjoofcbdilaaGreat
