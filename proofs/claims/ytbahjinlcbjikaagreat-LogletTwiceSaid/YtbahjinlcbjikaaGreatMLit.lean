import Derived.Test.YtbahjinlcbjikaaGreatAsk
import Derived.Test.YtbahjinlcbjikaaGreatRows
import Derived.Test.YtbahjinlcbjikaaGreatBase
import Derived.ProofKit
import Derived.OpenShut
import Derived.Test.YtbahjinlcbjikaaGreatMOpenB
import Derived.Test.YtbahjinlcbjikaaGreatMDisk
import Derived.Lib.ConvBytes
/-! Package node: Ask of a node that is up, on any bytes. -/
namespace Go.Proofs.YtbahjinlcbjikaaGreat
open Go.RowKit

section
variable {W : World} {n : Nat} {pv : Value} {q : StP} {S : St} {D : Dk}
set_option maxRecDepth 100000 in
set_option maxHeartbeats 1600000 in
theorem node_Ask_none (h : NodeAt W n pv q S D) (v : Value) (b : List UInt8) (hv : Bs W v b) (hl : b.length ≤ 1073741824) (hreq : getReq b = none) :
    Calls Tryz.prog 47 #[.pointer (some ⟨n, 0, none⟩), v] W fun e w' => ∃ v', e = .returned v' ∧ Own8 w' W.heap.size 5 v' (askF S D b).1 ∧ (∃ q', NodeAt w' n pv q' (askF S D b).2.1 (askF S D b).2.2 ∧ Went q q' W.heap.size) ∧ Ext q.own W w' := by
  have hask : askF S D b = (putRepB 22 0 false [], S, D) := by unfold askF; rw [hreq]
  have HE := hid hask
  clear hask
  obtain ⟨a0, c0, rfl⟩ := hv.form
  have hgr := get_request _ b (W.alloc (.cells #[.int .i64 22, .int .i64 0, .bool false, .slice none 0 0] 51)) (hv.keep ((Below.refl _ W).alloc (Nat.le_refl _) _)) hl
  have b1 : Below W.heap.size W (W.alloc (.cells #[.int .i64 22, .int .i64 0, .bool false, .slice none 0 0] 51)) := (Below.refl _ W).alloc (Nat.le_refl _) _
  have k5 := Blk.new W #[.int .i64 22, .int .i64 0, .bool false, .slice none 0 0] 51
  have h1 := h.keep b1
  have HG := hid hgr
  clear hgr hv
  go_enter Tryz.func47, Tryz.ntmps47
  go_wp2_with fail
  refine (node_Up h).mono ?_
  rintro e W9 ⟨rfl, hw⟩
  rw [hw]
  clear hw W9
  go_wp2_with fail
  refine HG.out.mono ?_
  intro e W2 hpost
  unfold ReqPost at hpost
  rw [hreq] at hpost
  obtain ⟨rfl, b2⟩ := hpost
  have b12 : Below W.heap.size W W2 := b1.trans (b2.mono b1.size)
  have b3 : Below W2.heap.size W2 (W2.alloc (.cells #[.int .i64 0, .int .i64 0, .int .i64 0, .slice none 0 0] 55)) := (Below.refl _ W2).alloc (Nat.le_refl _) _
  have b13 : Below W.heap.size W _ := b12.trans (b3.mono b12.size)
  have k9 := (k5.keep b2).keep b3
  have g0 := k9.cell (o := 0) rfl
  have g1 := k9.cell (o := 1) rfl
  have g2 := k9.cell (o := 2) rfl
  have g3 := k9.cell (o := 3) rfl
  have HPR := hid (put_reply 22 0 false (.slice none 0 0) [] (W2.alloc (.cells #[.int .i64 0, .int .i64 0, .int .i64 0, .slice none 0 0] 55)) (Bs.nil _))
  have HB := hid (And.intro b13 h)
  clear HG b1 b2 b3 b12 b13 h h1 k5 k9
  go_wp2_with fail
  refine HPR.out.mono ?_
  rintro e w' ⟨v', c, rfl, ho, hb, _⟩
  have HO := hid (And.intro ho hb)
  clear HPR g0 g1 g2 g3 ho hb
  go_wp2_with fail
  go_ret
  rw [HE.out]
  have hb9 := HB.out.1.trans (HO.out.2.mono HB.out.1.size)
  exact ⟨_, rfl, HO.out.1.mono HB.out.1.size, ⟨q, HB.out.2.keep hb9, Went.refl _ _⟩, Ext.ofBelow hb9⟩

theorem getReq_right {b d : List UInt8} {k lo po : Nat} (h : getReq b = some (k, lo, po, d)) : rightB k lo po d.length = true := by
  unfold getReq at h
  split at h
  · cases h
  · split at h
    · rename_i hr
      simp only [Option.some.injEq, Prod.mk.injEq] at h
      obtain ⟨rfl, rfl, rfl, rfl⟩ := h
      exact hr
    · cases h

theorem node_Ask (h : NodeAt W n pv q S D) (v : Value) (b : List UInt8) (hv : Bs W v b) (hl : b.length ≤ 1073741824) :
    Calls Tryz.prog 47 #[.pointer (some ⟨n, 0, none⟩), v] W fun e w' => ∃ v', e = .returned v' ∧ Own8 w' W.heap.size 5 v' (askF S D b).1 ∧ (∃ q', NodeAt w' n pv q' (askF S D b).2.1 (askF S D b).2.2 ∧ Went q q' W.heap.size) ∧ Ext q.own W w' := by
  cases hreq : getReq b with
  | none => exact node_Ask_none h v b hv hl hreq
  | some x =>
    obtain ⟨k, lo, po, d⟩ := x
    have hr := of_decide_eq_true (getReq_right hreq)
    obtain ⟨hk1, hk2, l0, l1, p0, p1, hd, _⟩ := hr
    have hk : k = 1 ∨ k = 2 ∨ k = 3 ∨ k = 4 ∨ k = 5 ∨ k = 6 := by omega
    rcases hk with rfl | rfl | rfl | rfl | rfl | rfl
    · exact node_Ask_some h v b hv hl _ lo po d hreq 78 (fun args w => by go_simp) rfl (by decide) (fun W' dv a1 a2 a3 => h_write a1 lo po dv d a2 a3 hd l0 l1 p0 p1)
    · exact node_Ask_some h v b hv hl _ lo po d hreq 79 (fun args w => by go_simp) rfl (by decide) (fun W' dv a1 a2 a3 => h_repair a1 lo po dv d a2 a3 hd l0 l1 p0 p1)
    · exact node_Ask_some h v b hv hl _ lo po d hreq 80 (fun args w => by go_simp) rfl (by decide) (fun W' dv a1 a2 a3 => h_seal a1 lo po dv d a2 a3 hd l0 l1 p0 p1)
    · exact node_Ask_some h v b hv hl _ lo po d hreq 81 (fun args w => by go_simp) rfl (by decide) (fun W' dv a1 a2 a3 => by obtain ⟨ax, cx, rfl⟩ := a2.form; exact h_read a1 lo po ax d cx l0 l1 p0 p1)
    · exact node_Ask_some h v b hv hl _ lo po d hreq 82 (fun args w => by go_simp) rfl (by decide) (fun W' dv a1 a2 a3 => by obtain ⟨ax, cx, rfl⟩ := a2.form; exact h_look a1 lo po ax d cx)
    · exact node_Ask_some h v b hv hl _ lo po d hreq 83 (fun args w => by go_simp) rfl (by decide) (fun W' dv a1 a2 a3 => h_trim a1 lo po dv d a2 a3 hd l0 l1 p0 p1)
end
end Go.Proofs.YtbahjinlcbjikaaGreat

/-! From a law's contract (it returns true; nothing that was there has turned) to the row. -/
namespace Go.Proofs.YtbahjinlcbjikaaGreat
open Go.ChangeShapes Go.WideShapes Go.ChangeAt Go.RowKit

theorem law_own : ownKnob Tryz.prog.godebug = none := by kernel_rfl
theorem law_laid : laidOutB Tryz.prog = true := by kernel_rfl
theorem cells_int : Tryz.prog.cellsOf 3 = 1 := by kernel_rfl

theorem all_stay {H : Type} {enc : TypeId × Value → H} {W W' : World} (hb : Below W.heap.size W W') : ∀ (ts : List TypeId) (vs : List Value) (ds : List (DataW H)) (ps : List MemPlace),
    (∀ t ∈ ts, Tryz.prog.readableRec t = true ∧ t < Tryz.prog.types.size) → DataW.TrodAll enc Tryz.prog W 0 (fun _ => true) true ts vs ds ps → (∀ x ∈ ps, x.block < W.heap.size) →
    DataW.TrodAll enc Tryz.prog W' 0 (fun b => decide (b < W.heap.size)) true ts vs ds ps
  | [], vs, ds, ps, _, h, _ => by
    obtain ⟨rfl, rfl, rfl⟩ := trodAll_nil h
    exact trodAll_mk0
  | t :: ts, vs, ds, ps, hr, h, hlt => by
    obtain ⟨v, vs', d, ds', p, q, rfl, rfl, rfl, h1, h2⟩ := trodAll_cons h
    have ht := hr t List.mem_cons_self
    refine trodAll_cons_mk (Below.trod law_laid ht.1 ht.2 h1 hb (fun x hx => hlt x (List.mem_append_left _ hx))) ?_
    exact all_stay hb ts vs' ds' q (fun t' h' => hr t' (List.mem_cons_of_mem _ h')) h2 (fun x hx => hlt x (List.mem_append_right _ hx))

theorem law_post {H : Type} {enc : TypeId × Value → H} {s : ChangeSpec} {f : Func} {W W' : World} {args : Array Value} {ds gs : List (DataW H)} {before : List MemPlace} (hv : s.vars = []) (hrt : f.resultTypes = #[4])
    (hr : ∀ t ∈ f.params.toList, Tryz.prog.readableRec t = true ∧ t < Tryz.prog.types.size) (hW : DataW.Whole enc Tryz.prog f.params.toList s.vars false W args.toList ds gs before)
    (hfn : s.fn H (ds ++ gs) = { results := [.lit (.bool true)], args := ds }) (hb : Below W.heap.size W W') : s.post enc Tryz.prog f false true false false W args (.bool true) W' := by
  have hW' := hW
  obtain ⟨p, q, hA, hV, rfl, _, _⟩ := hW
  rw [hv] at hV
  obtain ⟨rfl, rfl⟩ := trodVars_none hV
  refine ⟨ds, [], p ++ [], [], p, [], hW', ?_, ?_, ?_, hb.frame _, fun h => by cases h⟩
  · rw [hfn, hrt]
    exact trodAll_mk1 (shut_bool Tryz.underlying4 _)
  · rw [hfn]
    exact all_stay hb _ _ _ _ hr hA (fun x hx => hW'.lt x (List.mem_append_left _ hx))
  · rw [hfn, hv]
    rfl

set_option maxRecDepth 100000 in
theorem wf_i64_bounds {n : Int} (h : (Lit.int .i64 n).wf = true) : -9223372036854775808 ≤ n ∧ n ≤ 9223372036854775807 := by
  have e1 : IntKind.i64.min = -9223372036854775808 := rfl
  have e2 : IntKind.i64.max = 9223372036854775807 := rfl
  simpa [Lit.wf, e1, e2] using h

/-- Ints that can be read from a slice on. -/
def Is (w : World) (v : Value) (l : List Int) : Prop := ∃ a c, v = .slice a l.length c ∧ ∀ i x, l[i]? = some x → ∃ g o, a = some ⟨g, o, none⟩ ∧ w.cell? ⟨g, o + i, none⟩ = some (.int .i64 x)
theorem Is.keep {w w' : World} {v : Value} {l : List Int} (h : Is w v l) (hb : Below w.heap.size w w') : Is w' v l := by
  obtain ⟨a, c, rfl, hr⟩ := h
  refine ⟨a, c, rfl, fun i x hi => ?_⟩
  obtain ⟨g, o, e, hc⟩ := hr i x hi
  exact ⟨g, o, e, by rw [hb.cell (World.block_lt_of_cell? w _ hc)]; exact hc⟩

theorem add_spot {w : World} {a : Addr} {v : Value} (h : w.cell? (a.add 0) = some v) : a.spot = none := by
  simpa [Addr.add] using World.cell?_spot h

set_option maxRecDepth 100000 in
theorem open_Is {H : Type} {enc : TypeId × Value → H} {W : World} {v : Value} {d : DataW H} {p : List MemPlace} {t : TypeId} (ht : Tryz.prog.underlying t = some (.slice 3)) (hval : Value.okWide Tryz.prog W .any 0 t v)
    (h : DataW.Trod enc Tryz.prog W 0 (fun _ => true) true t v d p) : ∃ l, Is W v l ∧ l.length ≤ 9223372036854775807 ∧ ∀ x ∈ l, -9223372036854775808 ≤ x ∧ x ≤ 9223372036854775807 := by
  obtain ⟨a0, len, cap, rfl⟩ := okWide_slice ht hval
  obtain ⟨fuel, hf⟩ := h
  rcases open_ints ht Tryz.underlying3 cells_int hf with ⟨hcs, hx⟩ | ⟨a, len', cap', zs, hcs, _, hl, hm, hz, hx, hcell, hwz⟩
  · simp [Value.cells] at hcs
    obtain ⟨rfl, rfl, rfl⟩ := hcs
    exact ⟨[], ⟨none, 0, rfl, fun i x h => by simp at h⟩, by simp, fun x h => by simp at h⟩
  · simp [Value.cells] at hcs
    obtain ⟨rfl, rfl, rfl⟩ := hcs
    simp only [if_true] at hz
    have hlen : (zs.take len).length = len := by simp; omega
    refine ⟨zs.take len, ⟨some a, cap, by rw [hlen], fun i x hi => ?_⟩, ?_, fun x hx => wf_i64_bounds (hwz x (List.mem_of_mem_take hx))⟩
    · rw [List.getElem?_take] at hi
      split at hi
      · have hlt : i < zs.length := by omega
        have hc := hcell i hlt
        have ha := add_spot (hcell 0 (by omega))
        obtain ⟨b, o, s⟩ := a
        simp only at ha
        subst ha
        rw [add_plain] at hc
        refine ⟨b, o, rfl, ?_⟩
        rw [hc, List.getD_eq_getElem?_getD, hi]
        rfl
      · cases hi
    · unfold maxLen at hm
      omega
end Go.Proofs.YtbahjinlcbjikaaGreat

/-! Package net, the plain words: luck that waits, messages that are late. -/
namespace Go.Proofs.YtbahjinlcbjikaaGreat
open Go.RowKit

def mod5 (x : Int) : Int := (x.tmod 5 + 5).tmod 5
theorem mod5_bound (x : Int) : 0 ≤ mod5 x ∧ mod5 x < 5 := by
  unfold mod5
  have h1 := Int.lt_tmod_of_pos x (show (0 : Int) < 5 by omega)
  have h2 := Int.tmod_lt_of_pos x (show (0 : Int) < 5 by omega)
  have h3 : 0 ≤ x.tmod 5 + 5 := by omega
  exact ⟨Int.tmod_nonneg 5 h3, Int.tmod_lt_of_pos _ (by omega)⟩
def timesF (c : Int) : Nat := if c = 0 then 1 else if c = 2 then 1 else if c = 4 then 2 else 0
def replyF (c : Int) : Bool := decide (c = 0 ∨ c = 4)

/-- The first of what waits; 0 where nothing does. -/
def firstI (l : List Int) : Int := match l with
  | [] => 0
  | x :: _ => x
/-- What a net holds. -/
structure NetS where
  luck : List Int
  late : List (Int × List UInt8)
def NetS.fate (s : NetS) : Int := mod5 (firstI s.luck)
theorem NetS.fate_bound (s : NetS) : 0 ≤ s.fate ∧ s.fate < 5 := mod5_bound _
/-- A message is sent. -/
def NetS.send (s : NetS) (to : Int) (b : List UInt8) : NetS := ⟨s.luck.tail, if s.fate = 3 then s.late ++ [(to, b)] else s.late⟩
def NetS.lucky (s : NetS) (l : List Int) : NetS := ⟨s.luck ++ l, s.late⟩
theorem NetS.send_late (s : NetS) (to : Int) (b : List UInt8) : (s.send to b).late.length ≤ s.late.length + 1 := by
  unfold NetS.send
  simp only
  split
  · simp
  · omega

abbrev iv (z : Int) : Value := .int .i64 z
/-- A row of ints that starts at its block's head. -/
abbrev OwnI (w : World) (base : Nat) (t : TypeId) (v : Value) (l : List Int) : Prop := w.ownsRow base t 1 v l.length (l.map iv)
theorem OwnI.ext {fp : Nat → Prop} {w w' : World} {base : Nat} {t : TypeId} {v : Value} {l : List Int} (h : OwnI w base t v l) (he : Ext fp w w') (hn : ∀ k, v.ownBlock = some k → ¬ fp k) : OwnI w' base t v l := by
  refine ⟨h.1, h.2.imp id ?_⟩
  rintro ⟨g, cap, cur, e, h1, h2, r⟩
  refine ⟨g, cap, cur, e, h1, (he.block g (Array.getElem?_eq_some_iff.1 h2).1 (hn g (by rw [e]; rfl))).trans h2, r⟩
theorem OwnI.lt {w : World} {base : Nat} {t : TypeId} {v : Value} {l : List Int} (h : OwnI w base t v l) : ∀ k, v.ownBlock = some k → k < w.heap.size := fun k hk => (World.ownsRow.lt h k hk).2

theorem grows_below {W W' : World} (h : Grows W.drew W') : Below W.heap.size W W' := ⟨h.os, h.tape, h.output, h.size, h.block⟩
theorem grows_of_below {W W' : World} (h : Below W.heap.size W W') : Grows W W' := ⟨h.os, h.tape, h.output, h.size, h.block⟩
end Go.Proofs.YtbahjinlcbjikaaGreat

/-! Package loglet, the plain words: nodes that are up or not, a net whose luck waits, with messages that are late. -/
namespace Go.Proofs.YtbahjinlcbjikaaGreat
open Go.RowKit

/-- A reply. -/
structure LRp where
  e : Int
  tl : Int
  sl : Bool
  b : List UInt8

/-- A node: what its store and its disk hold; none: it is not up. -/
abbrev Nds := Option (St × Dk)
structure LkS where
  net : NetS
  nds : List Nds

def LkS.fate (s : LkS) : Int := s.net.fate
theorem LkS.fate_bound (s : LkS) : 0 ≤ s.fate ∧ s.fate < 5 := s.net.fate_bound

/-- A node is asked: its reply, itself behind it. -/
def askD (d : Nds) (k lo po : Int) (l : List UInt8) : Option LRp × Nds :=
  match d with
  | none => (none, none)
  | some (S, D) =>
    (if tellsB (doF S D k lo po l).1 (tailF (doF S D k lo po l).2.2.1 lo) (doF S D k lo po l).2.1.length then
        some ⟨(doF S D k lo po l).1, tailF (doF S D k lo po l).2.2.1 lo, ((doF S D k lo po l).2.2.1.get lo).2.2, (doF S D k lo po l).2.1⟩ else none,
      some (doF S D k lo po l).2.2)
def askN (k lo po : Int) (l : List UInt8) : Nat → Nds → Option LRp × Nds
  | 0, d => (none, d)
  | t + 1, d => askD (askN k lo po l t d).2 k lo po l
def askL (s : LkS) (to k lo po : Int) (l : List UInt8) : Option LRp × LkS :=
  if rightB k lo po l.length = true ∧ 0 ≤ to ∧ to < s.nds.length then
    (if replyF s.fate then (askN k lo po l (timesF s.fate) (s.nds.getD to.toNat none)).1 else none,
      ⟨s.net.send to (frameB 1 (reqB k lo po l)), s.nds.set to.toNat (askN k lo po l (timesF s.fate) (s.nds.getD to.toNat none)).2⟩)
  else (none, s)
def repliesL (s : LkS) (k lo po : Int) (l : List UInt8) : List Int → List LRp × LkS
  | [] => ([], s)
  | n :: r => ((askL s n k lo po l).1.toList ++ (repliesL (askL s n k lo po l).2 k lo po l r).1, (repliesL (askL s n k lo po l).2 k lo po l r).2)

/-- How many replies have an error; the first of some errors that a reply has. -/
def cntE (e : Int) (rs : List LRp) : Nat := (rs.filter (fun r => decide (r.e = e))).length
def firstE : List Int → List LRp → Int
  | [], _ => 33
  | e :: es, rs => if 0 < cntE e rs then e else firstE es rs

structure Cfg where
  id : Int
  nodes : List Int
def checkB (c : Cfg) (n : Int) : Bool := decide (0 ≤ c.id ∧ c.id < 281474976710656 ∧ 1 ≤ c.nodes.length ∧ c.nodes.length ≤ 9 ∧ (∀ x ∈ c.nodes, 0 ≤ x ∧ x < n) ∧ c.nodes.Nodup)
def Cfg.quorum (c : Cfg) : Nat := c.nodes.length / 2 + 1
def mayB (s : LkS) (c : Cfg) (pos most : Int) : Bool := checkB c s.nds.length && decide (0 ≤ pos ∧ pos ≤ most)

def appendL (s : LkS) (c : Cfg) (pos : Int) (l : List UInt8) : Int × LkS :=
  if mayB s c pos 4095 then
    (if 65504 < l.length then (6, s)
     else (if c.quorum ≤ cntE 0 (repliesL s 1 c.id pos l c.nodes).1 then 0 else firstE [30, 31, 32, 7] (repliesL s 1 c.id pos l c.nodes).1, (repliesL s 1 c.id pos l c.nodes).2))
  else (1, s)
def tailL (rs : List LRp) : Int := rs.foldl (fun t r => if r.e = 0 then max t r.tl else t) 0
def sealL (s : LkS) (c : Cfg) : Int × Int × LkS :=
  if mayB s c 0 0 then
    (if cntE 0 (repliesL s 3 c.id 0 [] c.nodes).1 < c.quorum then (0, firstE [7] (repliesL s 3 c.id 0 [] c.nodes).1, (repliesL s 3 c.id 0 [] c.nodes).2)
     else (tailL (repliesL s 3 c.id 0 [] c.nodes).1, 0, (repliesL s 3 c.id 0 [] c.nodes).2))
  else (0, 1, s)
def copiesL (rs : List LRp) : List (List UInt8) := (rs.filter (fun r => decide (r.e = 0))).map (·.b)
def placeL (s : LkS) (c : Cfg) (pos : Int) : Int × LkS :=
  if 0 < cntE 32 (repliesL s 4 c.id pos [] c.nodes).1 ∨ c.quorum ≤ (copiesL (repliesL s 4 c.id pos [] c.nodes).1).length then (0, (repliesL s 4 c.id pos [] c.nodes).2)
  else match copiesL (repliesL s 4 c.id pos [] c.nodes).1 with
    | [] => (if c.nodes.length ≤ (repliesL s 4 c.id pos [] c.nodes).1.length then 3 else 33, (repliesL s 4 c.id pos [] c.nodes).2)
    | x :: _ => (if c.quorum ≤ cntE 0 (repliesL (repliesL s 4 c.id pos [] c.nodes).2 2 c.id pos x c.nodes).1 then 0 else firstE [31, 32, 7] (repliesL (repliesL s 4 c.id pos [] c.nodes).2 2 c.id pos x c.nodes).1,
        (repliesL (repliesL s 4 c.id pos [] c.nodes).2 2 c.id pos x c.nodes).2)
def placesL (c : Cfg) : Nat → LkS → Int → Int × LkS
  | 0, s, _ => (0, s)
  | j + 1, s, pos => if (placeL s c pos).1 = 0 then placesL c j (placeL s c pos).2 (pos + 1) else placeL s c pos
def repairL (s : LkS) (c : Cfg) (a b : Int) : Int × LkS :=
  if mayB s c a b = true ∧ b ≤ 4096 then placesL c (b - a).toNat s a else (1, s)
/-- Nodes are read, one behind the other, till one tells the data: the others' replies. -/
def readsL (s : LkS) (id pos : Int) : List Int → Option (List UInt8) × List LRp × LkS
  | [] => (none, [], s)
  | n :: r => match (askL s n 4 id pos []).1 with
    | none => readsL (askL s n 4 id pos []).2 id pos r
    | some p => if p.e = 0 then (some p.b, [], (askL s n 4 id pos []).2)
      else ((readsL (askL s n 4 id pos []).2 id pos r).1, p :: (readsL (askL s n 4 id pos []).2 id pos r).2.1, (readsL (askL s n 4 id pos []).2 id pos r).2.2)
def readL (s : LkS) (c : Cfg) (pos : Int) : List UInt8 × Int × LkS :=
  if mayB s c pos 4095 then match (readsL s c.id pos c.nodes).1 with
    | some b => (b, 0, (readsL s c.id pos c.nodes).2.2)
    | none => ([], if 0 < cntE 32 (readsL s c.id pos c.nodes).2.1 then 32 else if c.nodes.length ≤ cntE 3 (readsL s c.id pos c.nodes).2.1 then 3 else 33, (readsL s c.id pos c.nodes).2.2)
  else ([], 1, s)
def trimL (s : LkS) (c : Cfg) (pos : Int) : Int × LkS :=
  if mayB s c pos 4096 then (if c.quorum ≤ cntE 0 (repliesL s 6 c.id pos [] c.nodes).1 then 0 else firstE [7] (repliesL s 6 c.id pos [] c.nodes).1, (repliesL s 6 c.id pos [] c.nodes).2)
  else (1, s)
def luckL (s : LkS) (l : List Int) : LkS := ⟨s.net.lucky l, s.nds⟩

/-! gazettelaw07.knows: the plain law. -/
def L0 : LkS := ⟨⟨[], []⟩, [some (St.fresh, Dk.fresh 20), some (St.fresh, Dk.fresh 20), some (St.fresh, Dk.fresh 20)]⟩
def C3 : Cfg := ⟨1, [0, 1, 2]⟩
def L1 := appendL (luckL L0 [0, 0, 1]) C3 0 [97]
def L2 := appendL (luckL L1.2 [0, 1, 1]) C3 1 [98]
def L3 := sealL L2.2 C3
def L4 := repairL L3.2.2 C3 0 2
def L5 := readL L4.2 C3 1
set_option maxRecDepth 100000 in
theorem l1_told : L1.1 = 0 := by kernel_rfl
set_option maxRecDepth 100000 in
theorem l2_told : L2.1 = 33 := by kernel_rfl
set_option maxRecDepth 100000 in
theorem l3_told : L3.1 = 2 ∧ L3.2.1 = 0 := ⟨by kernel_rfl, by kernel_rfl⟩
set_option maxRecDepth 100000 in
theorem l4_told : L4.1 = 0 := by kernel_rfl
set_option maxRecDepth 100000 in
theorem l5_told : L5.1 = [98] ∧ L5.2.1 = 0 := ⟨by kernel_rfl, by kernel_rfl⟩
end Go.Proofs.YtbahjinlcbjikaaGreat

/-! append at ints. -/
namespace Go.Proofs.YtbahjinlcbjikaaGreat
open Go.RowKit

theorem info_int : ((Tryz.prog.info? 3).map (fun i => (i.zero, i.size, i.bytes))) = some (some (.int .i64 0), 1, 8) := by kernel_rfl
theorem run_appendI {P : Program} {T E : TypeId} {i : TypeInfo} (ht : P.underlying T = some (.slice E)) (hi : P.info? E = some i) (hz : i.zero = some (.int .i64 0)) (hsz : i.size = 1) (hby : i.bytes = 8) (ty : TypeId)
    {w : World} {base : Nat} {v x : Value} {l m : List Int} (hown : OwnI w base E v l) (hx : Is w x m) (hlen : (l.length + m.length) * 8 ≤ 140737488355328) (hbase : base ≤ w.heap.size) :
    ∃ v' w', (Builtin.append_ #[T, T] ty #[v, x]).run P w = .ok v' w' ∧ OwnI w' base E v' (l ++ m) ∧ w.grownBy w' v.ownBlock ∧ (∀ k, v'.ownBlock = some k → v.ownBlock = some k ∨ w.heap.size ≤ k) := by
  obtain ⟨a, c, rfl, hr⟩ := hx
  cases a with
  | none =>
    have hm : m = [] := by
      cases m with
      | nil => rfl
      | cons z m => obtain ⟨_, _, e, _⟩ := hr 0 z rfl; cases e
    subst hm
    refine ⟨v, w, ?_, by simpa using hown, ⟨rfl, rfl, rfl, Nat.le_refl _, fun _ _ _ => rfl⟩, fun k h => .inl h⟩
    rcases hown.2 with ⟨rfl, _⟩ | ⟨g, cap, cur, rfl, _, _, hnc, _⟩
    · simp [Builtin.append_, run_underlying ht, sizeOf, typeInfo, hi, Builtin.lenOf, Builtin.firstCells]
    · simp [Builtin.append_, run_underlying ht, sizeOf, typeInfo, hi, Builtin.lenOf, Builtin.firstCells, hnc, storeCells]
  | some ad =>
    have hcells : ∀ (j : Nat) (u : Value), (m.map iv)[j]? = some u → w.cell? (ad.add j) = some u := fun j u hu => by
        simp only [List.getElem?_map, Option.map_eq_some_iff] at hu
        obtain ⟨b, hb, rfl⟩ := hu
        obtain ⟨g, o, e, hc⟩ := hr j b hb
        cases e
        unfold Addr.add
        split
        · rename_i hz
          subst hz
          simpa using hc
        · exact hc
    have hone : ∀ u ∈ m.map iv, u.oneCell' = true := fun u hu => by
        simp only [List.mem_map] at hu
        obtain ⟨b, _, rfl⟩ := hu
        rfl
    by_cases hnil : v = .slice none 0 0
    · subst hnil
      obtain ⟨v', w', h1, h2, h3, h4⟩ := run_append_own (P := P) w w.heap.size T ty E i _ 1 8 ht hi hz hsz hby rfl (by decide) (.slice none 0 0) l.length (l.map iv) (by
        rcases hown.2 with ⟨_, h0⟩ | ⟨_, _, _, e, _⟩
        · have : l = [] := List.eq_nil_of_length_eq_zero h0
          subst this
          exact World.ownsRow_nil w w.heap.size E 1
        · cases e) ad m.length c (m.map iv) (by simp) hcells hone (by unfold maxLen; omega) (by omega) (Nat.le_refl _)
      refine ⟨v', w', h1, ?_, h3, fun k hk => .inr (World.ownsRow.lt h2 k hk).1⟩
      unfold OwnI
      rw [List.map_append, List.length_append]
      refine ⟨h2.1, h2.2.imp id ?_⟩
      rintro ⟨g, cap, cur, e, q1, r⟩
      exact ⟨g, cap, cur, e, by omega, r⟩
    · rcases hown.2 with ⟨h0, _⟩ | ⟨gv, cap, cur, rfl, hb, hg, hnc, hcm, hcs, htk⟩
      · exact absurd h0 hnil
      · by_cases hroom : l.length + m.length ≤ cap
        · obtain ⟨w', h1, h2, h3⟩ := run_append_fits (P := P) w base T ty E i 1 ht hi hsz gv l.length cap (l.map iv) hown ad m.length c (m.map iv) (by simp) hcells hone hroom
          refine ⟨_, w', h1, ?_, h3, fun k hk => .inl hk⟩
          unfold OwnI
          rw [List.map_append, List.length_append]
          exact h2
        · have holds : ∀ (j : Nat) (u : Value), (l.map iv)[j]? = some u → w.cell? ((⟨gv, 0, none⟩ : Addr).add j) = some u := fun j u hu => by
            have h9 : w.cell? ⟨gv, j, none⟩ = some u := by
              rw [← htk, List.getElem?_take] at hu
              split at hu
              · simp [World.cell?, hg]
                simpa using hu
              · cases hu
            unfold Addr.add
            split
            · rename_i hz
              subst hz
              exact h9
            · simpa using h9
          obtain ⟨v', w', h1, h2, h3⟩ := run_append_arg_grows (P := P) w T ty E i _ 1 8 ht hi hz hsz hby rfl (by decide) ⟨gv, 0, none⟩ l.length cap (l.map iv) (by simp) holds ad m.length c (m.map iv) (by simp) hcells (by omega) (by unfold maxLen; omega) (by omega)
          have ho' : OwnI w' w.heap.size E v' (l ++ m) := by
            unfold OwnI
            rw [List.map_append, List.length_append]
            exact h2
          refine ⟨v', w', h1, ?_, ⟨h3.os, h3.tape, h3.output, h3.size, fun k hk _ => h3.block k hk (by simp)⟩, fun k hk => .inr (World.ownsRow.lt ho' k hk).1⟩
          refine ⟨ho'.1, ho'.2.imp id ?_⟩
          rintro ⟨g, cap2, cur2, e, q1, r⟩
          exact ⟨g, cap2, cur2, e, by omega, r⟩
end Go.Proofs.YtbahjinlcbjikaaGreat

/-! '[]byte("x")' of one byte, as the text has it: a literal slice that is converted. -/
namespace Go.Proofs.YtbahjinlcbjikaaGreat
open Go.RowKit

theorem litA_bs {W W' : World} (x : Int) (u : UInt8) (hx : x = (u.toNat : Int)) (h : (W.alloc (.cells #[.int .u8 x] 5)).freeze ⟨W.heap.size, 1, none⟩ 1 = W') : Bs W' (.slice (some ⟨W.heap.size, 0, none⟩) 1 1) [u] := by
  rw [← h]
  refine Bs.mk rfl (Nat.le_refl _) (by simp [maxLen]) (fun i y hi => ?_)
  match i, hi with
  | 0, hi =>
    simp at hi
    subst hi
    have hb := Blk.new W #[.int .u8 x] 5
    unfold Blk at hb
    generalize W.alloc (.cells #[.int .u8 x] 5) = V at hb ⊢
    generalize W.heap.size = g at hb ⊢
    simp [World.cell?, World.freeze, Array.getElem?_modify, hb, hx]
theorem litA_below {W W' : World} {x : Int} (h : (W.alloc (.cells #[.int .u8 x] 5)).freeze ⟨W.heap.size, 1, none⟩ 1 = W') : Below W.heap.size W W' := by
  rw [← h]
  exact Lib.below_freeze ((Below.refl _ W).alloc (Nat.le_refl _) _) (Nat.le_refl _) 1
theorem litA_conv {W W' : World} {x : Int} (h : (W.alloc (.cells #[.int .u8 x] 5)).freeze ⟨W.heap.size, 1, none⟩ 1 = W') : (convert 35 35 (.slice (some ⟨W.heap.size, 0, none⟩) 1 1)).run Tryz.prog (W.alloc (.cells #[.int .u8 x] 5)) = .ok (.slice (some ⟨W.heap.size, 0, none⟩) 1 1) W' := by
  have hb := Blk.new W #[.int .u8 x] 5
  unfold Blk at hb
  rw [← h]
  clear h
  generalize W.alloc (.cells #[.int .u8 x] 5) = V at hb ⊢
  generalize W.heap.size = g at hb ⊢
  simp [convert, run_underlying Tryz.underlying35, run_underlying Tryz.underlying5, Sem.run_bind, markStringish, World.shape?, hb]
end Go.Proofs.YtbahjinlcbjikaaGreat
