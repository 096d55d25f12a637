import Derived.Test.YtbahjinlcbjikaaGreatAsk
import Derived.Test.YtbahjinlcbjikaaGreatMOpenB
/-! Package node: Ask of a node that is up, on any bytes. -/
namespace Go.Proofs.YtbahjinlcbjikaaGreat
open Go.RowKit

section
variable {W : World} {n : Nat} {pv : Value} {q : StP} {S : St} {D : Dk}
set_option maxRecDepth 100000 in
set_option maxHeartbeats 1600000 in
theorem node_Ask_none (h : NodeAt W n pv q S D) (v : Value) (b : List UInt8) (hv : Bs W v b) (hl : b.length ≤ 1073741824) (hreq : getReq b = none) :
    Calls Tryz.prog 47 #[.pointer (some ⟨n, 0, none⟩), v] W fun e w' => ∃ v', e = .returned v' ∧ Own8 w' W.heap.size 5 v' (askF S D b).1 ∧ (∃ q', NodeAt w' n pv q' (askF S D b).2.1 (askF S D b).2.2 ∧ Went q q' W.heap.size) ∧ Ext q.own W w' := by
  have hask : askF S D b = (putRepB 22 0 false [], S, D) := by unfold askF; rw [hreq]
  have HE := hid hask
  clear hask
  obtain ⟨a0, c0, rfl⟩ := hv.form
  have hgr := get_request _ b (W.alloc (.cells #[.int .i64 22, .int .i64 0, .bool false, .slice none 0 0] 51)) (hv.keep ((Below.refl _ W).alloc (Nat.le_refl _) _)) hl
  have b1 : Below W.heap.size W (W.alloc (.cells #[.int .i64 22, .int .i64 0, .bool false, .slice none 0 0] 51)) := (Below.refl _ W).alloc (Nat.le_refl _) _
  have k5 := Blk.new W #[.int .i64 22, .int .i64 0, .bool false, .slice none 0 0] 51
  have h1 := h.keep b1
  have HG := hid hgr
  clear hgr hv
  go_enter Tryz.func47, Tryz.ntmps47
  go_wp2_with fail
  refine (node_Up h).mono ?_
  rintro e W9 ⟨rfl, hw⟩
  rw [hw]
  clear hw W9
  go_wp2_with fail
  refine HG.out.mono ?_
  intro e W2 hpost
  unfold ReqPost at hpost
  rw [hreq] at hpost
  obtain ⟨rfl, b2⟩ := hpost
  have b12 : Below W.heap.size W W2 := b1.trans (b2.mono b1.size)
  have b3 : Below W2.heap.size W2 (W2.alloc (.cells #[.int .i64 0, .int .i64 0, .int .i64 0, .slice none 0 0] 55)) := (Below.refl _ W2).alloc (Nat.le_refl _) _
  have b13 : Below W.heap.size W _ := b12.trans (b3.mono b12.size)
  have k9 := (k5.keep b2).keep b3
  have g0 := k9.cell (o := 0) rfl
  have g1 := k9.cell (o := 1) rfl
  have g2 := k9.cell (o := 2) rfl
  have g3 := k9.cell (o := 3) rfl
  have HPR := hid (put_reply 22 0 false (.slice none 0 0) [] (W2.alloc (.cells #[.int .i64 0, .int .i64 0, .int .i64 0, .slice none 0 0] 55)) (Bs.nil _))
  have HB := hid (And.intro b13 h)
  clear HG b1 b2 b3 b12 b13 h h1 k5 k9
  go_wp2_with fail
  refine HPR.out.mono ?_
  rintro e w' ⟨v', c, rfl, ho, hb, _⟩
  have HO := hid (And.intro ho hb)
  clear HPR g0 g1 g2 g3 ho hb
  go_wp2_with fail
  go_ret
  rw [HE.out]
  have hb9 := HB.out.1.trans (HO.out.2.mono HB.out.1.size)
  exact ⟨_, rfl, HO.out.1.mono HB.out.1.size, ⟨q, HB.out.2.keep hb9, Went.refl _ _⟩, Ext.ofBelow hb9⟩

theorem getReq_right {b d : List UInt8} {k lo po : Nat} (h : getReq b = some (k, lo, po, d)) : rightB k lo po d.length = true := by
  unfold getReq at h
  split at h
  · cases h
  · split at h
    · rename_i hr
      simp only [Option.some.injEq, Prod.mk.injEq] at h
      obtain ⟨rfl, rfl, rfl, rfl⟩ := h
      exact hr
    · cases h

theorem node_Ask (h : NodeAt W n pv q S D) (v : Value) (b : List UInt8) (hv : Bs W v b) (hl : b.length ≤ 1073741824) :
    Calls Tryz.prog 47 #[.pointer (some ⟨n, 0, none⟩), v] W fun e w' => ∃ v', e = .returned v' ∧ Own8 w' W.heap.size 5 v' (askF S D b).1 ∧ (∃ q', NodeAt w' n pv q' (askF S D b).2.1 (askF S D b).2.2 ∧ Went q q' W.heap.size) ∧ Ext q.own W w' := by
  cases hreq : getReq b with
  | none => exact node_Ask_none h v b hv hl hreq
  | some x =>
    obtain ⟨k, lo, po, d⟩ := x
    have hr := of_decide_eq_true (getReq_right hreq)
    obtain ⟨hk1, hk2, l0, l1, p0, p1, hd, _⟩ := hr
    have hk : k = 1 ∨ k = 2 ∨ k = 3 ∨ k = 4 ∨ k = 5 ∨ k = 6 := by omega
    rcases hk with rfl | rfl | rfl | rfl | rfl | rfl
    · exact node_Ask_some h v b hv hl _ lo po d hreq 78 (fun args w => by go_simp) rfl (by decide) (fun W' dv a1 a2 a3 => h_write a1 lo po dv d a2 a3 hd l0 l1 p0 p1)
    · exact node_Ask_some h v b hv hl _ lo po d hreq 79 (fun args w => by go_simp) rfl (by decide) (fun W' dv a1 a2 a3 => h_repair a1 lo po dv d a2 a3 hd l0 l1 p0 p1)
    · exact node_Ask_some h v b hv hl _ lo po d hreq 80 (fun args w => by go_simp) rfl (by decide) (fun W' dv a1 a2 a3 => h_seal a1 lo po dv d a2 a3 hd l0 l1 p0 p1)
    · exact node_Ask_some h v b hv hl _ lo po d hreq 81 (fun args w => by go_simp) rfl (by decide) (fun W' dv a1 a2 a3 => by obtain ⟨ax, cx, rfl⟩ := a2.form; exact h_read a1 lo po ax d cx l0 l1 p0 p1)
    · exact node_Ask_some h v b hv hl _ lo po d hreq 82 (fun args w => by go_simp) rfl (by decide) (fun W' dv a1 a2 a3 => by obtain ⟨ax, cx, rfl⟩ := a2.form; exact h_look a1 lo po ax d cx)
    · exact node_Ask_some h v b hv hl _ lo po d hreq 83 (fun args w => by go_simp) rfl (by decide) (fun W' dv a1 a2 a3 => h_trim a1 lo po dv d a2 a3 hd l0 l1 p0 p1)
end
end Go.Proofs.YtbahjinlcbjikaaGreat

/-! Package loglet, the plain words: nodes that are up or not, a net whose luck waits; nothing late. -/
namespace Go.Proofs.YtbahjinlcbjikaaGreat
open Go.RowKit

/-- A reply. -/
structure LRp where
  e : Int
  tl : Int
  sl : Bool
  b : List UInt8

/-- A node: what its store and its disk hold; none: it is not up. -/
abbrev Nds := Option (St × Dk)
structure LkS where
  luck : List Int
  nds : List Nds

def mod5 (x : Int) : Int := (x.tmod 5 + 5).tmod 5
theorem mod5_bound (x : Int) : 0 ≤ mod5 x ∧ mod5 x < 5 := by
  unfold mod5
  have h1 := Int.lt_tmod_of_pos x (show (0 : Int) < 5 by omega)
  have h2 := Int.tmod_lt_of_pos x (show (0 : Int) < 5 by omega)
  have h3 : 0 ≤ x.tmod 5 + 5 := by omega
  exact ⟨Int.tmod_nonneg 5 h3, Int.tmod_lt_of_pos _ (by omega)⟩
def LkS.fate (s : LkS) : Int := match s.luck with
  | [] => 0
  | x :: _ => mod5 x
theorem LkS.fate_bound (s : LkS) : 0 ≤ s.fate ∧ s.fate < 5 := by
  unfold LkS.fate
  split
  · omega
  · exact mod5_bound _
def timesF (c : Int) : Nat := if c = 0 then 1 else if c = 2 then 1 else if c = 4 then 2 else 0
def replyF (c : Int) : Bool := decide (c = 0 ∨ c = 4)

/-- A node is asked: its reply, itself behind it. -/
def askD (d : Nds) (k lo po : Int) (l : List UInt8) : Option LRp × Nds :=
  match d with
  | none => (none, none)
  | some (S, D) =>
    (if tellsB (doF S D k lo po l).1 (tailF (doF S D k lo po l).2.2.1 lo) (doF S D k lo po l).2.1.length then
        some ⟨(doF S D k lo po l).1, tailF (doF S D k lo po l).2.2.1 lo, ((doF S D k lo po l).2.2.1.get lo).2.2, (doF S D k lo po l).2.1⟩ else none,
      some (doF S D k lo po l).2.2)
def askN (k lo po : Int) (l : List UInt8) : Nat → Nds → Option LRp × Nds
  | 0, d => (none, d)
  | t + 1, d => askD (askN k lo po l t d).2 k lo po l
def askL (s : LkS) (to k lo po : Int) (l : List UInt8) : Option LRp × LkS :=
  if rightB k lo po l.length = true ∧ 0 ≤ to ∧ to < s.nds.length then
    (if replyF s.fate then (askN k lo po l (timesF s.fate) (s.nds.getD to.toNat none)).1 else none,
      ⟨s.luck.tail, s.nds.set to.toNat (askN k lo po l (timesF s.fate) (s.nds.getD to.toNat none)).2⟩)
  else (none, s)
def repliesL (s : LkS) (k lo po : Int) (l : List UInt8) : List Int → List LRp × LkS
  | [] => ([], s)
  | n :: r => ((askL s n k lo po l).1.toList ++ (repliesL (askL s n k lo po l).2 k lo po l r).1, (repliesL (askL s n k lo po l).2 k lo po l r).2)

/-- How many replies have an error; the first of some errors that a reply has. -/
def cntE (e : Int) (rs : List LRp) : Nat := (rs.filter (fun r => decide (r.e = e))).length
def firstE : List Int → List LRp → Int
  | [], _ => 33
  | e :: es, rs => if 0 < cntE e rs then e else firstE es rs

structure Cfg where
  id : Int
  nodes : List Int
def checkB (c : Cfg) (n : Int) : Bool := decide (0 ≤ c.id ∧ c.id < 281474976710656 ∧ 1 ≤ c.nodes.length ∧ c.nodes.length ≤ 9 ∧ (∀ x ∈ c.nodes, 0 ≤ x ∧ x < n) ∧ c.nodes.Nodup)
def Cfg.quorum (c : Cfg) : Nat := c.nodes.length / 2 + 1
def mayB (s : LkS) (c : Cfg) (pos most : Int) : Bool := checkB c s.nds.length && decide (0 ≤ pos ∧ pos ≤ most)

def appendL (s : LkS) (c : Cfg) (pos : Int) (l : List UInt8) : Int × LkS :=
  if mayB s c pos 4095 then
    (if 65504 < l.length then (6, s)
     else (if c.quorum ≤ cntE 0 (repliesL s 1 c.id pos l c.nodes).1 then 0 else firstE [30, 31, 32, 7] (repliesL s 1 c.id pos l c.nodes).1, (repliesL s 1 c.id pos l c.nodes).2))
  else (1, s)
def tailL (rs : List LRp) : Int := rs.foldl (fun t r => if r.e = 0 then max t r.tl else t) 0
def sealL (s : LkS) (c : Cfg) : Int × Int × LkS :=
  if mayB s c 0 0 then
    (if cntE 0 (repliesL s 3 c.id 0 [] c.nodes).1 < c.quorum then (0, firstE [7] (repliesL s 3 c.id 0 [] c.nodes).1, (repliesL s 3 c.id 0 [] c.nodes).2)
     else (tailL (repliesL s 3 c.id 0 [] c.nodes).1, 0, (repliesL s 3 c.id 0 [] c.nodes).2))
  else (0, 1, s)
def copiesL (rs : List LRp) : List (List UInt8) := (rs.filter (fun r => decide (r.e = 0))).map (·.b)
def placeL (s : LkS) (c : Cfg) (pos : Int) : Int × LkS :=
  if 0 < cntE 32 (repliesL s 4 c.id pos [] c.nodes).1 ∨ c.quorum ≤ (copiesL (repliesL s 4 c.id pos [] c.nodes).1).length then (0, (repliesL s 4 c.id pos [] c.nodes).2)
  else match copiesL (repliesL s 4 c.id pos [] c.nodes).1 with
    | [] => (if c.nodes.length ≤ (repliesL s 4 c.id pos [] c.nodes).1.length then 3 else 33, (repliesL s 4 c.id pos [] c.nodes).2)
    | x :: _ => (if c.quorum ≤ cntE 0 (repliesL (repliesL s 4 c.id pos [] c.nodes).2 2 c.id pos x c.nodes).1 then 0 else firstE [31, 32, 7] (repliesL (repliesL s 4 c.id pos [] c.nodes).2 2 c.id pos x c.nodes).1,
        (repliesL (repliesL s 4 c.id pos [] c.nodes).2 2 c.id pos x c.nodes).2)
def placesL (c : Cfg) : Nat → LkS → Int → Int × LkS
  | 0, s, _ => (0, s)
  | j + 1, s, pos => if (placeL s c pos).1 = 0 then placesL c j (placeL s c pos).2 (pos + 1) else placeL s c pos
def repairL (s : LkS) (c : Cfg) (a b : Int) : Int × LkS :=
  if mayB s c a b = true ∧ b ≤ 4096 then placesL c (b - a).toNat s a else (1, s)
/-- Nodes are read, one behind the other, till one tells the data: the others' replies. -/
def readsL (s : LkS) (id pos : Int) : List Int → Option (List UInt8) × List LRp × LkS
  | [] => (none, [], s)
  | n :: r => match (askL s n 4 id pos []).1 with
    | none => readsL (askL s n 4 id pos []).2 id pos r
    | some p => if p.e = 0 then (some p.b, [], (askL s n 4 id pos []).2)
      else ((readsL (askL s n 4 id pos []).2 id pos r).1, p :: (readsL (askL s n 4 id pos []).2 id pos r).2.1, (readsL (askL s n 4 id pos []).2 id pos r).2.2)
def readL (s : LkS) (c : Cfg) (pos : Int) : List UInt8 × Int × LkS :=
  if mayB s c pos 4095 then match (readsL s c.id pos c.nodes).1 with
    | some b => (b, 0, (readsL s c.id pos c.nodes).2.2)
    | none => ([], if 0 < cntE 32 (readsL s c.id pos c.nodes).2.1 then 32 else if c.nodes.length ≤ cntE 3 (readsL s c.id pos c.nodes).2.1 then 3 else 33, (readsL s c.id pos c.nodes).2.2)
  else ([], 1, s)
def trimL (s : LkS) (c : Cfg) (pos : Int) : Int × LkS :=
  if mayB s c pos 4096 then (if c.quorum ≤ cntE 0 (repliesL s 6 c.id pos [] c.nodes).1 then 0 else firstE [7] (repliesL s 6 c.id pos [] c.nodes).1, (repliesL s 6 c.id pos [] c.nodes).2)
  else (1, s)
def luckL (s : LkS) (l : List Int) : LkS := ⟨s.luck ++ l, s.nds⟩

/-! gazettelaw07.knows: the plain law. -/
def L0 : LkS := ⟨[], [some (St.fresh, Dk.fresh 20), some (St.fresh, Dk.fresh 20), some (St.fresh, Dk.fresh 20)]⟩
def C3 : Cfg := ⟨1, [0, 1, 2]⟩
def L1 := appendL (luckL L0 [0, 0, 1]) C3 0 [97]
def L2 := appendL (luckL L1.2 [0, 1, 1]) C3 1 [98]
def L3 := sealL L2.2 C3
def L4 := repairL L3.2.2 C3 0 2
def L5 := readL L4.2 C3 1
set_option maxRecDepth 100000 in
theorem l1_told : L1.1 = 0 := by kernel_rfl
set_option maxRecDepth 100000 in
theorem l2_told : L2.1 = 33 := by kernel_rfl
set_option maxRecDepth 100000 in
theorem l3_told : L3.1 = 2 ∧ L3.2.1 = 0 := ⟨by kernel_rfl, by kernel_rfl⟩
set_option maxRecDepth 100000 in
theorem l4_told : L4.1 = 0 := by kernel_rfl
set_option maxRecDepth 100000 in
theorem l5_told : L5.1 = [98] ∧ L5.2.1 = 0 := ⟨by kernel_rfl, by kernel_rfl⟩
end Go.Proofs.YtbahjinlcbjikaaGreat
