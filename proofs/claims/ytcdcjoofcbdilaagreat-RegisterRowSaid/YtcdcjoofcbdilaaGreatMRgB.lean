import Derived.Test.YtcdcjoofcbdilaaGreatMQNet
import Derived.Test.YtcdcjoofcbdilaaGreatMAccA
import Derived.Test.YtcdcjoofcbdilaaGreatAccX
import Derived.Test.YtcdcjoofcbdilaaGreatAccG
/-! Package register: a link to acceptors in memory. -/
namespace Go.Proofs.YtcdcjoofcbdilaaGreat
open Go.RowKit

def AcdAt (W : World) (v : Value) (own : Nat → Prop) : Acs → Prop
  | some (F, S, D) => ∃ n mf pv q, v = .pointer (some ⟨n, 0, none⟩) ∧ AccAt W n mf pv q F S D ∧ ∀ b, (b = n ∨ b = mf ∨ q.all b) → own b
  | none => v = .pointer none ∨ ∃ n pv mv, v = .pointer (some ⟨n, 0, none⟩) ∧ Blk W n #[pv, .pointer none, mv] 95 ∧ own n
theorem AcdAt.ext {fp : Nat → Prop} {W W' : World} {v : Value} {own : Nat → Prop} {d : Acs} (h : AcdAt W v own d) (he : Ext fp W W') (hn : ∀ b, own b → ¬ fp b) : AcdAt W' v own d := by
  match d, h with
  | some (F, S, D), h =>
    obtain ⟨n, mf, pv, q, e, h1, h2⟩ := h
    exact ⟨n, mf, pv, q, e, h1.ext2 he (fun b hb hq => hn b (h2 b (.inr (.inr hq))) hb) (hn _ (h2 _ (.inl rfl))) (hn _ (h2 _ (.inr (.inl rfl)))), h2⟩
  | none, h =>
    rcases h with h | ⟨n, pv, mv, e, h1, h2⟩
    · exact .inl h
    · exact .inr ⟨n, pv, mv, e, h1.ext he (hn _ h2), h2⟩

structure RgL where
  q : NetP
  na : Nat
  cap : Nat
  vs : List Value
  ow : Nat → Nat → Prop
def RgL.all (p : RgL) (L : Nat) (b : Nat) : Prop := b = L ∨ p.q.all b ∨ b = p.na ∨ ∃ i, p.ow i b

structure RgAt (W : World) (L : Nat) (p : RgL) (s : RgS) : Prop where
  link : Blk W L #[.pointer (some ⟨p.q.N, 0, none⟩), .slice (some ⟨p.na, 0, none⟩) s.acs.length p.cap, .int .i64 s.base] 28
  net : NetAt W p.q s.net
  arr : ∃ cs, Blk W p.na cs 41 ∧ ∀ (i : Nat) v, p.vs[i]? = some v → cs[i]? = some v
  len : p.vs.length = s.acs.length
  few : s.acs.length ≤ 1000
  acs : ∀ (i : Nat) d, s.acs[i]? = some d → ∃ v, p.vs[i]? = some v ∧ AcdAt W v (p.ow i) d
  low : 0 ≤ s.base ∧ s.base ≤ 1000000
  dis : ∀ i j b, p.ow i b → p.ow j b → i = j
  base : L ≠ p.na ∧ ¬ p.q.all L ∧ ¬ p.q.all p.na
  owd : ∀ i b, p.ow i b → b ≠ L ∧ ¬ p.q.all b ∧ b ≠ p.na
  lt : ∀ i b, p.ow i b → b < W.heap.size

section
variable {W W' : World} {L : Nat} {p : RgL} {s : RgS}
theorem RgAt.size (h : RgAt W L p s) {b : Nat} (hb : p.all L b) : b < W.heap.size := by
  rcases hb with rfl | hb | rfl | ⟨i, hb⟩
  · exact h.link.lt
  · exact h.net.size hb
  · obtain ⟨_, hc, _⟩ := h.arr; exact hc.lt
  · exact h.lt i b hb
theorem RgAt.ext {fp : Nat → Prop} (h : RgAt W L p s) (he : Ext fp W W') (hn : ∀ b, fp b → ¬ p.all L b) : RgAt W' L p s where
  link := h.link.ext he (fun hf => hn _ hf (.inl rfl))
  net := h.net.ext he (fun b hb hf => hn b hf (.inr (.inl hb)))
  arr := by obtain ⟨cs, hc, hv⟩ := h.arr; exact ⟨cs, hc.ext he (fun hf => hn _ hf (.inr (.inr (.inl rfl)))), hv⟩
  len := h.len
  few := h.few
  acs := fun i d hd => by
    obtain ⟨v, h1, h2⟩ := h.acs i d hd
    exact ⟨v, h1, h2.ext he (fun b hb hf => hn b hf (.inr (.inr (.inr ⟨i, hb⟩))))⟩
  low := h.low
  dis := h.dis
  base := h.base
  owd := h.owd
  lt := fun i b hb => Nat.lt_of_lt_of_le (h.lt i b hb) he.size
theorem RgAt.keep (h : RgAt W L p s) (hb : Below W.heap.size W W') : RgAt W' L p s := h.ext (fp := nofp) (Ext.ofBelow hb) (fun _ h => h.elim)

/-- An acceptor was asked. -/
theorem RgAt.acc (h : RgAt W L p s) {i n mf : Nat} {pv : Value} {q q' : StP} {F' : Fs} {S' : St} {D' : Dk} (hi : i < s.acs.length) (hv : p.vs[i]? = some (.pointer (some ⟨n, 0, none⟩))) (hown : ∀ b, (b = n ∨ b = mf ∨ q.all b) → p.ow i b)
    (h1 : AccAt W' n mf pv q' F' S' D') (hw : Went q q' W.heap.size) (hx : Ext (fun b => b = mf ∨ q.own b) W W') :
    ∃ p', RgAt W' L p' ⟨s.net, s.acs.set i (some (F', S', D')), s.base⟩ ∧ p'.q = p.q ∧ p'.vs = p.vs ∧ (∀ b, p'.ow i b ↔ b = n ∨ b = mf ∨ q'.all b) ∧ (∀ b, p'.all L b → p.all L b ∨ W.heap.size ≤ b) := by
  have ho : ∀ b, (b = n ∨ b = mf ∨ q'.all b) → p.ow i b ∨ W.heap.size ≤ b := by
    rintro b (hb | hb | hb)
    · exact .inl (hown b (.inl hb))
    · exact .inl (hown b (.inr (.inl hb)))
    · exact (hw.2.2.2.2 b hb).imp (fun h => hown b (.inr (.inr h))) id
  have hnot : ∀ b, (b = mf ∨ q.own b) → p.ow i b := fun b hb => hown b (.inr (hb.imp id .inl))
  have hlb : L < W.heap.size := h.link.lt
  have hab : p.na < W.heap.size := by obtain ⟨_, hc, _⟩ := h.arr; exact hc.lt
  refine ⟨⟨p.q, p.na, p.cap, p.vs, fun j b => if j = i then (b = n ∨ b = mf ∨ q'.all b) else p.ow j b⟩, ?_, rfl, rfl, fun b => by simp, ?_⟩
  · refine ⟨?_, ?_, ?_, ?_, ?_, ?_, h.low, ?_, h.base, ?_, ?_⟩
    · simp only [List.length_set]
      exact h.link.ext hx (fun hc => (h.owd i _ (hnot _ hc)).1 rfl)
    · exact h.net.ext hx (fun b hb hc => (h.owd i _ (hnot _ hc)).2.1 hb)
    · obtain ⟨cs, hc, hvs⟩ := h.arr
      exact ⟨cs, hc.ext hx (fun hc => (h.owd i _ (hnot _ hc)).2.2 rfl), hvs⟩
    · simp only [List.length_set]; exact h.len
    · simp only [List.length_set]; exact h.few
    · intro j d hd
      simp only at hd ⊢
      by_cases hj : j = i
      · subst hj
        rw [List.getElem?_set_self hi] at hd
        cases hd
        refine ⟨_, hv, n, mf, pv, q', rfl, h1, fun b hb => ?_⟩
        simp only [if_true]
        exact hb
      · rw [List.getElem?_set_ne (fun e => hj e.symm)] at hd
        obtain ⟨v, e1, e2⟩ := h.acs j d hd
        refine ⟨v, e1, ?_⟩
        simp only [if_neg hj]
        exact e2.ext hx (fun b hb hc => hj (h.dis j i b hb (hnot b hc)))
    · intro j k b hj hk
      simp only at hj hk
      by_cases h1 : j = i
      · by_cases h2 : k = i
        · rw [h1, h2]
        · rw [if_pos h1] at hj
          rw [if_neg h2] at hk
          rcases ho b hj with h3 | h3
          · exact absurd (h.dis _ _ b hk h3) h2
          · have := h.lt k b hk; omega
      · rw [if_neg h1] at hj
        by_cases h2 : k = i
        · rw [if_pos h2] at hk
          rcases ho b hk with h3 | h3
          · exact absurd (h.dis _ _ b hj h3) h1
          · have := h.lt j b hj; omega
        · rw [if_neg h2] at hk
          exact h.dis j k b hj hk
    · intro j b hj
      simp only at hj ⊢
      by_cases h1 : j = i
      · rw [if_pos h1] at hj
        rcases ho b hj with h3 | h3
        · exact h.owd i b h3
        · exact ⟨by omega, fun hc => by have := h.net.size hc; omega, by omega⟩
      · rw [if_neg h1] at hj
        exact h.owd j b hj
    · intro j b hj
      simp only at hj
      by_cases h2 : j = i
      · rw [if_pos h2] at hj
        rcases hj with rfl | rfl | hj
        · exact h1.cell.lt
        · exact h1.mlt
        · exact h1.st.size hj
      · rw [if_neg h2] at hj
        exact Nat.lt_of_lt_of_le (h.lt j b hj) hx.size
  · rintro b (hb | hb | hb | ⟨j, hb⟩)
    · exact .inl (.inl hb)
    · exact .inl (.inr (.inl hb))
    · exact .inl (.inr (.inr (.inl hb)))
    · simp only at hb
      by_cases h2 : j = i
      · rw [if_pos h2] at hb
        exact (ho b hb).imp (fun h => .inr (.inr (.inr ⟨i, h⟩))) id
      · rw [if_neg h2] at hb
        exact .inl (.inr (.inr (.inr ⟨j, hb⟩)))

/-- The net was turned. -/
theorem RgAt.netted (h : RgAt W L p s) {q' : NetP} {n' : NetS} (h1 : NetAt W' q' n') (hN : q'.N = p.q.N) (hq : ∀ b, q'.all b → p.q.all b ∨ W.heap.size ≤ b) (hx : Ext p.q.all W W') :
    RgAt W' L ⟨q', p.na, p.cap, p.vs, p.ow⟩ ⟨n', s.acs, s.base⟩ ∧ (∀ b, (⟨q', p.na, p.cap, p.vs, p.ow⟩ : RgL).all L b → p.all L b ∨ W.heap.size ≤ b) := by
  have hlb : L < W.heap.size := h.link.lt
  have hab : p.na < W.heap.size := by obtain ⟨_, hc, _⟩ := h.arr; exact hc.lt
  refine ⟨⟨?_, h1, ?_, h.len, h.few, ?_, h.low, h.dis, ⟨h.base.1, fun hc => ?_, fun hc => ?_⟩, fun i b hb => ⟨(h.owd i b hb).1, fun hc => ?_, (h.owd i b hb).2.2⟩, fun i b hb => Nat.lt_of_lt_of_le (h.lt i b hb) hx.size⟩, ?_⟩
  · show Blk W' L #[.pointer (some ⟨q'.N, 0, none⟩), .slice (some ⟨p.na, 0, none⟩) s.acs.length p.cap, .int .i64 s.base] 28
    rw [hN]
    exact h.link.ext hx h.base.2.1
  · obtain ⟨cs, hc, hvs⟩ := h.arr
    exact ⟨cs, hc.ext hx h.base.2.2, hvs⟩
  · intro i d hd
    obtain ⟨v, e1, e2⟩ := h.acs i d hd
    exact ⟨v, e1, e2.ext hx (fun b hb hc => (h.owd i b hb).2.1 hc)⟩
  · exact (hq L hc).elim h.base.2.1 (fun h => by omega)
  · exact (hq p.na hc).elim h.base.2.2 (fun h => by omega)
  · exact (hq b hc).elim (h.owd i b hb).2.1 (fun h9 => by have := h.lt i b hb; omega)
  · rintro b (hb | hb | hb | ⟨j, hb⟩)
    · exact .inl (.inl hb)
    · exact (hq b hb).imp (fun h => .inr (.inl h)) id
    · exact .inl (.inr (.inr (.inl hb)))
    · exact .inl (.inr (.inr (.inr ⟨j, hb⟩)))
end
end Go.Proofs.YtcdcjoofcbdilaaGreat

/-! Package register: none; an acceptor that is not up is asked; plain words of Ask. -/
namespace Go.Proofs.YtcdcjoofcbdilaaGreat
open Go.RowKit

/-- So many messages more may be late. -/
def RgS.room (s : RgS) (c : Nat) : Prop := s.net.late.length + c ≤ 4000000000000
theorem RgS.room.le {s : RgS} {a b : Nat} (h : s.room a) (hb : b ≤ a) : s.room b := by
  unfold RgS.room at *
  omega
/-- An acceptor that is not up. -/
def OffAc (W : World) (v : Value) : Prop := v = .pointer none ∨ ∃ n pv mv, v = .pointer (some ⟨n, 0, none⟩) ∧ Blk W n #[pv, .pointer none, mv] 95
section
variable {W : World} {v : Value}
set_option maxHeartbeats 800000 in
theorem offac_Up (h : OffAc W v) : Calls Tryz.prog 63 #[v] W fun e w' => e = .returned (.bool false) ∧ w' = W := by
  rcases h with rfl | ⟨n, pv, mv, rfl, hb⟩
  · go_enter Tryz.func63, Tryz.ntmps63
    go_wp2_with fail
    go_ret
    exact ⟨rfl, rfl⟩
  · have c1 := hb.cell (o := 1) rfl
    go_enter Tryz.func63, Tryz.ntmps63
    go_wp2_with fail
    go_ret
    exact ⟨rfl, rfl⟩
set_option maxHeartbeats 800000 in
theorem offac_Ask (h : OffAc W v) (a : Option Addr) (n c : Nat) : Calls Tryz.prog 34 #[v, .slice a n c] W fun e w' => e = .returned (.slice none 0 0) ∧ w' = W := by
  go_enter Tryz.func34, Tryz.ntmps34
  go_wp2_with fail
  refine (offac_Up h).mono ?_
  rintro e W1 ⟨rfl, hw⟩
  rw [hw]
  clear hw W1
  go_wp2_with fail
  go_ret
  exact ⟨rfl, rfl⟩
end
section
variable {W : World} {L : Nat} {p : RgL} {s : RgS}
set_option maxHeartbeats 800000 in
theorem reg_none (h : RgAt W L p s) : Calls Tryz.prog 32 #[.pointer (some ⟨L, 0, none⟩)] W fun e w' => e = .returned (.bool false) ∧ w' = W := by
  have c0 := h.link.cell (o := 0) rfl
  go_enter Tryz.func32, Tryz.ntmps32
  go_wp2_with fail
  refine (net_Made h.net.net).mono ?_
  rintro e Wx ⟨rfl, hw⟩
  rw [hw]
  clear hw Wx
  go_wp2_with fail
  go_ret
  exact ⟨rfl, rfl⟩
end
/-- An acceptor's bytes, of what it answers. -/
def bytesA : Option An → List UInt8
  | none => []
  | some r => frameB 4 (ansB r.e r.ver r.pr r.ba r.le r.b)
def An.ok (r : An) : Prop := ansOk r.e r.ver r.pr r.ba r.b.length = true
theorem askAc_ok {d : Acs} {k key ver bal : Int} {l : List UInt8} {r : An} (h : (askAc d k key ver bal l).1 = some r) : r.ok := by
  unfold askAc at h
  split at h
  · cases h
  · simp only at h
    split at h
    · rename_i ht
      injection h with h
      subst h
      exact ht
    · cases h
theorem askAcN_ok {k key ver bal : Int} {l : List UInt8} {r : An} : ∀ {t : Nat} {d : Acs}, (askAcN k key ver bal l t d).1 = some r → r.ok
  | 0, d, h => by cases h
  | t + 1, d, h => askAc_ok h
/-- A node that is asked by bytes answers as it is asked. -/
theorem askA_askAc (F : Fs) (S : St) (D : Dk) (k key ver bal : Nat) (l : List UInt8) (h : askOk k key ver bal l.length = true) :
    askA F S D (frameB 3 (askB k key ver bal l)) = (bytesA (askAc (some (F, S, D)) k key ver bal l).1, (answerA F S D k key ver bal l).2) ∧ (askAc (some (F, S, D)) k key ver bal l).2 = some (answerA F S D k key ver bal l).2 := by
  refine ⟨?_, rfl⟩
  unfold askA
  rw [getAsk_put k key ver bal l h]
  simp only [askAc]
  generalize answerA F S D (k : Int) (key : Int) (ver : Int) (bal : Int) l = R
  have hp : ∀ (b : Bool) (x : List UInt8) (r : An), frameB 4 (ansB r.e r.ver r.pr r.ba r.le r.b) = x → (if b = true then x else []) = bytesA (if b = true then some r else none) := by
    intro b x r h
    cases b
    · rfl
    · exact h.symm
  exact congrArg (fun x => (x, R.2)) (hp _ _ ⟨R.1.e, R.1.ver, R.1.f.pr, R.1.f.ba, R.1.f.le, R.1.f.va⟩ rfl)
theorem bytesA_get {r : An} (hr : r.ok) : ∃ e ver pr ba : Nat, r.e = e ∧ r.ver = ver ∧ r.pr = pr ∧ r.ba = ba ∧ getAns (bytesA (some r)) = some (e, ver, pr, ba, r.le, r.b) ∧ 0 < (bytesA (some r)).length ∧ (bytesA (some r)).length ≤ 5000 := by
  have h := of_decide_eq_true hr
  obtain ⟨e, he⟩ := Int.eq_ofNat_of_zero_le (show 0 ≤ r.e by omega)
  obtain ⟨ver, hv⟩ := Int.eq_ofNat_of_zero_le (show 0 ≤ r.ver by omega)
  obtain ⟨pr, hp⟩ := Int.eq_ofNat_of_zero_le (show 0 ≤ r.pr by omega)
  obtain ⟨ba, hb⟩ := Int.eq_ofNat_of_zero_le (show 0 ≤ r.ba by omega)
  refine ⟨e, ver, pr, ba, he, hv, hp, hb, ?_, ?_, ?_⟩
  · show getAns (frameB 4 (ansB r.e r.ver r.pr r.ba r.le r.b)) = _
    have hr2 : ansOk r.e r.ver r.pr r.ba r.b.length = true := hr
    rw [he, hv, hp, hb] at hr2 ⊢
    exact getAns_put e ver pr ba r.le r.b hr2
  · show 0 < (frameB 4 (ansB r.e r.ver r.pr r.ba r.le r.b)).length
    rw [frame_length]
    omega
  · show (frameB 4 (ansB r.e r.ver r.pr r.ba r.le r.b)).length ≤ 5000
    rw [frame_length, ansB_length]
    omega
theorem set_sameR {α : Type} {l : List α} {i : Nat} {d : α} (h : l[i]? = some d) : l.set i d = l := by
  apply List.ext_getElem?
  intro j
  by_cases hj : i = j
  · subst hj
    obtain ⟨hlt, he⟩ := List.getElem?_eq_some_iff.1 h
    rw [List.getElem?_set_self hlt, h]
  · rw [List.getElem?_set_ne hj]
end Go.Proofs.YtcdcjoofcbdilaaGreat

/-! Package register: Ask, where nobody is asked. -/
namespace Go.Proofs.YtcdcjoofcbdilaaGreat
open Go.RowKit

theorem size_answer : (Tryz.prog.info? 44).map (·.size) = some 6 := by kernel_rfl

section
variable {W : World} {L : Nat} {p : RgL} {s : RgS}
/-- What came of an acceptor's being asked. -/
def RAskPost (W : World) (L : Nat) (p : RgL) (R : Option An × RgS) (e : Ending) (w' : World) : Prop :=
  ∃ p', RgAt w' L p' R.2 ∧ (∀ b, p'.all L b → p.all L b ∨ W.heap.size ≤ b) ∧ Ext (p.all L) W w' ∧ match R.1 with
    | none => ∃ a0 a1 a2 a3 a4 a n c, e = .returned (.tuple #[.agg #[.int .i64 a0, .int .i64 a1, .int .i64 a2, .int .i64 a3, .bool a4, .slice a n c], .bool false])
    | some r => ∃ v, e = .returned (.tuple #[.agg #[.int .i64 r.e, .int .i64 r.ver, .int .i64 r.pr, .int .i64 r.ba, .bool r.le, v], .bool true]) ∧ Own8 w' W.heap.size 5 v r.b ∧ ∀ g, v.ownBlock = some g → ¬ p'.all L g
theorem askR_no {W' WZ : World} {to k key ver bal : Int} {l : List UInt8} (h : RgAt W L p s) (b : Below W.heap.size W W') (x : Ext (fun b => b = W.heap.size + 1) W' WZ) (hn : ¬ (askOk k key ver bal l.length = true ∧ 0 ≤ to ∧ to < s.acs.length)) :
    RAskPost W L p (askR s to k key ver bal l) (.returned (.tuple #[.agg #[.int .i64 0, .int .i64 0, .int .i64 0, .int .i64 0, .bool false, .slice none 0 0], .bool false])) WZ := by
  have hb : Below W.heap.size W WZ := b.trans (x.belowOf b.size (fun b hb e => by have e2 : b = W.heap.size + 1 := e; omega))
  unfold askR
  rw [if_neg hn]
  exact ⟨p, h.keep hb, fun b hb => .inl hb, Ext.ofBelow hb, _, _, _, _, _, _, _, _, rfl⟩
set_option maxRecDepth 100000 in
set_option maxHeartbeats 12800000 in
theorem reg_Ask_no (h : RgAt W L p s) (to k key ver bal : Int) (v : Value) (l : List UInt8) (hv : Bs W v l) (hn : ¬ (askOk k key ver bal l.length = true ∧ 0 ≤ to ∧ to < s.acs.length)) :
    Calls Tryz.prog 15 #[.pointer (some ⟨L, 0, none⟩), .int .i64 to, .agg #[.int .i64 k, .int .i64 key, .int .i64 ver, .int .i64 bal, v]] W (RAskPost W L p (askR s to k key ver bal l)) := by
  obtain ⟨av, cv, rfl⟩ := hv.form
  obtain ⟨W0, hW0⟩ : ∃ W0, (W.alloc (.cells #[.int .i64 k, .int .i64 key, .int .i64 ver, .int .i64 bal, .slice av l.length cv] 48)).alloc (.cells #[.int .i64 0, .int .i64 0, .int .i64 0, .int .i64 0, .bool false, .slice none 0 0] 44) = W0 := ⟨_, rfl⟩
  have b0 : Below W.heap.size W W0 := by rw [← hW0]; exact ((Below.refl _ W).alloc (Nat.le_refl _) _).alloc (by simp) _
  have k5 : Blk W0 W.heap.size #[.int .i64 k, .int .i64 key, .int .i64 ver, .int .i64 bal, .slice av l.length cv] 48 := by rw [← hW0]; exact (Blk.new W _ _).alloc _
  have k6 : Blk W0 (W.heap.size + 1) #[.int .i64 0, .int .i64 0, .int .i64 0, .int .i64 0, .bool false, .slice none 0 0] 44 := by rw [← hW0]; exact Blk.new' _ _ (by simp) _ _
  have h0 := h.keep b0
  have hv0 := hv.keep b0
  have hls := h.link.lt
  have x0 := k5.cell (o := 0) rfl
  have x1 := k5.cell (o := 1) rfl
  have x2 := k5.cell (o := 2) rfl
  have x3 := k5.cell (o := 3) rfl
  have x4 := k5.cell (o := 4) rfl
  have HZ := hid hn
  have HPR : ∃ cc : Int, (cc ≠ 0 ∨ cc = 0 ∧ (to < 0 ∨ (s.acs.length : Int) ≤ to)) ∧ Calls Tryz.prog 31 #[.agg #[.int .i64 k, .int .i64 key, .int .i64 ver, .int .i64 bal, .slice av l.length cv]] W0 (fun e w' => ∃ a n c, e = .returned (.tuple #[.slice a n c, .int .i64 cc]) ∧ Below W0.heap.size W0 w') := by
    by_cases hr : askOk k key ver bal l.length = true
    · refine ⟨0, .inr ⟨rfl, ?_⟩, (acc_PutAsk k key ver bal _ l W0 hv0).mono ?_⟩
      · by_cases h1 : to < 0
        · exact .inl h1
        · exact .inr (Int.not_lt.1 (fun h2 => hn ⟨hr, by omega, h2⟩))
      · rintro e w' ⟨v', rfl, ho, hb⟩
        obtain ⟨a, c, rfl⟩ := ho.form
        rw [if_pos hr]
        exact ⟨_, _, _, rfl, hb⟩
    · refine ⟨1, .inl (by decide), (acc_PutAsk k key ver bal _ l W0 hv0).mono ?_⟩
      rintro e w' ⟨v', rfl, ho, hb⟩
      obtain ⟨a, c, rfl⟩ := ho.form
      rw [if_neg hr]
      exact ⟨_, _, _, rfl, hb⟩
  obtain ⟨cc, hcc, HPC⟩ := HPR
  have HPC := hid HPC
  have HP := hid h
  have HL0 := hid h0
  have HK0 := hid k6
  have HB0 := hid b0
  have hfew := h.few
  have hnl : (0 : Int) ≤ s.acs.length := by omega
  clear hn hv hv0 h h0 k6 b0 k5 hls
  rcases hcc with hcc | ⟨rfl, hto | hto⟩
  · skip
    have hc1 : (cc != 0) = true := bne_iff_ne.2 hcc
    go_enter Tryz.func15, Tryz.ntmps15
    go_wp2_with fail
    clear hW0
    refine HPC.out.mono ?_
    rintro e W2 ⟨a2, n2, c2, rfl, b2⟩
    have HL := hid (HL0.out.keep b2)
    have K6 := hid (HK0.out.keep b2)
    have HX := hid (HB0.out.trans (b2.mono HB0.out.size))
    clear b2 x0 x1 x2 x3 x4
    go_wp2_with fail
    refine (reg_none HL.out).mono ?_
    rintro e Wx ⟨rfl, hw⟩
    rw [hw]
    clear hw Wx
    have y0 := HL.out.link.cell (o := 0) rfl
    have y1 := HL.out.link.cell (o := 1) rfl
    have m0 := K6.out.cell (o := 0) rfl
    have mf0 := K6.out.free 0
    have m1 := K6.out.cell (o := 1) rfl
    have mf1 := K6.out.free 1
    have m2 := K6.out.cell (o := 2) rfl
    have mf2 := K6.out.free 2
    have m3 := K6.out.cell (o := 3) rfl
    have mf3 := K6.out.free 3
    have m4 := K6.out.cell (o := 4) rfl
    have mf4 := K6.out.free 4
    have m5 := K6.out.cell (o := 5) rfl
    have mf5 := K6.out.free 5
    go_wp2_with fail
    all_goals
      obtain ⟨WZ, hWZ⟩ : ∃ WZ, ((((((W2.setCell ⟨W.heap.size + 1, 0, none⟩ (.int .i64 0)).setCell ⟨W.heap.size + 1, 1, none⟩ (.int .i64 0)).setCell ⟨W.heap.size + 1, 2, none⟩ (.int .i64 0)).setCell ⟨W.heap.size + 1, 3, none⟩ (.int .i64 0)).setCell ⟨W.heap.size + 1, 4, none⟩ (.bool false)).setCell ⟨W.heap.size + 1, 5, none⟩ (.slice none 0 0)) = WZ := ⟨_, rfl⟩
      have kZ := ((((((K6.out.set (o := 0) (.int .i64 0)).set (o := 1) (.int .i64 0)).set (o := 2) (.int .i64 0)).set (o := 3) (.int .i64 0)).set (o := 4) (.bool false)).set (o := 5) (.slice none 0 0))
      rw [hWZ] at kZ
      simp only [List.setIfInBounds_toArray, List.set_cons_zero, List.set_cons_succ] at kZ
      have xZ : Ext (fun b => b = W.heap.size + 1) W2 WZ := by rw [← hWZ]; exact (((((((Ext.refl (fun b => b = W.heap.size + 1) W2).setCell (a := ⟨W.heap.size + 1, 0, none⟩) (.inl rfl) _).setCell (a := ⟨W.heap.size + 1, 1, none⟩) (.inl rfl) _).setCell (a := ⟨W.heap.size + 1, 2, none⟩) (.inl rfl) _).setCell (a := ⟨W.heap.size + 1, 3, none⟩) (.inl rfl) _).setCell (a := ⟨W.heap.size + 1, 4, none⟩) (.inl rfl) _).setCell (a := ⟨W.heap.size + 1, 5, none⟩) (.inl rfl) _)
      rw [hWZ]
      have hld := run_loadVar_row (P := Tryz.prog) WZ (W.heap.size + 1) 44 44 _ (0, 0) _ kZ Tryz.underlying44 rfl size_answer
      refine bodyPost_ret (v := .tuple #[.agg #[.int .i64 0, .int .i64 0, .int .i64 0, .int .i64 0, .bool false, .slice none 0 0], .bool false]) ?_ rfl ?_
      · simp [results, Tryz.results15, hld, asAddr]
      · exact askR_no HP.out HX.out xZ HZ.out
  · skip
    have hd1 : decide (to < 0) = true := decide_eq_true hto
    go_enter Tryz.func15, Tryz.ntmps15
    go_wp2_with fail
    clear hW0
    refine HPC.out.mono ?_
    rintro e W2 ⟨a2, n2, c2, rfl, b2⟩
    have HL := hid (HL0.out.keep b2)
    have K6 := hid (HK0.out.keep b2)
    have HX := hid (HB0.out.trans (b2.mono HB0.out.size))
    clear b2 x0 x1 x2 x3 x4
    go_wp2_with fail
    refine (reg_none HL.out).mono ?_
    rintro e Wx ⟨rfl, hw⟩
    rw [hw]
    clear hw Wx
    have y0 := HL.out.link.cell (o := 0) rfl
    have y1 := HL.out.link.cell (o := 1) rfl
    have m0 := K6.out.cell (o := 0) rfl
    have mf0 := K6.out.free 0
    have m1 := K6.out.cell (o := 1) rfl
    have mf1 := K6.out.free 1
    have m2 := K6.out.cell (o := 2) rfl
    have mf2 := K6.out.free 2
    have m3 := K6.out.cell (o := 3) rfl
    have mf3 := K6.out.free 3
    have m4 := K6.out.cell (o := 4) rfl
    have mf4 := K6.out.free 4
    have m5 := K6.out.cell (o := 5) rfl
    have mf5 := K6.out.free 5
    go_wp2_with fail
    all_goals
      obtain ⟨WZ, hWZ⟩ : ∃ WZ, ((((((W2.setCell ⟨W.heap.size + 1, 0, none⟩ (.int .i64 0)).setCell ⟨W.heap.size + 1, 1, none⟩ (.int .i64 0)).setCell ⟨W.heap.size + 1, 2, none⟩ (.int .i64 0)).setCell ⟨W.heap.size + 1, 3, none⟩ (.int .i64 0)).setCell ⟨W.heap.size + 1, 4, none⟩ (.bool false)).setCell ⟨W.heap.size + 1, 5, none⟩ (.slice none 0 0)) = WZ := ⟨_, rfl⟩
      have kZ := ((((((K6.out.set (o := 0) (.int .i64 0)).set (o := 1) (.int .i64 0)).set (o := 2) (.int .i64 0)).set (o := 3) (.int .i64 0)).set (o := 4) (.bool false)).set (o := 5) (.slice none 0 0))
      rw [hWZ] at kZ
      simp only [List.setIfInBounds_toArray, List.set_cons_zero, List.set_cons_succ] at kZ
      have xZ : Ext (fun b => b = W.heap.size + 1) W2 WZ := by rw [← hWZ]; exact (((((((Ext.refl (fun b => b = W.heap.size + 1) W2).setCell (a := ⟨W.heap.size + 1, 0, none⟩) (.inl rfl) _).setCell (a := ⟨W.heap.size + 1, 1, none⟩) (.inl rfl) _).setCell (a := ⟨W.heap.size + 1, 2, none⟩) (.inl rfl) _).setCell (a := ⟨W.heap.size + 1, 3, none⟩) (.inl rfl) _).setCell (a := ⟨W.heap.size + 1, 4, none⟩) (.inl rfl) _).setCell (a := ⟨W.heap.size + 1, 5, none⟩) (.inl rfl) _)
      rw [hWZ]
      have hld := run_loadVar_row (P := Tryz.prog) WZ (W.heap.size + 1) 44 44 _ (0, 0) _ kZ Tryz.underlying44 rfl size_answer
      refine bodyPost_ret (v := .tuple #[.agg #[.int .i64 0, .int .i64 0, .int .i64 0, .int .i64 0, .bool false, .slice none 0 0], .bool false]) ?_ rfl ?_
      · simp [results, Tryz.results15, hld, asAddr]
      · exact askR_no HP.out HX.out xZ HZ.out
  · skip
    have hd1 : decide (to < 0) = false := decide_eq_false (by omega)
    have hd2 : decide (to ≥ (s.acs.length : Int)) = true := decide_eq_true hto
    go_enter Tryz.func15, Tryz.ntmps15
    go_wp2_with fail
    clear hW0
    refine HPC.out.mono ?_
    rintro e W2 ⟨a2, n2, c2, rfl, b2⟩
    have HL := hid (HL0.out.keep b2)
    have K6 := hid (HK0.out.keep b2)
    have HX := hid (HB0.out.trans (b2.mono HB0.out.size))
    clear b2 x0 x1 x2 x3 x4
    go_wp2_with fail
    refine (reg_none HL.out).mono ?_
    rintro e Wx ⟨rfl, hw⟩
    rw [hw]
    clear hw Wx
    have y0 := HL.out.link.cell (o := 0) rfl
    have y1 := HL.out.link.cell (o := 1) rfl
    have m0 := K6.out.cell (o := 0) rfl
    have mf0 := K6.out.free 0
    have m1 := K6.out.cell (o := 1) rfl
    have mf1 := K6.out.free 1
    have m2 := K6.out.cell (o := 2) rfl
    have mf2 := K6.out.free 2
    have m3 := K6.out.cell (o := 3) rfl
    have mf3 := K6.out.free 3
    have m4 := K6.out.cell (o := 4) rfl
    have mf4 := K6.out.free 4
    have m5 := K6.out.cell (o := 5) rfl
    have mf5 := K6.out.free 5
    go_wp2_with fail
    all_goals
      obtain ⟨WZ, hWZ⟩ : ∃ WZ, ((((((W2.setCell ⟨W.heap.size + 1, 0, none⟩ (.int .i64 0)).setCell ⟨W.heap.size + 1, 1, none⟩ (.int .i64 0)).setCell ⟨W.heap.size + 1, 2, none⟩ (.int .i64 0)).setCell ⟨W.heap.size + 1, 3, none⟩ (.int .i64 0)).setCell ⟨W.heap.size + 1, 4, none⟩ (.bool false)).setCell ⟨W.heap.size + 1, 5, none⟩ (.slice none 0 0)) = WZ := ⟨_, rfl⟩
      have kZ := ((((((K6.out.set (o := 0) (.int .i64 0)).set (o := 1) (.int .i64 0)).set (o := 2) (.int .i64 0)).set (o := 3) (.int .i64 0)).set (o := 4) (.bool false)).set (o := 5) (.slice none 0 0))
      rw [hWZ] at kZ
      simp only [List.setIfInBounds_toArray, List.set_cons_zero, List.set_cons_succ] at kZ
      have xZ : Ext (fun b => b = W.heap.size + 1) W2 WZ := by rw [← hWZ]; exact (((((((Ext.refl (fun b => b = W.heap.size + 1) W2).setCell (a := ⟨W.heap.size + 1, 0, none⟩) (.inl rfl) _).setCell (a := ⟨W.heap.size + 1, 1, none⟩) (.inl rfl) _).setCell (a := ⟨W.heap.size + 1, 2, none⟩) (.inl rfl) _).setCell (a := ⟨W.heap.size + 1, 3, none⟩) (.inl rfl) _).setCell (a := ⟨W.heap.size + 1, 4, none⟩) (.inl rfl) _).setCell (a := ⟨W.heap.size + 1, 5, none⟩) (.inl rfl) _)
      rw [hWZ]
      have hld := run_loadVar_row (P := Tryz.prog) WZ (W.heap.size + 1) 44 44 _ (0, 0) _ kZ Tryz.underlying44 rfl size_answer
      refine bodyPost_ret (v := .tuple #[.agg #[.int .i64 0, .int .i64 0, .int .i64 0, .int .i64 0, .bool false, .slice none 0 0], .bool false]) ?_ rfl ?_
      · simp [results, Tryz.results15, hld, asAddr]
      · exact askR_no HP.out HX.out xZ HZ.out
end
end Go.Proofs.YtcdcjoofcbdilaaGreat
