/- Texts joined: Wo8, Wo9, Wo10, Wo11. -/
import Derived.Test.YtlejelbefmkakaaGreatJn1
import Derived.Test.YtlejelbefmkakaaGreatJn4
namespace Go.Proofs.YtlejelbefmkakaaGreat
open Go.RowKit
section
variable {m : Wm} {lo : Nat} {W : World}
set_option maxRecDepth 100000 in
set_option maxHeartbeats 4000000 in
theorem names_w (h : m.Ok lo W) (kind home k n : Int) (s : ByteArray) (A : Option Addr) (cap : Nat) (l : List T) (r n1 lost ofr byr set : Int) (full : Bool) (hi : Nat) (ht : (T.mk k n s A cap l r).In W 0 hi) (hhi : hi ≤ W.heap.size) (hln : (T.mk k n s A cap l r).v.refs.length ≤ 140737488351232) :
 Calls Tryz.prog 155 #[.pointer (some ⟨m.wb, 0, none⟩), .agg (th16 kind home k n s A l.length cap r n1 lost ofr byr set full)] W fun e w' => e = .returned (.bool (m.are (T.mk k n s A cap l r).v.refs)) ∧ Fr No W w' := by
 have hb0 := (Blk.new W 31 #[.pointer (some ⟨m.wb, 0, none⟩)]).alloc (.cells (th16 kind home k n s A l.length cap r n1 lost ofr byr set full) 138)
 have hb1 := Blk.new' (W.alloc (.cells #[.pointer (some ⟨m.wb, 0, none⟩)] 31)) 138 (th16 kind home k n s A l.length cap r n1 lost ofr byr set full) (g := W.heap.size + 1) (by simp)
 have hf0 := ((Fr.refl No W).alloc (.cells #[.pointer (some ⟨m.wb, 0, none⟩)] 31)).alloc (.cells (th16 kind home k n s A l.length cap r n1 lost ofr byr set full) 138)
 have hH := fun W' (f : Fr No W W') => held_w kind home k n s A cap l r n1 lost ofr byr set full W' hi (ht.no f hhi) (Nat.le_trans hhi f.size)
 generalize (T.mk k n s A cap l r).v.refs = L at *
 have HB0 := hide hb0
 have HF0 := hide hf0
 have HOK := hide h
 unfold th16 at hb1 hH HF0 HB0 ⊢
 have HH := hide hH
 obtain ⟨q, hq⟩ : ∃ q, m.are L = q := ⟨_, rfl⟩
 rw [hq]
 have HQ := hide hq
 clear hq
 obtain ⟨d0, d1, d2, d3, d4, d5, d6, d7, d8, d9, d10, d11, d12, d13, d14, d15⟩ := hb1.cells16
 have dq := hb1.lt
 clear ht hhi hb0 hb1 hf0 hH h
 go_enter Tryz.func155, Tryz.ntmps155
 go_wp2_with fail
 generalize World.alloc (World.alloc W _) _ = W0 at *
 refine (HH.out W0 HF0.out).mono ?_
 rintro e w1 ⟨v, rfl, hrow, f1⟩
 obtain ⟨A1, c1, rfl⟩ := owns_form hrow
 have hc := containsR_w ((HOK.out.no HF0.out).no f1) (HB0.out.fr f1 fun h => h) A1 c1 L hrow hln
 rw [HQ.out] at hc
 have HC := hide hc
 have HF1 := hide (HF0.out.trans f1)
 clear d0 d1 d2 d3 d4 d5 d6 d7 d8 d9 d10 d11 d12 d13 d14 d15 dq hrow f1 hc HQ
 cases q
 all_goals
  go_wp2_with fail
  refine HC.out.mono ?_
  rintro e w2 ⟨rfl, rfl⟩
  go_wp2
  go_ret
  exact ⟨rfl, HF1.out⟩
end
end Go.Proofs.YtlejelbefmkakaaGreat

namespace Go.Proofs.YtlejelbefmkakaaGreat
open Go.RowKit
def Wm.add (m : Wm) (g : Nat) (x : Th) (s : Nat) : Wm := { m with th := m.th ++ [(g, x)], made := m.made.set s (m.made.getD s 0 + 1) }
theorem things_new {m : Wm} {lo : Nat} {W : World} (_ : m.Ok lo W) : ∀ es cl, W.heap[m.M]? = some (.map es cl) → ThsAre es.toList m.th → ∀ e ∈ es.toList, ∃ c : Int, e.key = .int .i64 c ∧ ((m.th.length : Int) + 1) ≠ c := by
 intro es cl hm he e hem
 obtain ⟨i, hi, rfl⟩ := List.mem_iff_getElem.1 hem
 have hi' : i < m.th.length := by rw [← he.1]; exact hi
 refine ⟨_, (he.2 i _ _ (List.getElem?_eq_getElem hi) (List.getElem?_eq_getElem hi')).1, ?_⟩
 omega
theorem fr_putObj (W : World) (r : Nat) (o : Obj) : Fr (fun i => i = r) W (W.putObj r o) :=
 ⟨rfl, rfl, rfl, by simp [World.putObj], fun b hb hn => by simp [World.putObj, Array.getElem?_setIfInBounds]; intro h; exact absurd h.symm hn⟩
theorem index_w {W : World} {wb M g : Nat} {kind r : Int} (hl : (Instr.lookup 34 (.map (some M)) (.int .i64 r) false).run Tryz.prog W = .ok (.pointer (some ⟨g, 0, none⟩)) W) (c0 : W.cell? ⟨wb, 2, none⟩ = some (.map (some M))) (d0 : W.cell? ⟨g, 0, none⟩ = some (.int .u8 kind)) (hk : kind ≠ 14) :
 Calls Tryz.prog 193 #[.pointer (some ⟨wb, 0, none⟩), .int .i64 r] W fun e w' => (∃ v, e = .returned v) ∧ w' = W := by
 have hkb : (kind == 14) = false := by simpa using hk
 clear hk
 go_enter Tryz.func193, Tryz.ntmps193
 go_wp2_with fail
 go_end0
 exact ⟨⟨_, rfl⟩, rfl⟩
end Go.Proofs.YtlejelbefmkakaaGreat

namespace Go.Proofs.YtlejelbefmkakaaGreat
open Go.RowKit
theorem T.Sp.typed {w : World} {lo hi : Nat} (t : T) : t.Sp w lo hi → ∀ b ∈ t.blocks, ∃ cs, Blk w b 28 cs := by
 induction t using T.ind with
 | h k n s A cap l r ih =>
  rw [T.sp_mk, T.blocks_mk]
  rintro ⟨h1, _, h3, h4⟩ b hb
  rcases List.mem_append.1 hb with hb | hb
  · cases l with
    | nil => simp at hb
    | cons x l =>
     obtain ⟨ho, g, rfl, hg⟩ := h3 (by simp)
     simp at hb
     subst hb
     rcases ho.2 with ⟨h, _⟩ | ⟨g, cap, cur, h, _, hh, _⟩
     · cases h
     · simp at h
       obtain ⟨rfl, -⟩ := h
       exact ⟨cur, hh⟩
  · obtain ⟨bs, hbs, hb⟩ := List.mem_flatten.1 hb
    obtain ⟨x, hx, rfl⟩ := List.mem_map.1 hbs
    exact ih x hx (h4 x hx) b hb
theorem owns_typed {w : World} {base : Nat} {e : TypeId} {size : Nat} {v : Value} {n : Nat} {xs : List Value} (h : w.ownsRow base e size v n xs) {g : Nat} (hg : v.ownBlock = some g) : ∃ cs, Blk w g e cs := by
 rcases h.2 with ⟨rfl, h0⟩ | ⟨g', cap', cur, rfl, hb, hh, _⟩
 · cases hg
 · simp [Value.ownBlock] at hg
   subst hg
   exact ⟨cur, hh⟩
theorem owns_put1 {w : World} {base e size g n cap i : Nat} {xs : List Value} {u : Value} (h : w.ownsRow base e size (.slice (some ⟨g, 0, none⟩) n cap) n xs) : (w.setCell ⟨g, i, none⟩ u).ownsRow base e size (.slice (some ⟨g, 0, none⟩) n cap) n (xs.set i u) := by
 refine ⟨by simp [h.1], ?_⟩
 rcases h.2 with ⟨h1, _⟩ | ⟨g', cap', cur, h1, hb, hg, hc, hm, hsz, hx⟩
 · cases h1
 · simp only [Value.slice.injEq, Option.some.injEq, Addr.mk.injEq, and_true, true_and] at h1
   obtain ⟨rfl, rfl⟩ := h1
   refine .inr ⟨g, cap, cur.setIfInBounds i u, rfl, hb, ?_, hc, hm, by simp [hsz], ?_⟩
   · have : Blk (w.setCell ⟨g, i, none⟩ u) g e (cur.setIfInBounds i u) := Blk.set_ hg i u
     exact this
   · rw [← hx, Array.toList_setIfInBounds, List.take_set]
theorem map_ne_blk {w : World} {M g cl : Nat} {es : Array MapEntry} {t : TypeId} {cs : Array Value} (hm : w.heap[M]? = some (.map es cl)) (hb : Blk w g t cs) : g ≠ M := by
 rintro rfl
 unfold Blk at hb
 rw [hm] at hb
 cases hb
section
variable {m : Wm} {lo : Nat} {W : World}
theorem Wm.Ok.apart (h : m.Ok lo W) : m.wb ≠ m.M ∧ m.wb ≠ m.F ∧ (∀ g, (Value.slice m.D m.made.length m.dc).ownBlock = some g → g ≠ m.wb ∧ g ≠ m.M) ∧ (∀ x ∈ m.th, x.1 ≠ m.wb ∧ x.1 ≠ m.M ∧ ∀ b ∈ x.2.v.blocks, b ≠ m.wb ∧ b ≠ m.M) ∧
 ∀ g, (Value.slice m.D m.made.length m.dc).ownBlock = some g → g ≠ m.F ∧ ∀ x ∈ m.th, x.1 ≠ g ∧ ∀ b ∈ x.2.v.blocks, b ≠ g := by
 obtain ⟨es, cl, hm, -⟩ := h.things
 obtain ⟨ef, cf, hf, -⟩ := h.facets
 refine ⟨map_ne_blk hm h.blk, map_ne_blk hf h.blk, fun g hg => ?_, fun x hx => ⟨Blk.ne_ (h.box x hx) h.blk (by decide), map_ne_blk hm (h.box x hx), fun b hb => ?_⟩, fun g hg => ?_⟩
 · obtain ⟨cs, hb⟩ := owns_typed h.made hg
   exact ⟨Blk.ne_ hb h.blk (by decide), map_ne_blk hm hb⟩
 · obtain ⟨cs, hb'⟩ := T.Sp.typed _ (h.vals x hx).sp b hb
   exact ⟨Blk.ne_ hb' h.blk (by decide), map_ne_blk hm hb'⟩
 · obtain ⟨cs, hb⟩ := owns_typed h.made hg
   refine ⟨map_ne_blk hf hb, fun x hx => ⟨Blk.ne_ (h.box x hx) hb (by decide), fun b hbb => ?_⟩⟩
   obtain ⟨cs', hb'⟩ := T.Sp.typed _ (h.vals x hx).sp b hbb
   exact Blk.ne_ hb' hb (by decide)
theorem ok_lay1 (h : m.Ok lo W) {g : Nat} {x : Th} {W2 : World} (f : Fr (fun i => i = m.wb ∨ i = m.M) W W2) (hg : W.heap.size ≤ g) (hlo : lo ≤ W.heap.size) (hx : Blk W2 g 138 x.cells.toArray) (hv : x.v.Sh W2 lo W2.heap.size) (hlen : m.th.length < 100000)
 (hb : Blk W2 m.wb 38 ({ m with th := m.th ++ [(g, x)] } : Wm).cells) {es : Array MapEntry} {cl b : Nat} (hm0 : W.heap[m.M]? = some (.map es cl)) (hm : W2.heap[m.M]? = some (.map (es.push { key := .int .i64 ((m.th.length : Int) + 1), val := .pointer (some ⟨g, 0, none⟩), born := b }) (cl + 1))) (hbc : b = cl) :
 ({ m with th := m.th ++ [(g, x)] } : Wm).Ok lo W2 := by
 obtain ⟨es', cl', hm', he, hst⟩ := h.things
 rw [hm0] at hm'
 injection hm' with hm'
 injection hm' with e1 e2
 subst e1 e2 hbc
 obtain ⟨ef, cf, hf, hfe⟩ := h.facets
 obtain ⟨a1, a2, a3, a4, a5⟩ := h.apart
 refine ⟨hb, ⟨_, _, hm, ⟨by simp [he.1], fun i e y hei hyi => ?_⟩, ?_, ?_⟩, ⟨ef, cf, (f.block _ (lt_of_heap hf) fun hh => ?_).trans hf, hfe⟩, owns_fr h.made f fun q hq hh => ?_, fun y hy => ?_, fun y hy => ?_, ⟨h.lo0.1, h.lo0.2.1, h.lo0.2.2.1, fun y hy => ?_⟩, h.mf, ?_, by simp; omega, h.mades, h.sides⟩
 · simp only [Array.toList_push] at hei
   rcases Nat.lt_trichotomy i m.th.length with hi | rfl | hi
   · rw [List.getElem?_append_left (by rw [he.1]; exact hi)] at hei
     simp only [List.getElem?_append_left hi] at hyi
     exact he.2 i e y hei hyi
   · rw [← he.1, List.getElem?_append_right (Nat.le_refl _), Nat.sub_self] at hei
     simp at hei hyi
     subst hei hyi
     refine ⟨?_, rfl⟩
     have h1 := he.1
     rw [Array.length_toList] at h1
     rw [h1]
   · simp only at hyi
     rw [List.getElem?_eq_none (by simp; omega)] at hyi
     cases hyi
 · intro y hy
   simp only [Array.toList_push, List.mem_append, List.mem_singleton] at hy
   rcases hy with hy | rfl
   · have := hst.1 y hy; omega
   · exact Nat.lt_succ_self _
 · simp only [Array.toList_push, List.map_append, List.map_cons, List.map_nil]
   refine List.nodup_append.2 ⟨hst.2, by simp, fun a ha b' hb' => ?_⟩
   simp only [List.mem_singleton] at hb'
   subst hb'
   obtain ⟨y, hy, rfl⟩ := List.mem_map.1 ha
   have := hst.1 y hy
   omega
 · rcases hh with hh | hh
   · exact a2 hh.symm
   · exact h.mf hh.symm
 · have := a3 q hq
   rcases hh with hh | hh
   · exact this.1 hh
   · exact this.2 hh
 · simp only [List.mem_append, List.mem_singleton] at hy
   rcases hy with hy | rfl
   · exact (h.box y hy).fr f fun hh => by
      have := a4 y hy
      rcases hh with hh | hh
      · exact this.1 hh
      · exact this.2.1 hh
   · exact hx
 · simp only [List.mem_append, List.mem_singleton] at hy
   rcases hy with hy | rfl
   · exact ((h.vals y hy).fr f fun b hb hh => by
      have := (a4 y hy).2.2 b hb
      rcases hh with hh | hh
      · exact this.1 hh
      · exact this.2 hh).more (Nat.le_refl _) f.size
   · exact hv
 · simp only [List.mem_append, List.mem_singleton] at hy
   rcases hy with hy | rfl
   · exact h.lo0.2.2.2 y hy
   · show lo ≤ g
     omega
 · refine List.pairwise_append.2 ⟨h.dist, by simp, fun a ha b' hb' => ?_⟩
   simp only [List.mem_singleton] at hb'
   subst hb'
   have := (h.box a ha).lt
   show a.1 ≠ g
   omega
theorem ok_lay2 (h : m.Ok lo W) {s g : Nat} (hs : s < m.made.length) (h512 : m.made[s] < 512) (hD : (Value.slice m.D m.made.length m.dc).ownBlock = some g) :
 ({ m with made := m.made.set s (m.made[s] + 1) } : Wm).Ok lo (W.setCell ⟨g, s, none⟩ (.int .i64 ((m.made[s] : Int) + 1))) := by
 have f : Fr (fun i => i = g) W (W.setCell ⟨g, s, none⟩ (.int .i64 ((m.made[s] : Int) + 1))) := (Fr.refl (fun i => i = g) W).set (fun _ => rfl) _
 obtain ⟨es, cl, hm, he⟩ := h.things
 obtain ⟨ef, cf, hf, hfe⟩ := h.facets
 obtain ⟨a1, a2, a3, a4, a5⟩ := h.apart
 have hg3 := a3 g hD
 have hg5 := a5 g hD
 have hz : 0 < m.made.length := by omega
 obtain ⟨g', c, hA2, hg0, hg1⟩ := h.made.form hz
 simp only [Value.slice.injEq, true_and] at hA2
 have hgg : g' = g := by
  rw [hA2.1] at hD
  simpa [Value.ownBlock] using hD
 subst hgg
 have hmd : (W.setCell ⟨g', s, none⟩ (.int .i64 ((m.made[s] : Int) + 1))).ownsRow lo 3 1 (.slice m.D m.made.length m.dc) m.made.length ((m.made.set s (m.made[s] + 1)).map fun (n : Nat) => Value.int .i64 (n : Int)) := by
  have h0 := h.made
  rw [hA2.1, hA2.2] at h0 ⊢
  have := owns_put1 (i := s) (u := .int .i64 ((m.made[s] : Int) + 1)) h0
  rw [List.map_set]
  exact this
 have hcells : ({ m with made := m.made.set s (m.made[s] + 1) } : Wm).cells = m.cells := by simp [Wm.cells]
 refine ⟨by rw [hcells]; exact h.blk.fr f fun hh => hg3.1 hh.symm, ⟨es, cl, (f.block _ (lt_of_heap hm) fun hh => hg3.2 hh.symm).trans hm, he⟩, ⟨ef, cf, (f.block _ (lt_of_heap hf) fun hh => hg5.1 hh.symm).trans hf, hfe⟩, by simpa using hmd,
  fun y hy => (h.box y hy).fr f fun hh => (hg5.2 y hy).1 hh, fun y hy => ((h.vals y hy).fr f fun b hb hh => (hg5.2 y hy).2 b hb hh).more (Nat.le_refl _) f.size, h.lo0, h.mf, h.dist, h.len, fun n hn => ?_, by simpa using h.sides⟩
 rcases List.mem_or_eq_of_mem_set hn with hn | rfl
 · exact h.mades n hn
 · omega
end
end Go.Proofs.YtlejelbefmkakaaGreat

namespace Go.Proofs.YtlejelbefmkakaaGreat
open Go.RowKit
def LayRes (m : Wm) (x : Th) (s lo : Nat) (W : World) (e : Ending) (w' : World) : Prop :=
 e = .returned (.int .i64 ((m.th.length : Int) + 1)) ∧ (m.add W.heap.size x s).Ok lo w' ∧ Fr m.B W w'
set_option maxRecDepth 100000 in
set_option maxHeartbeats 4000000 in
theorem lay_w {m : Wm} {lo : Nat} {W : World} (h : m.Ok lo W) (hlo : lo ≤ W.heap.size) (kind k n : Int) (s : ByteArray) (A : Option Addr) (cap : Nat) (l : List T) (r n1 lost ofr byr set : Int) (full : Bool) (home : Nat) (hs : home < m.made.length) (h512 : m.made[home] < 512) (hk : kind ≠ 14) (hlen : m.th.length < 100000)
 (hv : (T.mk k n s A cap l r).Sh W lo W.heap.size) :
 Calls Tryz.prog 159 #[.pointer (some ⟨m.wb, 0, none⟩), .agg (th16 kind (home : Int) k n s A l.length cap r n1 lost ofr byr set full)] W (LayRes m ⟨kind, home, .mk k n s A cap l r, n1, lost, ofr, byr, set, full⟩ home lo W) := by
 obtain ⟨es, cl, hm, hes, hst⟩ := h.things
 have hb0 := Blk.new W 138 (th16 kind (home : Int) k n s A l.length cap r n1 lost ofr byr set full)
 have hf0 := (Fr.refl No W).alloc (.cells (th16 kind (home : Int) k n s A l.length cap r n1 lost ofr byr set full) 138)
 have hwb := h.blk.fr hf0 fun h => h
 have c4 := hwb.cell 4
 have z4 := hwb.frozen 4
 have q4 := hwb.lt
 simp only [Wm.cells, lq1, lq3, lq2] at c4
 have hw1 : IntKind.i64.wrap ((m.th.length : Int) + 1) = (m.th.length : Int) + 1 := IntWalk.i64_in _ (by omega)
 have HOK := hide h
 have HB0 := hide hb0
 have HF0 := hide hf0
 have HWB := hide hwb
 have HM := hide hm
 have HES := hide hes
 have HV := hide hv
 unfold th16 at HB0 HF0 HWB c4 z4 q4 ⊢
 clear hb0 hf0 hwb hm hes hst hv h
 go_enter Tryz.func159, Tryz.ntmps159
 go_upto_region 2 with (fail)
 have hap := HOK.out.apart
 have f1 : Fr (fun i => i = m.wb) W ((W.alloc (.cells #[.int .u8 kind, .int .i64 (home : Int), .int .u8 k, .int .i64 n, .string s, .slice A l.length cap, .int .i64 r, .slice none 0 0, .int .i64 n1, .int .i64 lost, .int .i64 ofr, .int .i64 byr, .int .u8 set, .bool full, .slice none 0 0, .slice none 0 0] 138)).setCell ⟨m.wb, 4, none⟩ (.int .i64 ((m.th.length : Int) + 1))) := (HF0.out.no (S := fun i => i = m.wb)).set (fun _ => rfl) _
 have hb1 := HB0.out.far (p := ⟨m.wb, 4, none⟩) (by have := HOK.out.blk.lt; simp; omega) (.int .i64 ((m.th.length : Int) + 1))
 have hw := HWB.out.set_ 4 (.int .i64 ((m.th.length : Int) + 1))
 generalize hW1 : World.setCell (World.alloc W _) _ _ = W1 at *
 have hm1 : W1.heap[m.M]? = some (.map es cl) := (f1.block _ (lt_of_heap HM.out) fun hh => hap.1 hh.symm).trans HM.out
 have hu : (Instr.mapUpdate 34 (.map (some m.M)) (.int .i64 ((m.th.length : Int) + 1)) (.pointer (some ⟨W.heap.size, 0, none⟩))).run Tryz.prog W1.drew = .ok () (W1.drew.putObj m.M (.map (es.push { key := .int .i64 ((m.th.length : Int) + 1), val := .pointer (some ⟨W.heap.size, 0, none⟩), born := cl }) (cl + 1))) :=
  update_num Tryz.underlying22 Tryz.underlying34 _ _ (show W1.drew.heap[m.M]? = some (.map es cl) from hm1) (things_new HOK.out es cl HM.out HES.out)
 have c2 := hw.cell 2
 have c5 := hw.cell 4
 have q5 := hw.lt
 simp only [Wm.cells, lq4, lq5, lq6, lq1, lq3, lq2] at c2 c5
 have HF1 := hide f1
 have HB1 := hide hb1
 have HW1 := hide hw
 have HM1 := hide hm1
 have HAP := hide hap
 clear c4 z4 q4 f1 hb1 hw hm1 hap hW1 HB0 HF0 HWB
 go_region
 all_goals
  go_simp
  go_upto_region 3 with (fail)
  generalize hW2 : World.putObj W1.drew _ _ = W2 at *
  have f2 : Fr (fun i => i = m.M) W1 W2 := by
   rw [← hW2]
   exact ((Fr.refl _ W1).drew).trans (fr_putObj _ _ _)
  have hlM := lt_of_heap HM1.out
  have hm2 : W2.heap[m.M]? = some (.map (es.push { key := .int .i64 ((m.th.length : Int) + 1), val := .pointer (some ⟨W.heap.size, 0, none⟩), born := cl }) (cl + 1)) := by
   rw [← hW2]
   have hlM' : m.M < W1.drew.heap.size := hlM
   show (W1.drew.heap.setIfInBounds m.M _)[m.M]? = _
   rw [Array.getElem?_setIfInBounds, if_pos rfl, if_pos hlM']
  have hMg : W.heap.size ≠ m.M := by have := lt_of_heap HM.out; omega
  have hb2 := HB1.out.fr f2 hMg
  have hw2 := HW1.out.fr f2 HAP.out.1
  have f02 : Fr (fun i => i = m.wb ∨ i = m.M) W W2 := (HF1.out.mono fun i _ h => .inl h).trans' f2 fun i _ h => .inr h
  have hvs := (HV.out.fr f02 fun b hb hh => by
   have h1 := (T.In.blocks _ HV.out.inn b hb)
   obtain ⟨cs, hb'⟩ := T.Sp.typed _ HV.out.sp b hb
   rcases hh with hh | hh
   · exact Blk.ne_ hb' HOK.out.blk (by decide) hh
   · exact map_ne_blk HM.out hb' hh).more (Nat.le_refl _) f02.size
  have hok := ok_lay1 (x := ⟨kind, home, .mk k n s A cap l r, n1, lost, ofr, byr, set, full⟩) HOK.out f02 (Nat.le_refl _) hlo hb2 hvs hlen (by simpa [Wm.cells] using hw2) HM.out hm2 rfl
  have hlk := look_thing hok ((m.th.length : Int) + 1)
  have hget : ({ m with th := m.th ++ [(W.heap.size, ⟨kind, home, .mk k n s A cap l r, n1, lost, ofr, byr, set, full⟩)] } : Wm).get ((m.th.length : Int) + 1) = some (W.heap.size, ⟨kind, home, .mk k n s A cap l r, n1, lost, ofr, byr, set, full⟩) := by
   unfold Wm.get Wm.at_
   simp only [List.length_append, List.length_cons, List.length_nil]
   rw [if_pos (by omega)]
   simp
  rw [hget] at hlk
  have d0 : W2.cell? ⟨W.heap.size, 0, none⟩ = some (.int .u8 kind) := hb2.cell 0
  have d1 : W2.cell? ⟨W.heap.size, 1, none⟩ = some (.int .i64 (home : Int)) := hb2.cell 1
  have dq := hb2.lt
  have hix := index_w hlk (map_cell hok) d0 hk
  have x4 : W2.cell? ⟨m.wb, 4, none⟩ = some (.int .i64 ((m.th.length : Int) + 1)) := by
   have := hw2.cell 4
   simpa [Wm.cells] using this
  have x5 : W2.cell? ⟨m.wb, 5, none⟩ = some (.slice m.D m.made.length m.dc) := by
   have := hw2.cell 5
   simpa [Wm.cells] using this
  have xq := hw2.lt
  have HIX := hide hix
  have HOK2 := hide hok
  have HF2 := hide f02
  have hkb : (kind != 14) = true := by simpa using hk
  clear hu c2 c5 q5 hW2 f2 hlM hm2 hMg hb2 hw2 f02 hvs hok hlk hget hix HB1 HW1 HM1 HF1 HV
  go_wp2_with fail
  refine HIX.out.mono ?_
  rintro e w' ⟨⟨v, rfl⟩, rfl⟩
  have hz : 0 < m.made.length := by omega
  obtain ⟨gD, c, hA2, hg0, hg1⟩ := HOK2.out.made.form hz
  simp only [Value.slice.injEq, true_and] at hA2
  have hcell : w'.cell? ⟨gD, home, none⟩ = some (.int .i64 (m.made[home] : Int)) := by
   have := World.ownsRow.cells HOK2.out.made (g := gD) (by show (Value.slice m.D _ _).ownBlock = _; rw [hA2.1]; rfl) home (.int .i64 (m.made[home] : Int)) (by simp [hs])
   rwa [add_at, Nat.zero_add] at this
  have hfz : w'.frozen? ⟨gD, home, none⟩ = false := by
   obtain ⟨cs, hb⟩ := owns_typed HOK2.out.made (g := gD) (by show (Value.slice m.D _ _).ownBlock = _; rw [hA2.1]; rfl)
   exact hb.frozen _
  have hDb : (Value.slice m.D m.made.length m.dc).ownBlock = some gD := by rw [hA2.1]; rfl
  rw [hA2.1] at x5
  have hw3 : IntKind.i64.wrap ((m.made[home] : Int) + 1) = (m.made[home] : Int) + 1 := IntWalk.i64_in _ (by omega)
  have hne : m.wb ≠ gD := (HAP.out.2.2.1 gD hDb).1.symm
  have hl2 := ok_lay2 HOK2.out hs h512 hDb
  have HL2 := hide hl2
  have HDb := hide hDb
  generalize hmd : m.made[home] = mv at *
  clear hz hA2 hDb hl2 HIX
  go_upto_region 5 with (fail)
  go_region
  all_goals
   go_simp
   go_upto_region 6 with (fail)
   have fD : Fr (fun i => i = gD) w' (w'.setCell ⟨gD, home, none⟩ (.int .i64 ((mv : Int) + 1))).drew := ((Fr.refl (fun i => i = gD) w').set (fun _ => rfl) _).drew
   have x6 : (w'.setCell ⟨gD, home, none⟩ (.int .i64 ((mv : Int) + 1))).drew.cell? ⟨m.wb, 4, none⟩ = some (.int .i64 ((m.th.length : Int) + 1)) := (fD.cell xq hne).trans x4
   have x7 : m.wb < (w'.setCell ⟨gD, home, none⟩ (.int .i64 ((mv : Int) + 1))).drew.heap.size := Nat.lt_of_lt_of_le xq fD.size
   have hok3 : (m.add W.heap.size ⟨kind, home, .mk k n s A cap l r, n1, lost, ofr, byr, set, full⟩ home).Ok lo (w'.setCell ⟨gD, home, none⟩ (.int .i64 ((mv : Int) + 1))).drew := by
    have hq : m.made.getD home 0 = mv := by rw [List.getD_eq_getElem?_getD, List.getElem?_eq_getElem hs, hmd]; rfl
    unfold Wm.add
    rw [hq]
    exact HL2.out.no ((Fr.refl No _).drew)
   have hfr : Fr m.B W (w'.setCell ⟨gD, home, none⟩ (.int .i64 ((mv : Int) + 1))).drew := by
    refine (HF2.out.mono fun i _ h => ?_).trans' fD fun i _ h => ?_
    · rcases h with rfl | rfl
      · exact .inl rfl
      · exact .inr (.inl rfl)
    · have h' : i = gD := h
      subst h'
      exact .inr (.inr (.inr (.inl HDb.out)))
   have HOK3 := hide hok3
   have HFR := hide hfr
   clear hok3 hfr fD x4 x5 xq
   generalize World.drew (World.setCell w' _ _) = W3 at *
   go_wp2_with fail
   go_ret
   exact ⟨rfl, HOK3.out, HFR.out⟩
end Go.Proofs.YtlejelbefmkakaaGreat
