/- Texts joined: Wo33. -/
import Derived.Test.YtnddfiohofnbaaaJn8
import Derived.Deep.Cut
/- posternlaw09.within: a value whose references are brought into 1 to last. -/
namespace Go.Proofs.Ytnddfiohofnbaaa
open Go.RowKit

/-- What one round is about. -/
structure WC where
  b0 : Nat
  b2 : Nat
  A2 : Option Addr
  j : Nat
  cap2 : Nat
  len : Nat
  cap : Nat
  b : Nat
  o : Nat
  ev : Value
  last : Int
  base : Nat
  xs : List Value
  tv : V

def WC.row (c : WC) : Option Nat := (Value.slice c.A2 c.j c.cap2).ownBlock

def wiE (c : WC) (t9 : T) (g0 g cp : Nat) : Nat → Value
  | 0 => .pointer (some ⟨c.b2, 3, none⟩)
  | 1 => .slice c.A2 c.j c.cap2
  | 2 => .pointer (some ⟨c.b0, 3, none⟩)
  | 3 => .slice (some ⟨c.b, c.o, none⟩) c.len c.cap
  | 4 => .int .i64 (c.j : Int)
  | 5 => .pointer (some ⟨c.b, c.o + c.j * 5, none⟩)
  | 6 => c.ev
  | 7 => .int .i64 c.last
  | 8 => t9.val
  | 9 => .slice (some ⟨g0, 0, none⟩) 1 1
  | 10 => .slice (some ⟨g, 0, none⟩) (c.j + 1) cp
  | 11 => .pointer (some ⟨c.b2, 3, none⟩)
  | _ => undef

/-- Behind the append. -/
structure WD (c : WC) (wr : World) (t9 : T) (g cp : Nat) (w3 : World) : Prop where
  fr : Fr (fun i => some i = c.row) wr w3
  sh : t9.Sh w3 wr.heap.size w3.heap.size
  v : t9.v = c.tv
  own : w3.ownsRow c.base 37 5 (.slice (some ⟨g, 0, none⟩) (c.j + 1) cp) (c.j + 1) (c.xs ++ t9.cells)
  at_ : c.row = some g ∨ (wr.heap.size ≤ g ∧ g ∉ t9.blocks)

/-- Whichever operations have come up. -/
structure WR (c : WC) (wr : World) (f : Nat → Bool) (x : List Value) (t9 : T) (g0 g cp : Nat) (w' : World) : Prop where
  x : ∀ i, f i = true → i ≠ 12 → x.getD i undef = wiE c t9 g0 g cp i
  fr : Fr (fun i => i = c.b2 ∨ some i = c.row) wr w'
  far : f 12 = false → Fr (fun i => some i = c.row) wr w'
  fa : f 10 = false → Fr No wr w'
  fb : f 8 = true → f 10 = false → t9.v = c.tv ∧ t9.Sh w' wr.heap.size w'.heap.size
  fc : f 9 = true → f 10 = false → Blk w' g0 37 t9.cells.toArray ∧ wr.heap.size ≤ g0 ∧ g0 ∉ t9.blocks
  fd : f 10 = true → f 12 = false → WD c wr t9 g cp w'
  fe : f 12 = true → ∃ w3, WD c wr t9 g cp w3 ∧ w' = w3.setCell ⟨c.b2, 3, none⟩ (.slice (some ⟨g, 0, none⟩) (c.j + 1) cp)
  c9 : f 9 = true → f 8 = true
  c10 : f 10 = true → f 9 = true ∧ f 1 = true
  c12 : f 12 = true → f 10 = true

theorem wupd_ne {f : Nat → Bool} {i j : Nat} (h : j ≠ i) : upd f i j = f j := by simp [upd, h]
theorem wupd_eq {f : Nat → Bool} {i : Nat} : upd f i i = true := by simp [upd]
theorem wset_eq {x : List Value} {i : Nat} {u : Value} (h : i < x.length) : (x.set i u).getD i undef = u := by simp [List.getD_eq_getElem?_getD, h]
theorem wset_ne {x : List Value} {i j : Nat} {u : Value} (h : j ≠ i) : (x.set i u).getD j undef = x.getD j undef := by
  rw [List.getD_eq_getElem?_getD, List.getD_eq_getElem?_getD, List.getElem?_set_ne (fun e => h e.symm)]

section
variable {c : WC} {wr w' : World} {f : Nat → Bool} {x : List Value} {t9 : T} {g0 g cp : Nat}

theorem WR.begin (c : WC) (wr : World) (x : List Value) (t9 : T) : WR c wr (fun _ => false) x t9 0 0 0 wr.drew :=
  ⟨nofun, (Fr.refl _ wr).drew, fun _ => (Fr.refl _ wr).drew, fun _ => (Fr.refl _ wr).drew, nofun, nofun, nofun, nofun, nofun, nofun, nofun⟩

theorem WR.n1 (h : WR c wr f x t9 g0 g cp w') (h1 : f 1 = false) : f 12 = false := by
  cases q : f 12 with
  | false => rfl
  | true => rw [(h.c10 (h.c12 q)).2] at h1; cases h1

theorem WR.quiet (h : WR c wr f x t9 g0 g cp w') {i : Nat} (hi : i ≠ 8 ∧ i ≠ 9 ∧ i ≠ 10 ∧ i ≠ 12) (hx : i < x.length) : WR c wr (upd f i) (x.set i (wiE c t9 g0 g cp i)) t9 g0 g cp w' := by
  have e8 : upd f i 8 = f 8 := wupd_ne (by omega)
  have e9 : upd f i 9 = f 9 := wupd_ne (by omega)
  have e10 : upd f i 10 = f 10 := wupd_ne (by omega)
  have e12 : upd f i 12 = f 12 := wupd_ne (by omega)
  refine ⟨fun j hj h12 => ?_, h.fr, by rw [e12]; exact h.far, by rw [e10]; exact h.fa, by rw [e8, e10]; exact h.fb, by rw [e9, e10]; exact h.fc, by rw [e10, e12]; exact h.fd, by rw [e12]; exact h.fe, by rw [e9, e8]; exact h.c9, fun h10 => ?_, by rw [e12, e10]; exact h.c12⟩
  · by_cases hji : j = i
    · subst hji; exact wset_eq hx
    · rw [wset_ne hji]; rw [wupd_ne hji] at hj; exact h.x j hj h12
  · rw [e10] at h10
    obtain ⟨q1, q2⟩ := h.c10 h10
    refine ⟨by rw [e9]; exact q1, ?_⟩
    by_cases h1 : 1 = i
    · subst h1; exact wupd_eq
    · rw [wupd_ne h1]; exact q2

/-- The call. -/
theorem WR.call (h : WR c wr f x t9 g0 g cp w') (hf : f 8 = false) (hx : 8 < x.length) {w2 : World} {t2 : T} (f2 : Fr No w' w2) (hv : t2.v = c.tv) (hsh : t2.Sh w2 w'.heap.size w2.heap.size) : WR c wr (upd f 8) (x.set 8 t2.val) t2 g0 g cp w2 := by
  have h9 : f 9 = false := by
    cases q : f 9 with
    | false => rfl
    | true => rw [h.c9 q] at hf; cases hf
  have h10 : f 10 = false := by
    cases q : f 10 with
    | false => rfl
    | true => rw [(h.c10 q).1] at h9; cases h9
  have h12 : f 12 = false := by
    cases q : f 12 with
    | false => rfl
    | true => rw [h.c12 q] at h10; cases h10
  have e9 : upd f 8 9 = false := (wupd_ne (by omega)).trans h9
  have e10 : upd f 8 10 = false := (wupd_ne (by omega)).trans h10
  have e12 : upd f 8 12 = false := (wupd_ne (by omega)).trans h12
  have fa := (h.fa h10).trans f2
  refine ⟨fun j hj hj12 => ?_, fa.no, fun _ => fa.no, fun _ => fa, fun _ _ => ⟨hv, hsh.more (h.fa h10).size (Nat.le_refl _)⟩, fun q => (by rw [e9] at q; cases q), fun q => (by rw [e10] at q; cases q), fun q => (by rw [e12] at q; cases q), fun q => (by rw [e9] at q; cases q), fun q => (by rw [e10] at q; cases q), fun q => (by rw [e12] at q; cases q)⟩
  by_cases hji : j = 8
  · subst hji; rw [wset_eq hx]; rfl
  · rw [wset_ne hji]
    rw [wupd_ne hji] at hj
    have j9 : j ≠ 9 := fun e => by subst e; rw [h9] at hj; cases hj
    have j10 : j ≠ 10 := fun e => by subst e; rw [h10] at hj; cases hj
    rw [h.x j hj hj12]
    unfold wiE
    split <;> first | rfl | omega

/-- The new row of one. -/
theorem WR.build (h : WR c wr f x t9 g0 g cp w') (hf : f 9 = false) (h8 : f 8 = true) (hx : 9 < x.length) : WR c wr (upd f 9) (x.set 9 (.slice (some ⟨w'.heap.size, 0, none⟩) 1 1)) t9 w'.heap.size g cp (w'.alloc (.cells t9.cells.toArray 37)) := by
  have h10 : f 10 = false := by
    cases q : f 10 with
    | false => rfl
    | true => rw [(h.c10 q).1] at hf; cases hf
  have h12 : f 12 = false := by
    cases q : f 12 with
    | false => rfl
    | true => rw [h.c12 q] at h10; cases h10
  have e8 : upd f 9 8 = true := (wupd_ne (by omega)).trans h8
  have e10 : upd f 9 10 = false := (wupd_ne (by omega)).trans h10
  have e12 : upd f 9 12 = false := (wupd_ne (by omega)).trans h12
  obtain ⟨hv, hsh⟩ := h.fb h8 h10
  have fa := (h.fa h10).alloc (.cells t9.cells.toArray 37)
  refine ⟨fun j hj hj12 => ?_, fa.no, fun _ => fa.no, fun _ => fa, fun _ _ => ⟨hv, (hsh.no ((Fr.refl No w').alloc _)).more (Nat.le_refl _) (by simp)⟩, fun _ _ => ⟨Blk.new w' 37 _, (h.fa h10).size, fun hm => ?_⟩, fun q => (by rw [e10] at q; cases q), fun q => (by rw [e12] at q; cases q), fun _ => e8, fun q => (by rw [e10] at q; cases q), fun q => (by rw [e12] at q; cases q)⟩
  · by_cases hji : j = 9
    · subst hji; rw [wset_eq hx]; rfl
    · rw [wset_ne hji]
      rw [wupd_ne hji] at hj
      have j10 : j ≠ 10 := fun e => by subst e; rw [h10] at hj; cases hj
      rw [h.x j hj hj12]
      unfold wiE
      split <;> first | rfl | omega
  · have := (T.In.blocks _ hsh.inn _ hm).2
    omega

/-- The append. -/
theorem WR.app (h : WR c wr f x t9 g0 g cp w') (hf : f 10 = false) (h9 : f 9 = true) (h1 : f 1 = true) (hx : 10 < x.length) {w3 : World} {g' cp' : Nat} (hrow : ∀ i, c.row = some i → i < wr.heap.size) (hgr : w'.grownBy w3 c.row)
    (hown : w3.ownsRow c.base 37 5 (.slice (some ⟨g', 0, none⟩) (c.j + 1) cp') (c.j + 1) (c.xs ++ t9.cells)) (hat : c.row = some g' ∨ g' = w'.heap.size) : WR c wr (upd f 10) (x.set 10 (.slice (some ⟨g', 0, none⟩) (c.j + 1) cp')) t9 g0 g' cp' w3 := by
  have h12 : f 12 = false := by
    cases q : f 12 with
    | false => rfl
    | true => rw [h.c12 q] at hf; cases hf
  have e1 : upd f 10 1 = true := (wupd_ne (by omega)).trans h1
  have e9 : upd f 10 9 = true := (wupd_ne (by omega)).trans h9
  have e12 : upd f 10 12 = false := (wupd_ne (by omega)).trans h12
  obtain ⟨hv, hsh⟩ := h.fb (h.c9 h9) hf
  have fg : Fr (fun i => some i = c.row) w' w3 := (fr_grown hgr).mono fun i _ e => e
  have fa : Fr (fun i => some i = c.row) wr w3 := (h.fa hf).no.trans fg
  have hsz := (h.fa hf).size
  have hbl : ∀ b ∈ t9.blocks, wr.heap.size ≤ b ∧ b < w'.heap.size := fun b hb => T.In.blocks _ hsh.inn b hb
  have hd : WD c wr t9 g' cp' w3 := ⟨fa, (hsh.fr fg fun b hb e => by have := hrow b e.symm; have := (hbl b hb).1; omega).more (Nat.le_refl _) fg.size, hv, hown, hat.imp id fun e => by subst e; exact ⟨hsz, fun hm => by have := (hbl _ hm).2; omega⟩⟩
  refine ⟨fun j hj hj12 => ?_, fa.mono fun i _ e => .inr e, fun _ => fa, fun q => (by rw [wupd_eq] at q; cases q), fun _ q => (by rw [wupd_eq] at q; cases q), fun _ q => (by rw [wupd_eq] at q; cases q), fun _ _ => hd, fun q => (by rw [e12] at q; cases q), fun _ => (wupd_ne (by omega)).trans (h.c9 h9), fun _ => ⟨e9, e1⟩, fun q => (by rw [e12] at q; cases q)⟩
  by_cases hji : j = 10
  · subst hji; rw [wset_eq hx]; rfl
  · rw [wset_ne hji]
    rw [wupd_ne hji] at hj
    rw [h.x j hj hj12]
    unfold wiE
    split <;> first | rfl | omega

/-- The store. -/
theorem WR.store (h : WR c wr f x t9 g0 g cp w') (hf : f 12 = false) (h10 : f 10 = true) : WR c wr (upd f 12) x t9 g0 g cp (w'.setCell ⟨c.b2, 3, none⟩ (.slice (some ⟨g, 0, none⟩) (c.j + 1) cp)) := by
  have e : ∀ i, i ≠ 12 → upd f 12 i = f i := fun i hi => wupd_ne hi
  have hd := h.fd h10 hf
  refine ⟨fun j hj hj12 => h.x j (by rwa [e j hj12] at hj) hj12, (hd.fr.mono fun i _ q => .inr q).set (fun _ => .inl rfl) _, fun q => (by rw [wupd_eq] at q; cases q), fun q => (by rw [e 10 (by omega), h10] at q; cases q), fun _ q => (by rw [e 10 (by omega), h10] at q; cases q), fun _ q => (by rw [e 10 (by omega), h10] at q; cases q), fun _ q => (by rw [wupd_eq] at q; cases q), fun _ => ⟨w', hd, rfl⟩, fun q => ?_, fun _ => ?_, fun _ => ?_⟩
  · rw [e 9 (by omega)] at q; rw [e 8 (by omega)]; exact h.c9 q
  · rw [e 9 (by omega), e 1 (by omega)]; exact h.c10 h10
  · rw [e 10 (by omega)]; exact h10
end

/-- Where within's loop stands. -/
structure WiInv (w : World) (last : Int) (k n : Int) (s : ByteArray) (r r' : Int) (A : Option Addr) (cap : Nat) (l : List T) (j : Nat) (A2 : Option Addr) (cap2 : Nat) (l' : List T) (wr : World) : Prop where
  len : l'.length = j
  vs : l'.map T.v = (l.take j).map fun t => t.v.win last
  fr : Fr No w wr
  b0 : Blk wr w.heap.size 37 #[.int .u8 k, .int .i64 n, .string s, .slice A l.length cap, .int .i64 r]
  b1 : Blk wr (w.heap.size + 1) 37 #[.int .u8 0, .int .i64 0, .string ⟨#[]⟩, .slice none 0 0, .int .i64 0]
  b2 : Blk wr (w.heap.size + 1 + 1) 37 #[.int .u8 k, .int .i64 n, .string s, .slice A2 j cap2, .int .i64 r']
  own : wr.ownsRow (w.heap.size + 3) 37 5 (.slice A2 j cap2) j (rowCells l')
  sp : ∀ x ∈ l', x.Sp wr (w.heap.size + 3) wr.heap.size
  nd : ((l'.map T.blocks).flatten).Nodup
  nil : l' = [] → A2 = none ∧ cap2 = 0
  sep : ∀ x ∈ l', ∀ b ∈ x.blocks, (Value.slice A2 j cap2).ownBlock ≠ some b
  big : w.heap.size + 3 ≤ wr.heap.size

/-- What the round is about. -/
def wiC (w : World) (last : Int) (A2 : Option Addr) (j cap2 : Nat) (len cap b o : Nat) (l' : List T) (x : T) : WC :=
  ⟨w.heap.size, w.heap.size + 1 + 1, A2, j, cap2, len, cap, b, o, x.val, last, w.heap.size + 3, rowCells l', x.v.win last⟩

theorem wi_push {w wr w3 : World} {last k n : Int} {s : ByteArray} {r r' : Int} {A : Option Addr} {cap : Nat} {l : List T} {j : Nat} {A2 : Option Addr} {cap2 : Nat} {l' : List T} {len b o : Nat} {t9 : T} {g cp : Nat}
    (inv : WiInv w last k n s r r' A cap l j A2 cap2 l' wr) (hlt : j < l.length) (d : WD (wiC w last A2 j cap2 len cap b o l' l[j]) wr t9 g cp w3) :
    WiInv w last k n s r r' A cap l (j + 1) (some ⟨g, 0, none⟩) cp (l' ++ [t9]) (w3.setCell ⟨w.heap.size + 1 + 1, 3, none⟩ (.slice (some ⟨g, 0, none⟩) (j + 1) cp)) := by
  have big := inv.big
  have hin := d.sh.inn
  have hinn : ∀ x ∈ l', x.In wr (w.heap.size + 3) wr.heap.size := fun x hx => T.Sp.inn x (inv.sp x hx)
  have hol := inv.own.lt
  have hsz := d.fr.size
  have F0 : Fr (fun i => some i = (Value.slice A2 j cap2).ownBlock) wr w3 := d.fr
  have FS : Fr (fun i => i = w.heap.size + 1 + 1) w3 (w3.setCell ⟨w.heap.size + 1 + 1, 3, none⟩ (.slice (some ⟨g, 0, none⟩) (j + 1) cp)) := (Fr.refl (fun i => i = w.heap.size + 1 + 1) w3).set (fun _ => rfl) _
  have hgl := owns_lt d.own g rfl
  have hgl' : w.heap.size + 3 ≤ g ∧ g < w3.heap.size := hgl
  have hn0 : ∀ i, i < w.heap.size + 3 → ¬ some i = (Value.slice A2 j cap2).ownBlock := fun i hi h => by have := hol i h.symm; omega
  have hbl9 : ∀ b ∈ t9.blocks, wr.heap.size ≤ b ∧ b < w3.heap.size := fun b hb => T.In.blocks _ hin b hb
  have hb2 := (inv.b2.fr F0 (hn0 _ (by omega))).set_ 3 (.slice (some ⟨g, 0, none⟩) (j + 1) cp)
  refine ⟨by simp [inv.len], ?_, (inv.fr.trans' F0 (fun i hi h => hn0 i (by omega) h)).trans' FS (fun i hi h => by have h' : i = w.heap.size + 1 + 1 := h; omega), (inv.b0.fr F0 (hn0 _ (by omega))).fr FS (by omega), (inv.b1.fr F0 (hn0 _ (by omega))).fr FS (by omega), by simpa using hb2, ?_, ?_, ?_, (fun h => absurd h (by simp)), ?_, ?_⟩
  · rw [List.map_append, inv.vs, List.take_succ_eq_append_getElem hlt, List.map_append, List.map_singleton, List.map_singleton]
    exact congrArg (fun u => _ ++ [u]) d.v
  · rw [rowCells_snoc]
    exact owns_fr d.own FS fun i hi h => by
      have hg' : i = g := by simpa [Value.ownBlock] using hi.symm
      have h' : i = w.heap.size + 1 + 1 := h
      omega
  · intro x hx
    have hszs := FS.size
    rcases List.mem_append.1 hx with hx | hx
    · have hb : ∀ b ∈ x.blocks, ¬ (some b = (Value.slice A2 j cap2).ownBlock) := fun b hb h => inv.sep x hx b hb h.symm
      have h1 := T.Sp.fr F0 x hb (inv.sp x hx)
      exact T.Sp.more (Nat.le_refl _) (by omega) x (T.Sp.fr FS x (fun b hb h => by have := T.In.blocks x (hinn x hx) b hb; have h' : b = w.heap.size + 1 + 1 := h; omega) h1)
    · simp at hx; subst hx
      exact T.Sp.more (by omega) hszs x (T.Sp.fr FS x (fun b hb h => by have := (hbl9 b hb).1; have h' : b = w.heap.size + 1 + 1 := h; omega) d.sh.sp)
  · rw [List.map_append, List.flatten_append, List.nodup_append]
    refine ⟨inv.nd, by simpa using d.sh.nodup, fun a ha b hb e => ?_⟩
    subst e
    obtain ⟨L, hL, ha⟩ := List.mem_flatten.1 ha
    obtain ⟨x, hx, rfl⟩ := List.mem_map.1 hL
    have h1 := T.In.blocks x (hinn x hx) a ha
    have h2 := hbl9 a (by simpa using hb)
    omega
  · intro x hx b hb h
    simp [Value.ownBlock] at h
    subst h
    rcases List.mem_append.1 hx with hx | hx
    · rcases d.at_ with h | h
      · exact inv.sep x hx _ hb h
      · have := T.In.blocks x (hinn x hx) _ hb; omega
    · simp at hx; subst hx
      rcases d.at_ with h | h
      · have := hol _ h; have := (hbl9 _ hb).1; omega
      · exact h.2 hb
  · have := FS.size; omega

/-- A value whose references are brought into 1 to last, in memory of its own. -/
def WithinP (last : Int) (v : V) (w : World) (e : Ending) (w' : World) : Prop := ∃ t' : T, e = .returned t'.val ∧ t'.v = v.win last ∧ t'.Sh w' w.heap.size w'.heap.size ∧ Fr No w w'

theorem wi_le {w : World} {base : Nat} {e : TypeId} {size : Nat} {A : Option Addr} {n cap : Nat} {xs : List Value} (h : w.ownsRow base e size (.slice A n cap) n xs) : n ≤ cap := by
  rcases h.2 with ⟨h, _⟩ | ⟨g, c, cur, h, _, _, hc, _⟩
  · simp at h; omega
  · simp at h; omega

theorem within_end {w wr W : World} {last k n : Int} {s : ByteArray} {r r' : Int} {A : Option Addr} {cap : Nat} {l : List T} {A2 : Option Addr} {cap2 : Nat} {l' : List T} (hwin : (T.mk k n s A cap l r).v.win last = .mk k n s ((l.map T.v).map (V.win last)) r')
    (fit : Fit k n s l.length cap r) (hr0 : -9223372036854775808 ≤ r') (hr1 : r' ≤ 9223372036854775807) (inv : WiInv w last k n s r r' A cap l l.length A2 cap2 l' wr) (hfr : Fr (fun i => i = w.heap.size + 1) wr W) :
    WithinP last (T.mk k n s A cap l r).v w (.returned (.agg #[.int .u8 k, .int .i64 n, .string s, .slice A2 l.length cap2, .int .i64 r'])) W := by
  have hil := inv.len
  have big := inv.big
  have hlen := fit.len1
  have hol := inv.own.lt
  have own2 := owns_fr inv.own hfr (fun g hg h => by have := hol g hg; have h' : g = w.heap.size + 1 := h; omega)
  have hle := wi_le own2
  have hbl : ∀ x ∈ l', ∀ b ∈ x.blocks, w.heap.size + 3 ≤ b ∧ b < wr.heap.size := fun x hx b hb => T.In.blocks x (T.Sp.inn x (inv.sp x hx)) b hb
  have hspW : ∀ x ∈ l', x.Sp W w.heap.size W.heap.size := fun x hx => T.Sp.more (by omega) hfr.size x (T.Sp.fr hfr x (fun b hb h => by have := hbl x hx b hb; have h' : b = w.heap.size + 1 := h; omega) (inv.sp x hx))
  refine ⟨T.mk k n s A2 cap2 l' r', by rw [T.val_mk, hil], ?_, ⟨T.sp_mk.2 ⟨⟨fit.k0, fit.k1, fit.n0, fit.n1, fit.s1, by rw [hil]; exact hlen, by rw [hil]; exact hle, hr0, hr1⟩, inv.nil, fun hne => ?_, hspW⟩, ?_⟩, inv.fr.trans' hfr (fun i hi h => by have h' : i = w.heap.size + 1 := h; omega)⟩
  · rw [hwin, T.v_mk, inv.vs, List.take_of_length_le (Nat.le_refl _), List.map_map]
    rfl
  · have hpos : 0 < l.length := by
      cases l' with
      | nil => exact absurd rfl hne
      | cons x l' => simp at hil; omega
    obtain ⟨g, c, hA, hg0, hg1⟩ := own2.form hpos
    simp only [Value.slice.injEq, true_and] at hA
    obtain ⟨rfl, rfl⟩ := hA
    rw [hil]
    exact ⟨owns_mono own2 (by omega), g, rfl, hg1⟩
  · rw [T.blocks_mk]
    cases hl0 : l' with
    | nil => simp
    | cons x l2 =>
      have hie : l'.isEmpty = false := by rw [hl0]; rfl
      rw [← hl0]
      have hpos : 0 < l.length := by rw [hl0] at hil; simp at hil; omega
      obtain ⟨g, c, hA, hg0, hg1⟩ := own2.form hpos
      simp only [Value.slice.injEq, true_and] at hA
      obtain ⟨rfl, rfl⟩ := hA
      simp only [hie, Bool.false_eq_true, if_false, Option.map_some, Option.toList_some, List.singleton_append, List.nodup_cons]
      refine ⟨fun h => ?_, inv.nd⟩
      obtain ⟨L, hL, ha⟩ := List.mem_flatten.1 h
      obtain ⟨y, hy, rfl⟩ := List.mem_map.1 hL
      exact inv.sep y hy g ha rfl

set_option maxRecDepth 100000 in
set_option maxHeartbeats 16000000 in
theorem within_any (last : Int) (h1 : 1 ≤ last) (h2 : last ≤ 100000) (t : T) : ∀ (w : World) (lo hi : Nat), t.In w lo hi → hi ≤ w.heap.size → Calls Try.prog 18 #[t.val, .int .i64 last] w (WithinP last t.v w) := by
  induction t using T.ind with
  | h k n s A cap l r ih =>
    intro w lo hi ht hh
    rw [T.val_mk]
    have fit := (T.in_mk.1 ht).1
    have hlen := fit.len1
    obtain ⟨i0, hi0, hz0, hz1, hz2⟩ := info_parts value_info
    have hst : ∀ r', WiInv w last k n s r r' A cap l 0 none 0 [] (((w.alloc (.cells #[.int .u8 k, .int .i64 n, .string s, .slice A l.length cap, .int .i64 r] 37)).alloc (.cells #[.int .u8 0, .int .i64 0, .string ⟨#[]⟩, .slice none 0 0, .int .i64 0] 37)).alloc (.cells #[.int .u8 k, .int .i64 n, .string s, .slice none 0 0, .int .i64 r'] 37)) := fun r' =>
      ⟨rfl, by simp, (((Fr.refl No w).alloc _).alloc _).alloc _, ((Blk.new' w 37 _ rfl).alloc _).alloc _, (Blk.new' (w.alloc _) 37 _ (by simp)).alloc _, Blk.new' ((w.alloc _).alloc _) 37 _ (by simp), World.ownsRow_nil _ _ _ _, by simp, by simp, fun _ => ⟨rfl, rfl⟩, by simp, by simp⟩
    have HST := hide hst
    have HIH := hide ih
    have HT := hide ht
    have HFIT := hide fit
    clear hst ih ht
    have hcs : (k = 4 ∧ last < r) ∨ k ≠ 4 ∨ (k = 4 ∧ ¬ last < r) := by omega
    rcases hcs with ⟨rfl, hlr⟩ | hk4 | ⟨rfl, hlr⟩
    · have hre : (0 : Int) ≤ r % last ∧ r % last < last := ⟨Int.emod_nonneg r (by omega), Int.emod_lt_of_pos r (by omega)⟩
      have hw4 : IntKind.i64.wrap (r % last + 1) = r % last + 1 := IntWalk.i64_in _ (by omega)
      have hwin : (V.mk 4 n s (l.map T.v) r).win last = .mk 4 n s ((l.map T.v).map (V.win last)) (r % last + 1) := by
        rw [V.win_mk]
        congr 1
        simp [hlr]
      have hrp0 : -9223372036854775808 ≤ r % last + 1 := by have := fit.r0; omega
      have hrp1 : r % last + 1 ≤ 9223372036854775807 := by have := fit.r1; omega
      have HW := hide hwin
      have HR0 := hide hrp0
      have HR1 := hide hrp1
      have HS0 := hide (HST.out (r % last + 1))
      clear hwin fit HST hrp0 hrp1
      go_enter Try.func18, Try.ntmps18
      go_wp2_with fail
      go_loopw [6] (fun i wr => ∃ (j : Nat) (A2 : Option Addr) (cap2 : Nat) (l' : List T), j ≤ l.length ∧ i = .int .i64 j ∧ WiInv w last 4 n s r (r % last + 1) A cap l j A2 cap2 l' wr) (fun i _ => l.length - (intOf i).toNat)
      case atStart => exact ⟨0, none, 0, [], Nat.zero_le _, rfl, HS0.out⟩
      case round =>
        obtain ⟨j, A2, cap2, l', hj, rfl, inv⟩ := hrel
        have big := inv.big
        have hol := inv.own.lt
        obtain ⟨d0, d1, d2, d3, d4, df⟩ := inv.b0.cells5
        have q0 := inv.b0.lt
        by_cases hlt : j < l.length
        · obtain ⟨b, o, k1, n1, s1, A1, cap1, l1, r1, rfl, hb0, hb1, hx, hin, e0, e1, e2, e3, e4⟩ := T.elem (HT.out.no inv.fr hh) hlt
          have hIH := HIH.out l[j] (List.getElem_mem hlt)
          have hpush := fun t9 g cp w3 (d : WD (wiC w last A2 j cap2 l.length cap b o l' l[j]) wr t9 g cp w3) => wi_push inv hlt d
          rw [hx] at hIH hpush
          have hcell : ∀ wx, Fr (fun i => i = w.heap.size + 1 + 1 ∨ some i = (Value.slice A2 j cap2).ownBlock) wr wx → (T.mk k1 n1 s1 A1 cap1 l1 r1).In wx lo hi ∧ wx.cell? ⟨b, o + j * 5, none⟩ = some (.int .u8 k1) ∧ wx.cell? ⟨b, o + j * 5 + 1, none⟩ = some (.int .i64 n1) ∧ wx.cell? ⟨b, o + j * 5 + 2, none⟩ = some (.string s1) ∧ wx.cell? ⟨b, o + j * 5 + 3, none⟩ = some (.slice A1 l1.length cap1) ∧ wx.cell? ⟨b, o + j * 5 + 4, none⟩ = some (.int .i64 r1) ∧ wx.cell? ⟨w.heap.size, 3, none⟩ = some (.slice (some ⟨b, o, none⟩) l.length cap) ∧ hi ≤ wx.heap.size := fun wx f => by
            have hbs : ¬ (b = w.heap.size + 1 + 1 ∨ some b = (Value.slice A2 j cap2).ownBlock) := fun h => by
              rcases h with h | h
              · omega
              · have := hol _ h.symm; omega
            have c := fun q => f.cell (b := b) (o := q) (s := none) (by omega) hbs
            exact ⟨hin.fr f (by omega) (fun i _ hi' h => by
              rcases h with h | h
              · omega
              · have := hol _ h.symm; omega), (c _).trans e0, (c _).trans e1, (c _).trans e2, (c _).trans e3, (c _).trans e4, (f.cell q0 (fun h => by
              rcases h with h | h
              · omega
              · have := hol _ h.symm; omega)).trans d3, by have := f.size; omega⟩
          have hbox : ∀ wx, Fr (fun i => some i = (Value.slice A2 j cap2).ownBlock) wr wx → Blk wx (w.heap.size + 1 + 1) 37 #[.int .u8 4, .int .i64 n, .string s, .slice A2 j cap2, .int .i64 (r % last + 1)] := fun wx f => inv.b2.fr f fun h => by have := hol _ h.symm; omega
          have HIHX := hide hIH
          have HPU := hide hpush
          have HCE := hide hcell
          have HBX := hide hbox
          have HINV := hide inv
          clear hIH hpush hcell hbox inv hx hin e0 e1 e2 e3 e4 hb0 hb1 hol HIH
          go_wp2_with fail
          refine wp_region_inv (I := fun a0 f a wx => ∃ y0 y1 y2 y3 y4 y5 y6 y7 y8 y9 y10 y11 t9 g0 g cp, a = ((((((((((((a0.put (some 31) y0).put (some 32) y1).put (some 33) y2).put (some 34) y3).put (some 35) y4).put (some 36) y5).put (some 37) y6).put (some 38) y7).put (some 39) y8).put (some 40) y9).put (some 41) y10).put (some 42) y11) ∧ WR (wiC w last A2 j cap2 l.length cap b o l' (T.mk k1 n1 s1 A1 cap1 l1 r1)) wr f [y0, y1, y2, y3, y4, y5, y6, y7, y8, y9, y10, y11] t9 g0 g cp wx) (by kernel_rfl) (by kernel_rfl) ?st ?step ?en
          case st => exact ⟨_, _, _, _, _, _, _, _, _, _, _, _, T.mk k1 n1 s1 A1 cap1 l1 r1, 0, 0, 0, by simp only [Act.put, List.setIfInBounds_toArray, List.set_cons_zero, List.set_cons_succ] <;> rfl, WR.begin _ wr _ _⟩
          case step =>
            rintro i oo f a wx ho hf hd ⟨y0, y1, y2, y3, y4, y5, y6, y7, y8, y9, y10, y11, t9, g0, g, cp, rfl, J⟩ K' hK
            have hidx := (Array.getElem?_eq_some_iff.1 ho).1
            simp only [List.size_toArray, List.length_cons, List.length_nil] at hidx
            have hid : i = 0 ∨ i = 1 ∨ i = 2 ∨ i = 3 ∨ i = 4 ∨ i = 5 ∨ i = 6 ∨ i = 7 ∨ i = 8 ∨ i = 9 ∨ i = 10 ∨ i = 11 ∨ i = 12 := by omega
            simp only [Act.put, List.setIfInBounds_toArray, List.set_cons_zero, List.set_cons_succ]
            rcases hid with rfl | rfl | rfl | rfl | rfl | rfl | rfl | rfl | rfl | rfl | rfl | rfl | rfl
            · simp only [List.getElem?_toArray, List.getElem?_cons_zero, Option.some.injEq] at ho; subst ho
              obtain ⟨hinx, c0, c1, c2, c3, c4, c5, hsx⟩ := HCE.out wx J.fr
              have hwx := J.fr.size
              have HJ := hide J
              have HFI := hide hf
              clear J hd hf hinx hsx
              go_simp
              exact hK.out _ _ ⟨_, _, _, _, _, _, _, _, _, _, _, _, _, _, _, _, by simp only [Act.put, List.setIfInBounds_toArray, List.set_cons_zero, List.set_cons_succ] <;> rfl, HJ.out.quiet (i := 0) (by decide) (by simp)⟩
            · simp only [List.getElem?_toArray, List.getElem?_cons_succ, List.getElem?_cons_zero, Option.some.injEq] at ho; subst ho
              have b0 := hd ⟨0, .data⟩ (by simp) (by rfl)
              obtain rfl : y0 = .pointer (some ⟨w.heap.size + 1 + 1, 3, none⟩) := J.x 0 b0 (by omega)
              obtain ⟨hinx, c0, c1, c2, c3, c4, c5, hsx⟩ := HCE.out wx J.fr
              have hwx := J.fr.size
              have hB := HBX.out wx (J.far (J.n1 hf))
              have x3 := hB.cell 3
              simp only [List.getElem?_toArray, List.getElem?_cons_zero, List.getElem?_cons_succ] at x3
              have xq := hB.lt
              have HJ := hide J
              have B0 := hide b0
              have HFI := hide hf
              clear J hd hf b0 hinx hsx hB
              go_simp
              exact hK.out _ _ ⟨_, _, _, _, _, _, _, _, _, _, _, _, _, _, _, _, by simp only [Act.put, List.setIfInBounds_toArray, List.set_cons_zero, List.set_cons_succ] <;> rfl, HJ.out.quiet (i := 1) (by decide) (by simp)⟩
            · simp only [List.getElem?_toArray, List.getElem?_cons_succ, List.getElem?_cons_zero, Option.some.injEq] at ho; subst ho
              obtain ⟨hinx, c0, c1, c2, c3, c4, c5, hsx⟩ := HCE.out wx J.fr
              have hwx := J.fr.size
              have HJ := hide J
              have HFI := hide hf
              clear J hd hf hinx hsx
              go_simp
              exact hK.out _ _ ⟨_, _, _, _, _, _, _, _, _, _, _, _, _, _, _, _, by simp only [Act.put, List.setIfInBounds_toArray, List.set_cons_zero, List.set_cons_succ] <;> rfl, HJ.out.quiet (i := 2) (by decide) (by simp)⟩
            · simp only [List.getElem?_toArray, List.getElem?_cons_succ, List.getElem?_cons_zero, Option.some.injEq] at ho; subst ho
              have b2 := hd ⟨2, .data⟩ (by simp) (by rfl)
              obtain rfl : y2 = .pointer (some ⟨w.heap.size, 3, none⟩) := J.x 2 b2 (by omega)
              obtain ⟨hinx, c0, c1, c2, c3, c4, c5, hsx⟩ := HCE.out wx J.fr
              have hwx := J.fr.size
              have HJ := hide J
              have B2 := hide b2
              have HFI := hide hf
              clear J hd hf b2 hinx hsx
              go_simp
              exact hK.out _ _ ⟨_, _, _, _, _, _, _, _, _, _, _, _, _, _, _, _, by simp only [Act.put, List.setIfInBounds_toArray, List.set_cons_zero, List.set_cons_succ] <;> rfl, HJ.out.quiet (i := 3) (by decide) (by simp)⟩
            · simp only [List.getElem?_toArray, List.getElem?_cons_succ, List.getElem?_cons_zero, Option.some.injEq] at ho; subst ho
              obtain ⟨hinx, c0, c1, c2, c3, c4, c5, hsx⟩ := HCE.out wx J.fr
              have hwx := J.fr.size
              have HJ := hide J
              have HFI := hide hf
              clear J hd hf hinx hsx
              go_simp
              exact hK.out _ _ ⟨_, _, _, _, _, _, _, _, _, _, _, _, _, _, _, _, by simp only [Act.put, List.setIfInBounds_toArray, List.set_cons_zero, List.set_cons_succ] <;> rfl, HJ.out.quiet (i := 4) (by decide) (by simp)⟩
            · simp only [List.getElem?_toArray, List.getElem?_cons_succ, List.getElem?_cons_zero, Option.some.injEq] at ho; subst ho
              have b3 := hd ⟨3, .data⟩ (by simp) (by rfl)
              obtain rfl : y3 = .slice (some ⟨b, o, none⟩) l.length cap := J.x 3 b3 (by omega)
              have b4 := hd ⟨4, .data⟩ (by simp) (by rfl)
              obtain rfl : y4 = .int .i64 (j : Int) := J.x 4 b4 (by omega)
              obtain ⟨hinx, c0, c1, c2, c3, c4, c5, hsx⟩ := HCE.out wx J.fr
              have hwx := J.fr.size
              have HJ := hide J
              have B3 := hide b3
              have B4 := hide b4
              have HFI := hide hf
              clear J hd hf b3 b4 hinx hsx
              go_simp
              exact hK.out _ _ ⟨_, _, _, _, _, _, _, _, _, _, _, _, _, _, _, _, by simp only [Act.put, List.setIfInBounds_toArray, List.set_cons_zero, List.set_cons_succ] <;> rfl, HJ.out.quiet (i := 5) (by decide) (by simp)⟩
            · simp only [List.getElem?_toArray, List.getElem?_cons_succ, List.getElem?_cons_zero, Option.some.injEq] at ho; subst ho
              have b5 := hd ⟨5, .data⟩ (by simp) (by rfl)
              obtain rfl : y5 = .pointer (some ⟨b, o + j * 5, none⟩) := J.x 5 b5 (by omega)
              obtain ⟨hinx, c0, c1, c2, c3, c4, c5, hsx⟩ := HCE.out wx J.fr
              have hwx := J.fr.size
              have HJ := hide J
              have B5 := hide b5
              have HFI := hide hf
              clear J hd hf b5 hinx hsx
              go_simp
              exact hK.out _ _ ⟨_, _, _, _, _, _, _, _, _, _, _, _, _, _, _, _, by simp only [Act.put, List.setIfInBounds_toArray, List.set_cons_zero, List.set_cons_succ] <;> rfl, HJ.out.quiet (i := 6) (by decide) (by simp)⟩
            · simp only [List.getElem?_toArray, List.getElem?_cons_succ, List.getElem?_cons_zero, Option.some.injEq] at ho; subst ho
              obtain ⟨hinx, c0, c1, c2, c3, c4, c5, hsx⟩ := HCE.out wx J.fr
              have hwx := J.fr.size
              have HJ := hide J
              have HFI := hide hf
              clear J hd hf hinx hsx
              go_simp
              exact hK.out _ _ ⟨_, _, _, _, _, _, _, _, _, _, _, _, _, _, _, _, by simp only [Act.put, List.setIfInBounds_toArray, List.set_cons_zero, List.set_cons_succ] <;> rfl, HJ.out.quiet (i := 7) (by decide) (by simp)⟩
            · simp only [List.getElem?_toArray, List.getElem?_cons_succ, List.getElem?_cons_zero, Option.some.injEq] at ho; subst ho
              have b6 := hd ⟨6, .data⟩ (by simp) (by rfl)
              obtain rfl : y6 = .agg #[.int .u8 k1, .int .i64 n1, .string s1, .slice A1 l1.length cap1, .int .i64 r1] := J.x 6 b6 (by omega)
              have b7 := hd ⟨7, .data⟩ (by simp) (by rfl)
              obtain rfl : y7 = .int .i64 last := J.x 7 b7 (by omega)
              obtain ⟨hinx, c0, c1, c2, c3, c4, c5, hsx⟩ := HCE.out wx J.fr
              have hwx := J.fr.size
              have hcall := HIHX.out wx lo hi hinx hsx
              rw [T.val_mk] at hcall
              have HC := hide hcall
              have HJ := hide J
              have B6 := hide b6
              have B7 := hide b7
              have HFI := hide hf
              clear J hd hf b6 b7 hcall hinx hsx
              go_simp
              refine HC.out.mono ?_
              rintro e w' ⟨t2, rfl, hv, hsh, f2⟩
              have HV := hide hv
              have HSH := hide hsh
              have HF2 := hide f2
              clear hv hsh f2
              try go_simp
              exact hK.out _ _ ⟨_, _, _, _, _, _, _, _, _, _, _, _, t2, _, _, _, by simp only [Act.put, List.setIfInBounds_toArray, List.set_cons_zero, List.set_cons_succ] <;> rfl, HJ.out.call HFI.out (by simp) HF2.out HV.out HSH.out⟩
            · simp only [List.getElem?_toArray, List.getElem?_cons_succ, List.getElem?_cons_zero, Option.some.injEq] at ho; subst ho
              have b8 := hd ⟨8, .data⟩ (by simp) (by rfl)
              obtain rfl : y8 = t9.val := J.x 8 b8 (by omega)
              obtain ⟨hinx, c0, c1, c2, c3, c4, c5, hsx⟩ := HCE.out wx J.fr
              have hwx := J.fr.size
              obtain ⟨k9, n9, s9, A9, cap9, l9, r9⟩ := t9
              rw [T.val_mk]
              have HJ := hide J
              have B8 := hide b8
              have HFI := hide hf
              clear J hd hf b8 hinx hsx
              go_simp
              exact hK.out _ _ ⟨_, _, _, _, _, _, _, _, _, _, _, _, (T.mk k9 n9 s9 A9 cap9 l9 r9), _, _, _, by simp only [Act.put, List.setIfInBounds_toArray, List.set_cons_zero, List.set_cons_succ] <;> rfl, HJ.out.build HFI.out B8.out (by simp)⟩
            · simp only [List.getElem?_toArray, List.getElem?_cons_succ, List.getElem?_cons_zero, Option.some.injEq] at ho; subst ho
              have b1 := hd ⟨1, .data⟩ (by simp) (by rfl)
              obtain rfl : y1 = .slice A2 j cap2 := J.x 1 b1 (by omega)
              have b9 := hd ⟨9, .data⟩ (by simp) (by rfl)
              obtain rfl : y9 = .slice (some ⟨g0, 0, none⟩) 1 1 := J.x 9 b9 (by omega)
              obtain ⟨hinx, c0, c1, c2, c3, c4, c5, hsx⟩ := HCE.out wx J.fr
              have hwx := J.fr.size
              have b8 := J.c9 b9
              obtain ⟨hblk, hg0, hgn⟩ := J.fc b9 hf
              have hownx := owns_fr HINV.out.own (J.fa hf) fun _ _ h => h
              have hrow : ∀ i, (Value.slice A2 j cap2).ownBlock = some i → i < wr.heap.size := fun i h => (HINV.out.own.lt i h).2
              obtain ⟨k9, n9, s9, A9, cap9, l9, r9⟩ := t9
              obtain ⟨g', cp', w5, hrun, hown5, hgrow, hat, hlt5⟩ := run_append_lies (P := Try.prog) wx 35 35 (w.heap.size + 3) 37 i0 _ 5 64 Try.underlying35 hi0 hz0 hz1 hz2 rfl (by omega) (.slice A2 j cap2) j (rowCells l') hownx ⟨g0, 0, none⟩ 1 1 [.int .u8 k9, .int .i64 n9, .string s9, .slice A9 l9.length cap9, .int .i64 r9] rfl (World.news_of_block hblk) (by simp [Value.oneCell']) (by omega) (by unfold maxLen; omega) (by omega) (by omega) _ rfl
              have hJ := J.app hf b9 b1 (by simp) hrow hgrow hown5 hat
              have HJA := hide hJ
              have HRUN := hide hrun
              have HJ := hide J
              have B1 := hide b1
              have B9 := hide b9
              have HFI := hide hf
              clear J hd hf b1 b9 hinx hsx b8 hblk hg0 hgn hownx hrow hown5 hgrow hat hlt5 hJ
              first | (go_simp; done) | skip
              try (unfold Oper.wp; simp [execOp, resolve, invoke, builtin, hrun, Result.andThen, Act.eval])
              exact hK.out _ _ ⟨_, _, _, _, _, _, _, _, _, _, _, _, (T.mk k9 n9 s9 A9 cap9 l9 r9), _, _, _, by simp only [Act.put, List.setIfInBounds_toArray, List.set_cons_zero, List.set_cons_succ] <;> rfl, HJA.out⟩
            · simp only [List.getElem?_toArray, List.getElem?_cons_succ, List.getElem?_cons_zero, Option.some.injEq] at ho; subst ho
              obtain ⟨hinx, c0, c1, c2, c3, c4, c5, hsx⟩ := HCE.out wx J.fr
              have hwx := J.fr.size
              have HJ := hide J
              have HFI := hide hf
              clear J hd hf hinx hsx
              go_simp
              exact hK.out _ _ ⟨_, _, _, _, _, _, _, _, _, _, _, _, _, _, _, _, by simp only [Act.put, List.setIfInBounds_toArray, List.set_cons_zero, List.set_cons_succ] <;> rfl, HJ.out.quiet (i := 11) (by decide) (by simp)⟩
            · simp only [List.getElem?_toArray, List.getElem?_cons_succ, List.getElem?_cons_zero, Option.some.injEq] at ho; subst ho
              have b11 := hd ⟨11, .data⟩ (by simp) (by rfl)
              obtain rfl : y11 = .pointer (some ⟨w.heap.size + 1 + 1, 3, none⟩) := J.x 11 b11 (by omega)
              have b10 := hd ⟨10, .data⟩ (by simp) (by rfl)
              obtain rfl : y10 = .slice (some ⟨g, 0, none⟩) (j + 1) cp := J.x 10 b10 (by omega)
              obtain ⟨hinx, c0, c1, c2, c3, c4, c5, hsx⟩ := HCE.out wx J.fr
              have hwx := J.fr.size
              have hB := HBX.out wx (J.far hf)
              have x3 := hB.cell 3
              simp only [List.getElem?_toArray, List.getElem?_cons_zero, List.getElem?_cons_succ] at x3
              have xq := hB.lt
              have xf := hB.frozen 3
              have HJ := hide J
              have B11 := hide b11
              have B10 := hide b10
              have HFI := hide hf
              clear J hd hf b11 b10 hinx hsx hB
              go_simp
              exact hK.out _ _ ⟨_, _, _, _, _, _, _, _, _, _, _, _, _, _, _, _, by simp only [Act.put, List.setIfInBounds_toArray, List.set_cons_zero, List.set_cons_succ] <;> rfl, HJ.out.store HFI.out B10.out⟩
          case en =>
            rintro f a wx hall ⟨y0, y1, y2, y3, y4, y5, y6, y7, y8, y9, y10, y11, t9, g0, g, cp, rfl, J⟩
            simp only [Act.put, List.setIfInBounds_toArray, List.set_cons_zero, List.set_cons_succ]
            obtain ⟨w3, hd3, rfl⟩ := J.fe (hall 12 (by simp))
            have HN := hide (HPU.out t9 g cp w3 hd3)
            clear J hall
            go_wp2
            go_roundw
            case rel => exact ⟨j + 1, _, _, _, hlt, by go_num, HN.out⟩
            case measure => simp [intOf]; omega
        · obtain rfl : l.length = j := by omega
          obtain ⟨y0, y1, y2, y3, y4, yf⟩ := inv.b1.cells5
          obtain ⟨x0, x1, x2, x3, x4, xf⟩ := inv.b2.cells5
          have q1 := inv.b1.lt
          have q2 := inv.b2.lt
          have hil := inv.len
          have HI := hide inv
          clear inv HIH
          go_wp2_with fail
          refine bodyPost_ret (v := .agg #[.int .u8 4, .int .i64 n, .string s, .slice A2 l.length cap2, .int .i64 (r % last + 1)]) (by simp [results, Try.results18, go_sem, *]) rfl ?_
          generalize hW : World.setCell _ _ _ = W
          have hfr : Fr (fun i => i = w.heap.size + 1) wr W := by
            rw [← hW]
            repeat (first | with_reducible exact Fr.refl _ wr | with_reducible refine Fr.set ?_ (by simp) _)
          refine within_end (T.v_mk _ _ _ _ _ _ _ ▸ HW.out) HFIT.out HR0.out HR1.out HI.out hfr
    · have e4 : (k == 4) = false := by simpa using hk4
      have hwin : (V.mk k n s (l.map T.v) r).win last = .mk k n s ((l.map T.v).map (V.win last)) (r) := by
        rw [V.win_mk]
        congr 1
        simp [hk4]
      have hrp0 : -9223372036854775808 ≤ r := by have := fit.r0; omega
      have hrp1 : r ≤ 9223372036854775807 := by have := fit.r1; omega
      have HW := hide hwin
      have HR0 := hide hrp0
      have HR1 := hide hrp1
      have HS0 := hide (HST.out (r))
      clear hwin fit HST hrp0 hrp1
      go_enter Try.func18, Try.ntmps18
      go_wp2_with fail
      go_loopw [6] (fun i wr => ∃ (j : Nat) (A2 : Option Addr) (cap2 : Nat) (l' : List T), j ≤ l.length ∧ i = .int .i64 j ∧ WiInv w last k n s r (r) A cap l j A2 cap2 l' wr) (fun i _ => l.length - (intOf i).toNat)
      case atStart => exact ⟨0, none, 0, [], Nat.zero_le _, rfl, HS0.out⟩
      case round =>
        obtain ⟨j, A2, cap2, l', hj, rfl, inv⟩ := hrel
        have big := inv.big
        have hol := inv.own.lt
        obtain ⟨d0, d1, d2, d3, d4, df⟩ := inv.b0.cells5
        have q0 := inv.b0.lt
        by_cases hlt : j < l.length
        · obtain ⟨b, o, k1, n1, s1, A1, cap1, l1, r1, rfl, hb0, hb1, hx, hin, e0, e1, e2, e3, e4⟩ := T.elem (HT.out.no inv.fr hh) hlt
          have hIH := HIH.out l[j] (List.getElem_mem hlt)
          have hpush := fun t9 g cp w3 (d : WD (wiC w last A2 j cap2 l.length cap b o l' l[j]) wr t9 g cp w3) => wi_push inv hlt d
          rw [hx] at hIH hpush
          have hcell : ∀ wx, Fr (fun i => i = w.heap.size + 1 + 1 ∨ some i = (Value.slice A2 j cap2).ownBlock) wr wx → (T.mk k1 n1 s1 A1 cap1 l1 r1).In wx lo hi ∧ wx.cell? ⟨b, o + j * 5, none⟩ = some (.int .u8 k1) ∧ wx.cell? ⟨b, o + j * 5 + 1, none⟩ = some (.int .i64 n1) ∧ wx.cell? ⟨b, o + j * 5 + 2, none⟩ = some (.string s1) ∧ wx.cell? ⟨b, o + j * 5 + 3, none⟩ = some (.slice A1 l1.length cap1) ∧ wx.cell? ⟨b, o + j * 5 + 4, none⟩ = some (.int .i64 r1) ∧ wx.cell? ⟨w.heap.size, 3, none⟩ = some (.slice (some ⟨b, o, none⟩) l.length cap) ∧ hi ≤ wx.heap.size := fun wx f => by
            have hbs : ¬ (b = w.heap.size + 1 + 1 ∨ some b = (Value.slice A2 j cap2).ownBlock) := fun h => by
              rcases h with h | h
              · omega
              · have := hol _ h.symm; omega
            have c := fun q => f.cell (b := b) (o := q) (s := none) (by omega) hbs
            exact ⟨hin.fr f (by omega) (fun i _ hi' h => by
              rcases h with h | h
              · omega
              · have := hol _ h.symm; omega), (c _).trans e0, (c _).trans e1, (c _).trans e2, (c _).trans e3, (c _).trans e4, (f.cell q0 (fun h => by
              rcases h with h | h
              · omega
              · have := hol _ h.symm; omega)).trans d3, by have := f.size; omega⟩
          have hbox : ∀ wx, Fr (fun i => some i = (Value.slice A2 j cap2).ownBlock) wr wx → Blk wx (w.heap.size + 1 + 1) 37 #[.int .u8 k, .int .i64 n, .string s, .slice A2 j cap2, .int .i64 (r)] := fun wx f => inv.b2.fr f fun h => by have := hol _ h.symm; omega
          have HIHX := hide hIH
          have HPU := hide hpush
          have HCE := hide hcell
          have HBX := hide hbox
          have HINV := hide inv
          clear hIH hpush hcell hbox inv hx hin e0 e1 e2 e3 e4 hb0 hb1 hol HIH
          go_wp2_with fail
          refine wp_region_inv (I := fun a0 f a wx => ∃ y0 y1 y2 y3 y4 y5 y6 y7 y8 y9 y10 y11 t9 g0 g cp, a = ((((((((((((a0.put (some 31) y0).put (some 32) y1).put (some 33) y2).put (some 34) y3).put (some 35) y4).put (some 36) y5).put (some 37) y6).put (some 38) y7).put (some 39) y8).put (some 40) y9).put (some 41) y10).put (some 42) y11) ∧ WR (wiC w last A2 j cap2 l.length cap b o l' (T.mk k1 n1 s1 A1 cap1 l1 r1)) wr f [y0, y1, y2, y3, y4, y5, y6, y7, y8, y9, y10, y11] t9 g0 g cp wx) (by kernel_rfl) (by kernel_rfl) ?st ?step ?en
          case st => exact ⟨_, _, _, _, _, _, _, _, _, _, _, _, T.mk k1 n1 s1 A1 cap1 l1 r1, 0, 0, 0, by simp only [Act.put, List.setIfInBounds_toArray, List.set_cons_zero, List.set_cons_succ] <;> rfl, WR.begin _ wr _ _⟩
          case step =>
            rintro i oo f a wx ho hf hd ⟨y0, y1, y2, y3, y4, y5, y6, y7, y8, y9, y10, y11, t9, g0, g, cp, rfl, J⟩ K' hK
            have hidx := (Array.getElem?_eq_some_iff.1 ho).1
            simp only [List.size_toArray, List.length_cons, List.length_nil] at hidx
            have hid : i = 0 ∨ i = 1 ∨ i = 2 ∨ i = 3 ∨ i = 4 ∨ i = 5 ∨ i = 6 ∨ i = 7 ∨ i = 8 ∨ i = 9 ∨ i = 10 ∨ i = 11 ∨ i = 12 := by omega
            simp only [Act.put, List.setIfInBounds_toArray, List.set_cons_zero, List.set_cons_succ]
            rcases hid with rfl | rfl | rfl | rfl | rfl | rfl | rfl | rfl | rfl | rfl | rfl | rfl | rfl
            · simp only [List.getElem?_toArray, List.getElem?_cons_zero, Option.some.injEq] at ho; subst ho
              obtain ⟨hinx, c0, c1, c2, c3, c4, c5, hsx⟩ := HCE.out wx J.fr
              have hwx := J.fr.size
              have HJ := hide J
              have HFI := hide hf
              clear J hd hf hinx hsx
              go_simp
              exact hK.out _ _ ⟨_, _, _, _, _, _, _, _, _, _, _, _, _, _, _, _, by simp only [Act.put, List.setIfInBounds_toArray, List.set_cons_zero, List.set_cons_succ] <;> rfl, HJ.out.quiet (i := 0) (by decide) (by simp)⟩
            · simp only [List.getElem?_toArray, List.getElem?_cons_succ, List.getElem?_cons_zero, Option.some.injEq] at ho; subst ho
              have b0 := hd ⟨0, .data⟩ (by simp) (by rfl)
              obtain rfl : y0 = .pointer (some ⟨w.heap.size + 1 + 1, 3, none⟩) := J.x 0 b0 (by omega)
              obtain ⟨hinx, c0, c1, c2, c3, c4, c5, hsx⟩ := HCE.out wx J.fr
              have hwx := J.fr.size
              have hB := HBX.out wx (J.far (J.n1 hf))
              have x3 := hB.cell 3
              simp only [List.getElem?_toArray, List.getElem?_cons_zero, List.getElem?_cons_succ] at x3
              have xq := hB.lt
              have HJ := hide J
              have B0 := hide b0
              have HFI := hide hf
              clear J hd hf b0 hinx hsx hB
              go_simp
              exact hK.out _ _ ⟨_, _, _, _, _, _, _, _, _, _, _, _, _, _, _, _, by simp only [Act.put, List.setIfInBounds_toArray, List.set_cons_zero, List.set_cons_succ] <;> rfl, HJ.out.quiet (i := 1) (by decide) (by simp)⟩
            · simp only [List.getElem?_toArray, List.getElem?_cons_succ, List.getElem?_cons_zero, Option.some.injEq] at ho; subst ho
              obtain ⟨hinx, c0, c1, c2, c3, c4, c5, hsx⟩ := HCE.out wx J.fr
              have hwx := J.fr.size
              have HJ := hide J
              have HFI := hide hf
              clear J hd hf hinx hsx
              go_simp
              exact hK.out _ _ ⟨_, _, _, _, _, _, _, _, _, _, _, _, _, _, _, _, by simp only [Act.put, List.setIfInBounds_toArray, List.set_cons_zero, List.set_cons_succ] <;> rfl, HJ.out.quiet (i := 2) (by decide) (by simp)⟩
            · simp only [List.getElem?_toArray, List.getElem?_cons_succ, List.getElem?_cons_zero, Option.some.injEq] at ho; subst ho
              have b2 := hd ⟨2, .data⟩ (by simp) (by rfl)
              obtain rfl : y2 = .pointer (some ⟨w.heap.size, 3, none⟩) := J.x 2 b2 (by omega)
              obtain ⟨hinx, c0, c1, c2, c3, c4, c5, hsx⟩ := HCE.out wx J.fr
              have hwx := J.fr.size
              have HJ := hide J
              have B2 := hide b2
              have HFI := hide hf
              clear J hd hf b2 hinx hsx
              go_simp
              exact hK.out _ _ ⟨_, _, _, _, _, _, _, _, _, _, _, _, _, _, _, _, by simp only [Act.put, List.setIfInBounds_toArray, List.set_cons_zero, List.set_cons_succ] <;> rfl, HJ.out.quiet (i := 3) (by decide) (by simp)⟩
            · simp only [List.getElem?_toArray, List.getElem?_cons_succ, List.getElem?_cons_zero, Option.some.injEq] at ho; subst ho
              obtain ⟨hinx, c0, c1, c2, c3, c4, c5, hsx⟩ := HCE.out wx J.fr
              have hwx := J.fr.size
              have HJ := hide J
              have HFI := hide hf
              clear J hd hf hinx hsx
              go_simp
              exact hK.out _ _ ⟨_, _, _, _, _, _, _, _, _, _, _, _, _, _, _, _, by simp only [Act.put, List.setIfInBounds_toArray, List.set_cons_zero, List.set_cons_succ] <;> rfl, HJ.out.quiet (i := 4) (by decide) (by simp)⟩
            · simp only [List.getElem?_toArray, List.getElem?_cons_succ, List.getElem?_cons_zero, Option.some.injEq] at ho; subst ho
              have b3 := hd ⟨3, .data⟩ (by simp) (by rfl)
              obtain rfl : y3 = .slice (some ⟨b, o, none⟩) l.length cap := J.x 3 b3 (by omega)
              have b4 := hd ⟨4, .data⟩ (by simp) (by rfl)
              obtain rfl : y4 = .int .i64 (j : Int) := J.x 4 b4 (by omega)
              obtain ⟨hinx, c0, c1, c2, c3, c4, c5, hsx⟩ := HCE.out wx J.fr
              have hwx := J.fr.size
              have HJ := hide J
              have B3 := hide b3
              have B4 := hide b4
              have HFI := hide hf
              clear J hd hf b3 b4 hinx hsx
              go_simp
              exact hK.out _ _ ⟨_, _, _, _, _, _, _, _, _, _, _, _, _, _, _, _, by simp only [Act.put, List.setIfInBounds_toArray, List.set_cons_zero, List.set_cons_succ] <;> rfl, HJ.out.quiet (i := 5) (by decide) (by simp)⟩
            · simp only [List.getElem?_toArray, List.getElem?_cons_succ, List.getElem?_cons_zero, Option.some.injEq] at ho; subst ho
              have b5 := hd ⟨5, .data⟩ (by simp) (by rfl)
              obtain rfl : y5 = .pointer (some ⟨b, o + j * 5, none⟩) := J.x 5 b5 (by omega)
              obtain ⟨hinx, c0, c1, c2, c3, c4, c5, hsx⟩ := HCE.out wx J.fr
              have hwx := J.fr.size
              have HJ := hide J
              have B5 := hide b5
              have HFI := hide hf
              clear J hd hf b5 hinx hsx
              go_simp
              exact hK.out _ _ ⟨_, _, _, _, _, _, _, _, _, _, _, _, _, _, _, _, by simp only [Act.put, List.setIfInBounds_toArray, List.set_cons_zero, List.set_cons_succ] <;> rfl, HJ.out.quiet (i := 6) (by decide) (by simp)⟩
            · simp only [List.getElem?_toArray, List.getElem?_cons_succ, List.getElem?_cons_zero, Option.some.injEq] at ho; subst ho
              obtain ⟨hinx, c0, c1, c2, c3, c4, c5, hsx⟩ := HCE.out wx J.fr
              have hwx := J.fr.size
              have HJ := hide J
              have HFI := hide hf
              clear J hd hf hinx hsx
              go_simp
              exact hK.out _ _ ⟨_, _, _, _, _, _, _, _, _, _, _, _, _, _, _, _, by simp only [Act.put, List.setIfInBounds_toArray, List.set_cons_zero, List.set_cons_succ] <;> rfl, HJ.out.quiet (i := 7) (by decide) (by simp)⟩
            · simp only [List.getElem?_toArray, List.getElem?_cons_succ, List.getElem?_cons_zero, Option.some.injEq] at ho; subst ho
              have b6 := hd ⟨6, .data⟩ (by simp) (by rfl)
              obtain rfl : y6 = .agg #[.int .u8 k1, .int .i64 n1, .string s1, .slice A1 l1.length cap1, .int .i64 r1] := J.x 6 b6 (by omega)
              have b7 := hd ⟨7, .data⟩ (by simp) (by rfl)
              obtain rfl : y7 = .int .i64 last := J.x 7 b7 (by omega)
              obtain ⟨hinx, c0, c1, c2, c3, c4, c5, hsx⟩ := HCE.out wx J.fr
              have hwx := J.fr.size
              have hcall := HIHX.out wx lo hi hinx hsx
              rw [T.val_mk] at hcall
              have HC := hide hcall
              have HJ := hide J
              have B6 := hide b6
              have B7 := hide b7
              have HFI := hide hf
              clear J hd hf b6 b7 hcall hinx hsx
              go_simp
              refine HC.out.mono ?_
              rintro e w' ⟨t2, rfl, hv, hsh, f2⟩
              have HV := hide hv
              have HSH := hide hsh
              have HF2 := hide f2
              clear hv hsh f2
              try go_simp
              exact hK.out _ _ ⟨_, _, _, _, _, _, _, _, _, _, _, _, t2, _, _, _, by simp only [Act.put, List.setIfInBounds_toArray, List.set_cons_zero, List.set_cons_succ] <;> rfl, HJ.out.call HFI.out (by simp) HF2.out HV.out HSH.out⟩
            · simp only [List.getElem?_toArray, List.getElem?_cons_succ, List.getElem?_cons_zero, Option.some.injEq] at ho; subst ho
              have b8 := hd ⟨8, .data⟩ (by simp) (by rfl)
              obtain rfl : y8 = t9.val := J.x 8 b8 (by omega)
              obtain ⟨hinx, c0, c1, c2, c3, c4, c5, hsx⟩ := HCE.out wx J.fr
              have hwx := J.fr.size
              obtain ⟨k9, n9, s9, A9, cap9, l9, r9⟩ := t9
              rw [T.val_mk]
              have HJ := hide J
              have B8 := hide b8
              have HFI := hide hf
              clear J hd hf b8 hinx hsx
              go_simp
              exact hK.out _ _ ⟨_, _, _, _, _, _, _, _, _, _, _, _, (T.mk k9 n9 s9 A9 cap9 l9 r9), _, _, _, by simp only [Act.put, List.setIfInBounds_toArray, List.set_cons_zero, List.set_cons_succ] <;> rfl, HJ.out.build HFI.out B8.out (by simp)⟩
            · simp only [List.getElem?_toArray, List.getElem?_cons_succ, List.getElem?_cons_zero, Option.some.injEq] at ho; subst ho
              have b1 := hd ⟨1, .data⟩ (by simp) (by rfl)
              obtain rfl : y1 = .slice A2 j cap2 := J.x 1 b1 (by omega)
              have b9 := hd ⟨9, .data⟩ (by simp) (by rfl)
              obtain rfl : y9 = .slice (some ⟨g0, 0, none⟩) 1 1 := J.x 9 b9 (by omega)
              obtain ⟨hinx, c0, c1, c2, c3, c4, c5, hsx⟩ := HCE.out wx J.fr
              have hwx := J.fr.size
              have b8 := J.c9 b9
              obtain ⟨hblk, hg0, hgn⟩ := J.fc b9 hf
              have hownx := owns_fr HINV.out.own (J.fa hf) fun _ _ h => h
              have hrow : ∀ i, (Value.slice A2 j cap2).ownBlock = some i → i < wr.heap.size := fun i h => (HINV.out.own.lt i h).2
              obtain ⟨k9, n9, s9, A9, cap9, l9, r9⟩ := t9
              obtain ⟨g', cp', w5, hrun, hown5, hgrow, hat, hlt5⟩ := run_append_lies (P := Try.prog) wx 35 35 (w.heap.size + 3) 37 i0 _ 5 64 Try.underlying35 hi0 hz0 hz1 hz2 rfl (by omega) (.slice A2 j cap2) j (rowCells l') hownx ⟨g0, 0, none⟩ 1 1 [.int .u8 k9, .int .i64 n9, .string s9, .slice A9 l9.length cap9, .int .i64 r9] rfl (World.news_of_block hblk) (by simp [Value.oneCell']) (by omega) (by unfold maxLen; omega) (by omega) (by omega) _ rfl
              have hJ := J.app hf b9 b1 (by simp) hrow hgrow hown5 hat
              have HJA := hide hJ
              have HRUN := hide hrun
              have HJ := hide J
              have B1 := hide b1
              have B9 := hide b9
              have HFI := hide hf
              clear J hd hf b1 b9 hinx hsx b8 hblk hg0 hgn hownx hrow hown5 hgrow hat hlt5 hJ
              first | (go_simp; done) | skip
              try (unfold Oper.wp; simp [execOp, resolve, invoke, builtin, hrun, Result.andThen, Act.eval])
              exact hK.out _ _ ⟨_, _, _, _, _, _, _, _, _, _, _, _, (T.mk k9 n9 s9 A9 cap9 l9 r9), _, _, _, by simp only [Act.put, List.setIfInBounds_toArray, List.set_cons_zero, List.set_cons_succ] <;> rfl, HJA.out⟩
            · simp only [List.getElem?_toArray, List.getElem?_cons_succ, List.getElem?_cons_zero, Option.some.injEq] at ho; subst ho
              obtain ⟨hinx, c0, c1, c2, c3, c4, c5, hsx⟩ := HCE.out wx J.fr
              have hwx := J.fr.size
              have HJ := hide J
              have HFI := hide hf
              clear J hd hf hinx hsx
              go_simp
              exact hK.out _ _ ⟨_, _, _, _, _, _, _, _, _, _, _, _, _, _, _, _, by simp only [Act.put, List.setIfInBounds_toArray, List.set_cons_zero, List.set_cons_succ] <;> rfl, HJ.out.quiet (i := 11) (by decide) (by simp)⟩
            · simp only [List.getElem?_toArray, List.getElem?_cons_succ, List.getElem?_cons_zero, Option.some.injEq] at ho; subst ho
              have b11 := hd ⟨11, .data⟩ (by simp) (by rfl)
              obtain rfl : y11 = .pointer (some ⟨w.heap.size + 1 + 1, 3, none⟩) := J.x 11 b11 (by omega)
              have b10 := hd ⟨10, .data⟩ (by simp) (by rfl)
              obtain rfl : y10 = .slice (some ⟨g, 0, none⟩) (j + 1) cp := J.x 10 b10 (by omega)
              obtain ⟨hinx, c0, c1, c2, c3, c4, c5, hsx⟩ := HCE.out wx J.fr
              have hwx := J.fr.size
              have hB := HBX.out wx (J.far hf)
              have x3 := hB.cell 3
              simp only [List.getElem?_toArray, List.getElem?_cons_zero, List.getElem?_cons_succ] at x3
              have xq := hB.lt
              have xf := hB.frozen 3
              have HJ := hide J
              have B11 := hide b11
              have B10 := hide b10
              have HFI := hide hf
              clear J hd hf b11 b10 hinx hsx hB
              go_simp
              exact hK.out _ _ ⟨_, _, _, _, _, _, _, _, _, _, _, _, _, _, _, _, by simp only [Act.put, List.setIfInBounds_toArray, List.set_cons_zero, List.set_cons_succ] <;> rfl, HJ.out.store HFI.out B10.out⟩
          case en =>
            rintro f a wx hall ⟨y0, y1, y2, y3, y4, y5, y6, y7, y8, y9, y10, y11, t9, g0, g, cp, rfl, J⟩
            simp only [Act.put, List.setIfInBounds_toArray, List.set_cons_zero, List.set_cons_succ]
            obtain ⟨w3, hd3, rfl⟩ := J.fe (hall 12 (by simp))
            have HN := hide (HPU.out t9 g cp w3 hd3)
            clear J hall
            go_wp2
            go_roundw
            case rel => exact ⟨j + 1, _, _, _, hlt, by go_num, HN.out⟩
            case measure => simp [intOf]; omega
        · obtain rfl : l.length = j := by omega
          obtain ⟨y0, y1, y2, y3, y4, yf⟩ := inv.b1.cells5
          obtain ⟨x0, x1, x2, x3, x4, xf⟩ := inv.b2.cells5
          have q1 := inv.b1.lt
          have q2 := inv.b2.lt
          have hil := inv.len
          have HI := hide inv
          clear inv HIH
          go_wp2_with fail
          refine bodyPost_ret (v := .agg #[.int .u8 k, .int .i64 n, .string s, .slice A2 l.length cap2, .int .i64 (r)]) (by simp [results, Try.results18, go_sem, *]) rfl ?_
          generalize hW : World.setCell _ _ _ = W
          have hfr : Fr (fun i => i = w.heap.size + 1) wr W := by
            rw [← hW]
            repeat (first | with_reducible exact Fr.refl _ wr | with_reducible refine Fr.set ?_ (by simp) _)
          refine within_end (T.v_mk _ _ _ _ _ _ _ ▸ HW.out) HFIT.out HR0.out HR1.out HI.out hfr
    · have e4 : decide (last < r) = false := by simpa using hlr
      have hwin : (V.mk 4 n s (l.map T.v) r).win last = .mk 4 n s ((l.map T.v).map (V.win last)) (r) := by
        rw [V.win_mk]
        congr 1
        simp [hlr]
      have hrp0 : -9223372036854775808 ≤ r := by have := fit.r0; omega
      have hrp1 : r ≤ 9223372036854775807 := by have := fit.r1; omega
      have HW := hide hwin
      have HR0 := hide hrp0
      have HR1 := hide hrp1
      have HS0 := hide (HST.out (r))
      clear hwin fit HST hrp0 hrp1
      go_enter Try.func18, Try.ntmps18
      go_wp2_with fail
      go_loopw [6] (fun i wr => ∃ (j : Nat) (A2 : Option Addr) (cap2 : Nat) (l' : List T), j ≤ l.length ∧ i = .int .i64 j ∧ WiInv w last 4 n s r (r) A cap l j A2 cap2 l' wr) (fun i _ => l.length - (intOf i).toNat)
      case atStart => exact ⟨0, none, 0, [], Nat.zero_le _, rfl, HS0.out⟩
      case round =>
        obtain ⟨j, A2, cap2, l', hj, rfl, inv⟩ := hrel
        have big := inv.big
        have hol := inv.own.lt
        obtain ⟨d0, d1, d2, d3, d4, df⟩ := inv.b0.cells5
        have q0 := inv.b0.lt
        by_cases hlt : j < l.length
        · obtain ⟨b, o, k1, n1, s1, A1, cap1, l1, r1, rfl, hb0, hb1, hx, hin, e0, e1, e2, e3, e4⟩ := T.elem (HT.out.no inv.fr hh) hlt
          have hIH := HIH.out l[j] (List.getElem_mem hlt)
          have hpush := fun t9 g cp w3 (d : WD (wiC w last A2 j cap2 l.length cap b o l' l[j]) wr t9 g cp w3) => wi_push inv hlt d
          rw [hx] at hIH hpush
          have hcell : ∀ wx, Fr (fun i => i = w.heap.size + 1 + 1 ∨ some i = (Value.slice A2 j cap2).ownBlock) wr wx → (T.mk k1 n1 s1 A1 cap1 l1 r1).In wx lo hi ∧ wx.cell? ⟨b, o + j * 5, none⟩ = some (.int .u8 k1) ∧ wx.cell? ⟨b, o + j * 5 + 1, none⟩ = some (.int .i64 n1) ∧ wx.cell? ⟨b, o + j * 5 + 2, none⟩ = some (.string s1) ∧ wx.cell? ⟨b, o + j * 5 + 3, none⟩ = some (.slice A1 l1.length cap1) ∧ wx.cell? ⟨b, o + j * 5 + 4, none⟩ = some (.int .i64 r1) ∧ wx.cell? ⟨w.heap.size, 3, none⟩ = some (.slice (some ⟨b, o, none⟩) l.length cap) ∧ hi ≤ wx.heap.size := fun wx f => by
            have hbs : ¬ (b = w.heap.size + 1 + 1 ∨ some b = (Value.slice A2 j cap2).ownBlock) := fun h => by
              rcases h with h | h
              · omega
              · have := hol _ h.symm; omega
            have c := fun q => f.cell (b := b) (o := q) (s := none) (by omega) hbs
            exact ⟨hin.fr f (by omega) (fun i _ hi' h => by
              rcases h with h | h
              · omega
              · have := hol _ h.symm; omega), (c _).trans e0, (c _).trans e1, (c _).trans e2, (c _).trans e3, (c _).trans e4, (f.cell q0 (fun h => by
              rcases h with h | h
              · omega
              · have := hol _ h.symm; omega)).trans d3, by have := f.size; omega⟩
          have hbox : ∀ wx, Fr (fun i => some i = (Value.slice A2 j cap2).ownBlock) wr wx → Blk wx (w.heap.size + 1 + 1) 37 #[.int .u8 4, .int .i64 n, .string s, .slice A2 j cap2, .int .i64 (r)] := fun wx f => inv.b2.fr f fun h => by have := hol _ h.symm; omega
          have HIHX := hide hIH
          have HPU := hide hpush
          have HCE := hide hcell
          have HBX := hide hbox
          have HINV := hide inv
          clear hIH hpush hcell hbox inv hx hin e0 e1 e2 e3 e4 hb0 hb1 hol HIH
          go_wp2_with fail
          refine wp_region_inv (I := fun a0 f a wx => ∃ y0 y1 y2 y3 y4 y5 y6 y7 y8 y9 y10 y11 t9 g0 g cp, a = ((((((((((((a0.put (some 31) y0).put (some 32) y1).put (some 33) y2).put (some 34) y3).put (some 35) y4).put (some 36) y5).put (some 37) y6).put (some 38) y7).put (some 39) y8).put (some 40) y9).put (some 41) y10).put (some 42) y11) ∧ WR (wiC w last A2 j cap2 l.length cap b o l' (T.mk k1 n1 s1 A1 cap1 l1 r1)) wr f [y0, y1, y2, y3, y4, y5, y6, y7, y8, y9, y10, y11] t9 g0 g cp wx) (by kernel_rfl) (by kernel_rfl) ?st ?step ?en
          case st => exact ⟨_, _, _, _, _, _, _, _, _, _, _, _, T.mk k1 n1 s1 A1 cap1 l1 r1, 0, 0, 0, by simp only [Act.put, List.setIfInBounds_toArray, List.set_cons_zero, List.set_cons_succ] <;> rfl, WR.begin _ wr _ _⟩
          case step =>
            rintro i oo f a wx ho hf hd ⟨y0, y1, y2, y3, y4, y5, y6, y7, y8, y9, y10, y11, t9, g0, g, cp, rfl, J⟩ K' hK
            have hidx := (Array.getElem?_eq_some_iff.1 ho).1
            simp only [List.size_toArray, List.length_cons, List.length_nil] at hidx
            have hid : i = 0 ∨ i = 1 ∨ i = 2 ∨ i = 3 ∨ i = 4 ∨ i = 5 ∨ i = 6 ∨ i = 7 ∨ i = 8 ∨ i = 9 ∨ i = 10 ∨ i = 11 ∨ i = 12 := by omega
            simp only [Act.put, List.setIfInBounds_toArray, List.set_cons_zero, List.set_cons_succ]
            rcases hid with rfl | rfl | rfl | rfl | rfl | rfl | rfl | rfl | rfl | rfl | rfl | rfl | rfl
            · simp only [List.getElem?_toArray, List.getElem?_cons_zero, Option.some.injEq] at ho; subst ho
              obtain ⟨hinx, c0, c1, c2, c3, c4, c5, hsx⟩ := HCE.out wx J.fr
              have hwx := J.fr.size
              have HJ := hide J
              have HFI := hide hf
              clear J hd hf hinx hsx
              go_simp
              exact hK.out _ _ ⟨_, _, _, _, _, _, _, _, _, _, _, _, _, _, _, _, by simp only [Act.put, List.setIfInBounds_toArray, List.set_cons_zero, List.set_cons_succ] <;> rfl, HJ.out.quiet (i := 0) (by decide) (by simp)⟩
            · simp only [List.getElem?_toArray, List.getElem?_cons_succ, List.getElem?_cons_zero, Option.some.injEq] at ho; subst ho
              have b0 := hd ⟨0, .data⟩ (by simp) (by rfl)
              obtain rfl : y0 = .pointer (some ⟨w.heap.size + 1 + 1, 3, none⟩) := J.x 0 b0 (by omega)
              obtain ⟨hinx, c0, c1, c2, c3, c4, c5, hsx⟩ := HCE.out wx J.fr
              have hwx := J.fr.size
              have hB := HBX.out wx (J.far (J.n1 hf))
              have x3 := hB.cell 3
              simp only [List.getElem?_toArray, List.getElem?_cons_zero, List.getElem?_cons_succ] at x3
              have xq := hB.lt
              have HJ := hide J
              have B0 := hide b0
              have HFI := hide hf
              clear J hd hf b0 hinx hsx hB
              go_simp
              exact hK.out _ _ ⟨_, _, _, _, _, _, _, _, _, _, _, _, _, _, _, _, by simp only [Act.put, List.setIfInBounds_toArray, List.set_cons_zero, List.set_cons_succ] <;> rfl, HJ.out.quiet (i := 1) (by decide) (by simp)⟩
            · simp only [List.getElem?_toArray, List.getElem?_cons_succ, List.getElem?_cons_zero, Option.some.injEq] at ho; subst ho
              obtain ⟨hinx, c0, c1, c2, c3, c4, c5, hsx⟩ := HCE.out wx J.fr
              have hwx := J.fr.size
              have HJ := hide J
              have HFI := hide hf
              clear J hd hf hinx hsx
              go_simp
              exact hK.out _ _ ⟨_, _, _, _, _, _, _, _, _, _, _, _, _, _, _, _, by simp only [Act.put, List.setIfInBounds_toArray, List.set_cons_zero, List.set_cons_succ] <;> rfl, HJ.out.quiet (i := 2) (by decide) (by simp)⟩
            · simp only [List.getElem?_toArray, List.getElem?_cons_succ, List.getElem?_cons_zero, Option.some.injEq] at ho; subst ho
              have b2 := hd ⟨2, .data⟩ (by simp) (by rfl)
              obtain rfl : y2 = .pointer (some ⟨w.heap.size, 3, none⟩) := J.x 2 b2 (by omega)
              obtain ⟨hinx, c0, c1, c2, c3, c4, c5, hsx⟩ := HCE.out wx J.fr
              have hwx := J.fr.size
              have HJ := hide J
              have B2 := hide b2
              have HFI := hide hf
              clear J hd hf b2 hinx hsx
              go_simp
              exact hK.out _ _ ⟨_, _, _, _, _, _, _, _, _, _, _, _, _, _, _, _, by simp only [Act.put, List.setIfInBounds_toArray, List.set_cons_zero, List.set_cons_succ] <;> rfl, HJ.out.quiet (i := 3) (by decide) (by simp)⟩
            · simp only [List.getElem?_toArray, List.getElem?_cons_succ, List.getElem?_cons_zero, Option.some.injEq] at ho; subst ho
              obtain ⟨hinx, c0, c1, c2, c3, c4, c5, hsx⟩ := HCE.out wx J.fr
              have hwx := J.fr.size
              have HJ := hide J
              have HFI := hide hf
              clear J hd hf hinx hsx
              go_simp
              exact hK.out _ _ ⟨_, _, _, _, _, _, _, _, _, _, _, _, _, _, _, _, by simp only [Act.put, List.setIfInBounds_toArray, List.set_cons_zero, List.set_cons_succ] <;> rfl, HJ.out.quiet (i := 4) (by decide) (by simp)⟩
            · simp only [List.getElem?_toArray, List.getElem?_cons_succ, List.getElem?_cons_zero, Option.some.injEq] at ho; subst ho
              have b3 := hd ⟨3, .data⟩ (by simp) (by rfl)
              obtain rfl : y3 = .slice (some ⟨b, o, none⟩) l.length cap := J.x 3 b3 (by omega)
              have b4 := hd ⟨4, .data⟩ (by simp) (by rfl)
              obtain rfl : y4 = .int .i64 (j : Int) := J.x 4 b4 (by omega)
              obtain ⟨hinx, c0, c1, c2, c3, c4, c5, hsx⟩ := HCE.out wx J.fr
              have hwx := J.fr.size
              have HJ := hide J
              have B3 := hide b3
              have B4 := hide b4
              have HFI := hide hf
              clear J hd hf b3 b4 hinx hsx
              go_simp
              exact hK.out _ _ ⟨_, _, _, _, _, _, _, _, _, _, _, _, _, _, _, _, by simp only [Act.put, List.setIfInBounds_toArray, List.set_cons_zero, List.set_cons_succ] <;> rfl, HJ.out.quiet (i := 5) (by decide) (by simp)⟩
            · simp only [List.getElem?_toArray, List.getElem?_cons_succ, List.getElem?_cons_zero, Option.some.injEq] at ho; subst ho
              have b5 := hd ⟨5, .data⟩ (by simp) (by rfl)
              obtain rfl : y5 = .pointer (some ⟨b, o + j * 5, none⟩) := J.x 5 b5 (by omega)
              obtain ⟨hinx, c0, c1, c2, c3, c4, c5, hsx⟩ := HCE.out wx J.fr
              have hwx := J.fr.size
              have HJ := hide J
              have B5 := hide b5
              have HFI := hide hf
              clear J hd hf b5 hinx hsx
              go_simp
              exact hK.out _ _ ⟨_, _, _, _, _, _, _, _, _, _, _, _, _, _, _, _, by simp only [Act.put, List.setIfInBounds_toArray, List.set_cons_zero, List.set_cons_succ] <;> rfl, HJ.out.quiet (i := 6) (by decide) (by simp)⟩
            · simp only [List.getElem?_toArray, List.getElem?_cons_succ, List.getElem?_cons_zero, Option.some.injEq] at ho; subst ho
              obtain ⟨hinx, c0, c1, c2, c3, c4, c5, hsx⟩ := HCE.out wx J.fr
              have hwx := J.fr.size
              have HJ := hide J
              have HFI := hide hf
              clear J hd hf hinx hsx
              go_simp
              exact hK.out _ _ ⟨_, _, _, _, _, _, _, _, _, _, _, _, _, _, _, _, by simp only [Act.put, List.setIfInBounds_toArray, List.set_cons_zero, List.set_cons_succ] <;> rfl, HJ.out.quiet (i := 7) (by decide) (by simp)⟩
            · simp only [List.getElem?_toArray, List.getElem?_cons_succ, List.getElem?_cons_zero, Option.some.injEq] at ho; subst ho
              have b6 := hd ⟨6, .data⟩ (by simp) (by rfl)
              obtain rfl : y6 = .agg #[.int .u8 k1, .int .i64 n1, .string s1, .slice A1 l1.length cap1, .int .i64 r1] := J.x 6 b6 (by omega)
              have b7 := hd ⟨7, .data⟩ (by simp) (by rfl)
              obtain rfl : y7 = .int .i64 last := J.x 7 b7 (by omega)
              obtain ⟨hinx, c0, c1, c2, c3, c4, c5, hsx⟩ := HCE.out wx J.fr
              have hwx := J.fr.size
              have hcall := HIHX.out wx lo hi hinx hsx
              rw [T.val_mk] at hcall
              have HC := hide hcall
              have HJ := hide J
              have B6 := hide b6
              have B7 := hide b7
              have HFI := hide hf
              clear J hd hf b6 b7 hcall hinx hsx
              go_simp
              refine HC.out.mono ?_
              rintro e w' ⟨t2, rfl, hv, hsh, f2⟩
              have HV := hide hv
              have HSH := hide hsh
              have HF2 := hide f2
              clear hv hsh f2
              try go_simp
              exact hK.out _ _ ⟨_, _, _, _, _, _, _, _, _, _, _, _, t2, _, _, _, by simp only [Act.put, List.setIfInBounds_toArray, List.set_cons_zero, List.set_cons_succ] <;> rfl, HJ.out.call HFI.out (by simp) HF2.out HV.out HSH.out⟩
            · simp only [List.getElem?_toArray, List.getElem?_cons_succ, List.getElem?_cons_zero, Option.some.injEq] at ho; subst ho
              have b8 := hd ⟨8, .data⟩ (by simp) (by rfl)
              obtain rfl : y8 = t9.val := J.x 8 b8 (by omega)
              obtain ⟨hinx, c0, c1, c2, c3, c4, c5, hsx⟩ := HCE.out wx J.fr
              have hwx := J.fr.size
              obtain ⟨k9, n9, s9, A9, cap9, l9, r9⟩ := t9
              rw [T.val_mk]
              have HJ := hide J
              have B8 := hide b8
              have HFI := hide hf
              clear J hd hf b8 hinx hsx
              go_simp
              exact hK.out _ _ ⟨_, _, _, _, _, _, _, _, _, _, _, _, (T.mk k9 n9 s9 A9 cap9 l9 r9), _, _, _, by simp only [Act.put, List.setIfInBounds_toArray, List.set_cons_zero, List.set_cons_succ] <;> rfl, HJ.out.build HFI.out B8.out (by simp)⟩
            · simp only [List.getElem?_toArray, List.getElem?_cons_succ, List.getElem?_cons_zero, Option.some.injEq] at ho; subst ho
              have b1 := hd ⟨1, .data⟩ (by simp) (by rfl)
              obtain rfl : y1 = .slice A2 j cap2 := J.x 1 b1 (by omega)
              have b9 := hd ⟨9, .data⟩ (by simp) (by rfl)
              obtain rfl : y9 = .slice (some ⟨g0, 0, none⟩) 1 1 := J.x 9 b9 (by omega)
              obtain ⟨hinx, c0, c1, c2, c3, c4, c5, hsx⟩ := HCE.out wx J.fr
              have hwx := J.fr.size
              have b8 := J.c9 b9
              obtain ⟨hblk, hg0, hgn⟩ := J.fc b9 hf
              have hownx := owns_fr HINV.out.own (J.fa hf) fun _ _ h => h
              have hrow : ∀ i, (Value.slice A2 j cap2).ownBlock = some i → i < wr.heap.size := fun i h => (HINV.out.own.lt i h).2
              obtain ⟨k9, n9, s9, A9, cap9, l9, r9⟩ := t9
              obtain ⟨g', cp', w5, hrun, hown5, hgrow, hat, hlt5⟩ := run_append_lies (P := Try.prog) wx 35 35 (w.heap.size + 3) 37 i0 _ 5 64 Try.underlying35 hi0 hz0 hz1 hz2 rfl (by omega) (.slice A2 j cap2) j (rowCells l') hownx ⟨g0, 0, none⟩ 1 1 [.int .u8 k9, .int .i64 n9, .string s9, .slice A9 l9.length cap9, .int .i64 r9] rfl (World.news_of_block hblk) (by simp [Value.oneCell']) (by omega) (by unfold maxLen; omega) (by omega) (by omega) _ rfl
              have hJ := J.app hf b9 b1 (by simp) hrow hgrow hown5 hat
              have HJA := hide hJ
              have HRUN := hide hrun
              have HJ := hide J
              have B1 := hide b1
              have B9 := hide b9
              have HFI := hide hf
              clear J hd hf b1 b9 hinx hsx b8 hblk hg0 hgn hownx hrow hown5 hgrow hat hlt5 hJ
              first | (go_simp; done) | skip
              try (unfold Oper.wp; simp [execOp, resolve, invoke, builtin, hrun, Result.andThen, Act.eval])
              exact hK.out _ _ ⟨_, _, _, _, _, _, _, _, _, _, _, _, (T.mk k9 n9 s9 A9 cap9 l9 r9), _, _, _, by simp only [Act.put, List.setIfInBounds_toArray, List.set_cons_zero, List.set_cons_succ] <;> rfl, HJA.out⟩
            · simp only [List.getElem?_toArray, List.getElem?_cons_succ, List.getElem?_cons_zero, Option.some.injEq] at ho; subst ho
              obtain ⟨hinx, c0, c1, c2, c3, c4, c5, hsx⟩ := HCE.out wx J.fr
              have hwx := J.fr.size
              have HJ := hide J
              have HFI := hide hf
              clear J hd hf hinx hsx
              go_simp
              exact hK.out _ _ ⟨_, _, _, _, _, _, _, _, _, _, _, _, _, _, _, _, by simp only [Act.put, List.setIfInBounds_toArray, List.set_cons_zero, List.set_cons_succ] <;> rfl, HJ.out.quiet (i := 11) (by decide) (by simp)⟩
            · simp only [List.getElem?_toArray, List.getElem?_cons_succ, List.getElem?_cons_zero, Option.some.injEq] at ho; subst ho
              have b11 := hd ⟨11, .data⟩ (by simp) (by rfl)
              obtain rfl : y11 = .pointer (some ⟨w.heap.size + 1 + 1, 3, none⟩) := J.x 11 b11 (by omega)
              have b10 := hd ⟨10, .data⟩ (by simp) (by rfl)
              obtain rfl : y10 = .slice (some ⟨g, 0, none⟩) (j + 1) cp := J.x 10 b10 (by omega)
              obtain ⟨hinx, c0, c1, c2, c3, c4, c5, hsx⟩ := HCE.out wx J.fr
              have hwx := J.fr.size
              have hB := HBX.out wx (J.far hf)
              have x3 := hB.cell 3
              simp only [List.getElem?_toArray, List.getElem?_cons_zero, List.getElem?_cons_succ] at x3
              have xq := hB.lt
              have xf := hB.frozen 3
              have HJ := hide J
              have B11 := hide b11
              have B10 := hide b10
              have HFI := hide hf
              clear J hd hf b11 b10 hinx hsx hB
              go_simp
              exact hK.out _ _ ⟨_, _, _, _, _, _, _, _, _, _, _, _, _, _, _, _, by simp only [Act.put, List.setIfInBounds_toArray, List.set_cons_zero, List.set_cons_succ] <;> rfl, HJ.out.store HFI.out B10.out⟩
          case en =>
            rintro f a wx hall ⟨y0, y1, y2, y3, y4, y5, y6, y7, y8, y9, y10, y11, t9, g0, g, cp, rfl, J⟩
            simp only [Act.put, List.setIfInBounds_toArray, List.set_cons_zero, List.set_cons_succ]
            obtain ⟨w3, hd3, rfl⟩ := J.fe (hall 12 (by simp))
            have HN := hide (HPU.out t9 g cp w3 hd3)
            clear J hall
            go_wp2
            go_roundw
            case rel => exact ⟨j + 1, _, _, _, hlt, by go_num, HN.out⟩
            case measure => simp [intOf]; omega
        · obtain rfl : l.length = j := by omega
          obtain ⟨y0, y1, y2, y3, y4, yf⟩ := inv.b1.cells5
          obtain ⟨x0, x1, x2, x3, x4, xf⟩ := inv.b2.cells5
          have q1 := inv.b1.lt
          have q2 := inv.b2.lt
          have hil := inv.len
          have HI := hide inv
          clear inv HIH
          go_wp2_with fail
          refine bodyPost_ret (v := .agg #[.int .u8 4, .int .i64 n, .string s, .slice A2 l.length cap2, .int .i64 (r)]) (by simp [results, Try.results18, go_sem, *]) rfl ?_
          generalize hW : World.setCell _ _ _ = W
          have hfr : Fr (fun i => i = w.heap.size + 1) wr W := by
            rw [← hW]
            repeat (first | with_reducible exact Fr.refl _ wr | with_reducible refine Fr.set ?_ (by simp) _)
          refine within_end (T.v_mk _ _ _ _ _ _ _ ▸ HW.out) HFIT.out HR0.out HR1.out HI.out hfr

end Go.Proofs.Ytnddfiohofnbaaa
