/- Texts joined: Gh, Gh2, Gq6, Gq6b, Gq8, Gq9. -/
import Derived.Test.YtlejelbefmkakaaGreatJn2
import Derived.Test.YtlejelbefmkakaaGreatJn4
import Derived.Test.YtlejelbefmkakaaGreatJn9
import Derived.Deep.AppendLies
import Derived.Deep.Upon
import Derived.Deep.Cut
import Derived.Deep.CutRange
namespace Go.Proofs.YtlejelbefmkakaaGreat
open Go.RowKit
def refRow (L : List Int) : List Value := L.map fun r => Value.int .i64 r
theorem refRow_one (L : List Int) : ∀ u ∈ refRow L, u.oneCell' = true := by
 intro u hu
 obtain ⟨x, _, rfl⟩ := List.mem_map.1 hu
 rfl
set_option maxRecDepth 100000 in
theorem run_app_refs (w : World) (base base2 : Nat) (v v2 : Value) (L M : List Int) (hown : w.ownsRow base 22 1 v L.length (refRow L)) (h2 : w.ownsRow base2 22 1 v2 M.length (refRow M)) (hl : L.length + M.length ≤ 1000000000) (hb : base ≤ w.heap.size) (ty : TypeId) :
 ∃ v' w', (Builtin.append_ #[54, 54] ty #[v, v2]).run Tryz.prog w = .ok v' w' ∧ w'.ownsRow base 22 1 v' (L ++ M).length (refRow (L ++ M)) ∧ w.grownBy w' v.ownBlock := by
 obtain ⟨i0, hi0, hz0, hz1, hz2⟩ := info_parts ref_info
 obtain ⟨A, c, rfl⟩ := owns_form hown
 obtain ⟨A2, c2, rfl⟩ := owns_form h2
 have hle := owns_leK hown
 by_cases h0 : M = []
 · subst h0
   refine ⟨.slice A L.length c, w, ?_, by simpa using hown, World.grownBy.refl _ _⟩
   cases A2 with
   | none => exact run_append_nothing (P := Tryz.prog) w 54 54 ty 22 i0 Tryz.underlying54 hi0 A L.length c hle _ (Src.ofNil w Tryz.underlying54 c2)
   | some a => exact run_append_nothing (P := Tryz.prog) w 54 54 ty 22 i0 Tryz.underlying54 hi0 A L.length c hle _ (Src.ofSlice w Tryz.underlying54 a 0 c2 [] (by simp) (by simp) (by simp))
 · obtain ⟨g, c', hA, hg0, hg1⟩ := h2.form (List.length_pos_iff.2 h0)
   simp only [Value.slice.injEq, true_and] at hA
   obtain ⟨rfl, rfl⟩ := hA
   obtain ⟨g2, cap2, w', hrun, hown', hgr, hat, hlt⟩ := run_append_lies (P := Tryz.prog) w 54 ty base 22 i0 _ 1 8 Tryz.underlying54 hi0 hz0 hz1 hz2 rfl (by omega) (.slice A L.length c) L.length (refRow L) hown ⟨g, 0, none⟩ M.length c2 (refRow M) (by simp [refRow]) (fun j u hu => World.ownsRow.cells h2 (g := g) rfl j u hu) (refRow_one M) (List.length_pos_iff.2 h0) (by unfold maxLen; omega) (by omega) hb _ rfl
   refine ⟨_, w', hrun, ?_, hgr⟩
   rw [List.length_append]
   unfold refRow at hown' ⊢
   rw [List.map_append]
   exact hown'
set_option maxRecDepth 100000 in
theorem wpList_app_refs {ops : Array Oper} {rest : List Oper} {o : Oper} {a : Act} {Q : Exit → Act → World → Prop} (w : World) (hgd : o.guard = none) (s x : Operand)
 (ho : o.op = .call { callee := .builtin .append, args := #[s, x], argTypes := #[54, 54] }) (base base2 : Nat) (v v2 : Value) (L M : List Int) (hs : a.eval s = v) (hx : a.eval x = v2)
 (hown : w.ownsRow base 22 1 v L.length (refRow L)) (h2 : w.ownsRow base2 22 1 v2 M.length (refRow M)) (hl : L.length + M.length ≤ 1000000000) (hb : base ≤ w.heap.size)
 (hK : ∀ v' w', w'.ownsRow base 22 1 v' (L ++ M).length (refRow (L ++ M)) → w.grownBy w' v.ownBlock → wpList Tryz.prog ops Q rest (a.put o.dst v') w') : wpList Tryz.prog ops Q (o :: rest) a w := by
 refine wpList_plain hgd fun K hK' => ?_
 obtain ⟨v', w', hrun, h3, h4⟩ := run_app_refs w base base2 v v2 L M hown h2 hl hb o.type
 unfold Oper.wp
 simp [execOp, ho, resolve, invoke, builtin, hs, hx, hrun, Result.andThen]
 exact hK' _ _ (hK v' w' h3 h4)
theorem refs_len (v : V) : v.refs.length ≤ 512 := by
 unfold V.refs
 split
 · rename_i h
   have h1 := refsOf_length (v.walk [])
   have h2 : v.size ≤ 512 := by simp [V.may, V.fits] at h; omega
   have h3 := walk_length v []
   omega
 · simp
def refsL (l : List V) : List Int := l.flatMap V.refs
theorem refsL_len (l : List V) : (refsL l).length ≤ 512 * l.length := by
 induction l with
 | nil => simp [refsL]
 | cons x l ih =>
  have := refs_len x
  simp only [refsL, List.flatMap_cons, List.length_append, List.length_cons] at ih ⊢
  omega
theorem refsL_step {l : List T} {j : Nat} (hj : j < l.length) : refsL ((l.take (j + 1)).map T.v) = refsL ((l.take j).map T.v) ++ l[j].v.refs := by
 rw [List.take_succ_eq_append_getElem hj, List.map_append]
 unfold refsL
 rw [List.flatMap_append]
 simp
def heldV (v : V) (vs : List V) (ns : List V) : List Int := v.refs ++ refsL vs ++ refsL ns
theorem refsN_step {l : List Nm} {j : Nat} (hj : j < l.length) : refsL ((l.take (j + 1)).map fun y => y.2.v) = refsL ((l.take j).map fun y => y.2.v) ++ l[j].2.v.refs := by
 rw [List.take_succ_eq_append_getElem hj, List.map_append]
 unfold refsL
 rw [List.flatMap_append]
 simp
set_option maxRecDepth 100000 in
set_option maxHeartbeats 16000000 in
theorem held_any (x : Tg) (w : World) (lo hi : Nat) (hx : x.In w lo hi) (hh : hi ≤ w.heap.size) (hvs : x.vs.length ≤ 512) (hns : x.names.length ≤ 64) :
 Calls Tryz.prog 212 #[x.val] w (RefsP (heldV x.v.v (x.vs.map T.v) (x.names.map fun y => y.2.v)) w) := by
 obtain ⟨kind, home, ⟨k, n, s, A, cap, l, r⟩, VA, vc, vs, n1, lost, ofr, byr, set, full, CA, cc, code, NA, nc, names⟩ := x
 have hval : (Tg.val ⟨kind, home, T.mk k n s A cap l r, VA, vc, vs, n1, lost, ofr, byr, set, full, CA, cc, code, NA, nc, names⟩) = .agg #[.int .u8 kind, .int .i64 home, .int .u8 k, .int .i64 n, .string s, .slice A l.length cap, .int .i64 r, .slice VA vs.length vc, .int .i64 n1, .int .i64 lost, .int .i64 ofr, .int .i64 byr, .int .u8 set, .bool full, .slice CA code.length cc, .slice NA names.length nc] := rfl
 rw [hval]
 have hb := Blk.new w 138 #[.int .u8 kind, .int .i64 home, .int .u8 k, .int .i64 n, .string s, .slice A l.length cap, .int .i64 r, .slice VA vs.length vc, .int .i64 n1, .int .i64 lost, .int .i64 ofr, .int .i64 byr, .int .u8 set, .bool full, .slice CA code.length cc, .slice NA names.length nc]
 have hf := (Fr.refl No w).alloc (.cells #[.int .u8 kind, .int .i64 home, .int .u8 k, .int .i64 n, .string s, .slice A l.length cap, .int .i64 r, .slice VA vs.length vc, .int .i64 n1, .int .i64 lost, .int .i64 ofr, .int .i64 byr, .int .u8 set, .bool full, .slice CA code.length cc, .slice NA names.length nc] 138)
 have hsz : (w.alloc (.cells #[.int .u8 kind, .int .i64 home, .int .u8 k, .int .i64 n, .string s, .slice A l.length cap, .int .i64 r, .slice VA vs.length vc, .int .i64 n1, .int .i64 lost, .int .i64 ofr, .int .i64 byr, .int .u8 set, .bool full, .slice CA code.length cc, .slice NA names.length nc] 138)).heap.size = w.heap.size + 1 := by simp
 have HR := hide (fun (t : T) (ht : t.In w lo hi) W' (f : Fr No w W') => Refs_any t W' lo hi (ht.no f hh) (Nat.le_trans hh f.size))
 have HX := hide hx
 have HF := hide hf
 have HB := hide hb
 have HSZ := hide hsz
 have hl0 := refs_len (T.mk k n s A cap l r).v
 have HL0 := hide hl0
 obtain ⟨d0, d1, d2, d3, d4, d5, d6, d7, d8, d9, d10, d11, d12, d13, d14, d15⟩ := hb.cells16
 have dq := hb.lt
 have hvs' : vs.length ≤ 512 := hvs
 have hns' : names.length ≤ 64 := hns
 clear hx hval hb hf hsz hvs hns hl0
 go_enter Tryz.func212, Tryz.ntmps212
 go_wp2_with fail
 generalize World.alloc w _ = W0 at *
 have h0 := HR.out _ HX.out.v W0 HF.out
 rw [T.val_mk] at h0
 refine h0.mono ?_
 rintro e w1 ⟨v, rfl, ho, f1⟩
 have hb := HB.out.fr f1 fun h => h
 have HO := hide ho
 have HF1 := hide f1
 clear d0 d1 d2 d3 d4 d5 d6 d7 d8 d9 d10 d11 d12 d13 d14 d15 dq h0 ho f1
 obtain ⟨d0, d1, d2, d3, d4, d5, d6, d7, d8, d9, d10, d11, d12, d13, d14, d15⟩ := hb.cells16
 have dq := hb.lt
 clear hb
 go_wp2_with fail
 go_loopw [3, 14] (fun v i wr => ∃ j : Nat, j ≤ vs.length ∧ i = .int .i64 j ∧ wr.ownsRow W0.heap.size 22 1 v ((T.mk k n s A cap l r).v.refs ++ refsL ((vs.take j).map T.v)).length (refRow ((T.mk k n s A cap l r).v.refs ++ refsL ((vs.take j).map T.v))) ∧ Fr No W0 wr) (fun _ i _ => vs.length - (intOf i).toNat)
 case atStart => exact ⟨0, Nat.zero_le _, rfl, by simpa [refsL, refRow] using HO.out, HF1.out⟩
 case round =>
  obtain ⟨j, hj, rfl, ho, f⟩ := hrel
  have hbr := HB.out.fr f fun h => h
  clear d0 d1 d2 d3 d4 d5 d6 d7 d8 d9 d10 d11 d12 d13 d14 d15 dq
  obtain ⟨d0, d1, d2, d3, d4, d5, d6, d7, d8, d9, d10, d11, d12, d13, d14, d15⟩ := hbr.cells16
  have dq := hbr.lt
  clear hbr
  have HFR := hide f
  have HOR := hide ho
  by_cases hlt : j < vs.length
  · have hmem := List.getElem_mem hlt
    obtain ⟨-, hrow, hkid⟩ := T.in_mk.1 HX.out.vs
    obtain ⟨b, o, rfl, hb0, hb1, hce⟩ := hrow (fun h => by have h' : vs = [] := h; rw [h'] at hlt; simp at hlt)
    have hc5 : ∀ i u, (vs[j]).cells[i]? = some u → wr.cell? ⟨b, o + j * 5 + i, none⟩ = some u := fun i u hu => ((HF.out.trans f).cell (by omega) fun h => h).trans (hce j vs[j] (List.getElem?_eq_getElem hlt) i u hu)
    have hst := refsL_step hlt
    have hRj := fun W' f => HR.out vs[j] (hkid _ hmem) W' f
    have hlM := refs_len vs[j].v
    have hlL := refsL_len ((vs.take j).map T.v)
    have hll : ((vs.take j).map T.v).length ≤ 512 := by simp; omega
    have hL0 := HL0.out
    generalize vs[j] = tj at *
    obtain ⟨k3, n3, s3, A3, cap3, l3, r3⟩ := tj
    rw [T.val_mk] at hRj
    have x0 : wr.cell? ⟨b, o + j * 5, none⟩ = some (.int .u8 k3) := hc5 0 _ rfl
    have x1 : wr.cell? ⟨b, o + j * 5 + 1, none⟩ = some (.int .i64 n3) := hc5 1 _ rfl
    have x2 : wr.cell? ⟨b, o + j * 5 + 2, none⟩ = some (.string s3) := hc5 2 _ rfl
    have x3 : wr.cell? ⟨b, o + j * 5 + 3, none⟩ = some (.slice A3 l3.length cap3) := hc5 3 _ rfl
    have x4 : wr.cell? ⟨b, o + j * 5 + 4, none⟩ = some (.int .i64 r3) := hc5 4 _ rfl
    have hbl : b < wr.heap.size := by have := f.size; have := HF.out.size; omega
    have HRJ := hide hRj
    have HSTP := hide hst
    generalize hMM : (T.mk k3 n3 s3 A3 cap3 l3 r3).v.refs = M at *
    generalize hLL : refsL ((vs.take j).map T.v) = L1 at *
    generalize hL00 : (T.mk k n s A cap l r).v.refs = L0 at *
    clear hce hc5 hrow hkid hmem f ho hRj hst
    go_wp2_with fail
    have hfa := HFR.out.alloc (.cells #[.int .u8 k3, .int .i64 n3, .string s3, .slice A3 l3.length cap3, .int .i64 r3] 28)
    have HFA := hide hfa
    have hoa := owns_fr HOR.out ((Fr.refl No wr).alloc (.cells #[.int .u8 k3, .int .i64 n3, .string s3, .slice A3 l3.length cap3, .int .i64 r3] 28)) fun _ _ h => h
    have HOA := hide hoa
    clear hfa hoa
    generalize World.alloc wr _ = Wa at *
    refine (HRJ.out Wa (HF.out.trans HFA.out)).mono ?_
    rintro e w2 ⟨v2, rfl, ho2, f2⟩
    have ho3 := owns_fr HOA.out f2 fun _ _ h => h
    have hF2 := HFA.out.trans f2
    have hsw := hF2.size
    have HF2 := hide hF2
    have HO2 := hide ho2
    have HO3 := hide ho3
    clear ho2 f2 ho3 hF2
    go_wp2_with (at_builtin; refine wpList_app_refs _ (by rfl) _ _ (by rfl) W0.heap.size Wa.heap.size u3 v2 (L0 ++ L1) M (by rfl) (by rfl) HO3.out HO2.out (by rw [List.length_append]; omega) (by omega) ?_; intro v' w' hown' hgr; have HOW := hide hown'; have HGR := hide hgr; clear hown' hgr)
    go_roundw
    case rel =>
     refine ⟨j + 1, hlt, by go_num, ?_, HF2.out.grown HGR.out fun i hi hlt => by have := (owns_lt HO3.out i hi).1; omega⟩
     rw [HSTP.out, ← List.append_assoc]
     exact HOW.out
    case measure => simp [intOf]; omega
  · obtain rfl : vs.length = j := by omega
    have hov : wr.ownsRow W0.heap.size 22 1 u3 ((T.mk k n s A cap l r).v.refs ++ refsL (vs.map T.v)).length (refRow ((T.mk k n s A cap l r).v.refs ++ refsL (vs.map T.v))) := by
     have := HOR.out
     rwa [List.take_length] at this
    have HOV := hide hov
    have hlL := refsL_len (vs.map T.v)
    have hL0 := HL0.out
    have hll : (vs.map T.v).length ≤ 512 := by simpa using hvs'
    have HBND := hide (show ((T.mk k n s A cap l r).v.refs ++ refsL (vs.map T.v)).length ≤ 1000000 by rw [List.length_append]; omega)
    have HAS : heldV (T.mk k n s A cap l r).v (vs.map T.v) (names.map fun y => y.2.v) = ((T.mk k n s A cap l r).v.refs ++ refsL (vs.map T.v)) ++ refsL (names.map fun y => y.2.v) := rfl
    obtain ⟨L01, hL01⟩ : ∃ L01, (T.mk k n s A cap l r).v.refs ++ refsL (vs.map T.v) = L01 := ⟨_, rfl⟩
    rw [hL01] at HAS HOV HBND hov
    have HASS := hide HAS
    clear hov hlL hL0 hll HAS hL01 ho f HOR
    obtain ⟨wo, rfl⟩ : ∃ wo : World, wo = wr := ⟨_, rfl⟩
    have HFO := hide HFR.out
    clear HFR
    go_wp2_with fail
    go_loopw [3, 26] (fun v i wr => ∃ j : Nat, j ≤ names.length ∧ i = .int .i64 j ∧ wr.ownsRow W0.heap.size 22 1 v (L01 ++ refsL ((names.take j).map fun y => y.2.v)).length (refRow (L01 ++ refsL ((names.take j).map fun y => y.2.v))) ∧ Fr No W0 wr) (fun _ i _ => names.length - (intOf i).toNat)
    case atStart => exact ⟨0, Nat.zero_le _, rfl, by simpa [refsL, refRow] using HOV.out, HFO.out⟩
    case round =>
     clear hj hlt
     obtain ⟨j, hj, rfl, ho, f⟩ := hrel
     have hbr := HB.out.fr f fun h => h
     clear d0 d1 d2 d3 d4 d5 d6 d7 d8 d9 d10 d11 d12 d13 d14 d15 dq
     obtain ⟨d0, d1, d2, d3, d4, d5, d6, d7, d8, d9, d10, d11, d12, d13, d14, d15⟩ := hbr.cells16
     have dq := hbr.lt
     clear hbr
     have HFR := hide f
     have HOR := hide ho
     by_cases hlt : j < names.length
     · have hmem := List.getElem_mem hlt
       obtain ⟨b, o, rfl, hb0, hb1, hce⟩ := HX.out.names.at_ (fun h => by have h' : names = [] := h; rw [h'] at hlt; simp at hlt)
       have hc5 : ∀ i u, (nmCells names[j])[i]? = some u → wr.cell? ⟨b, o + j * 6 + i, none⟩ = some u := fun i u hu => ((HF.out.trans f).cell (by omega) fun h => h).trans (hce j names[j] (List.getElem?_eq_getElem hlt) i u hu)
       have hst := refsN_step hlt
       have hRj := fun W' f => HR.out names[j].2 (HX.out.names.inn _ hmem).2 W' f
       have hlM := refs_len names[j].2.v
       have hlL := refsL_len ((names.take j).map fun y => y.2.v)
       have hll : ((names.take j).map fun y => y.2.v).length ≤ 64 := by simp; omega
       have hL0 := HBND.out
       generalize names[j] = xj at *
       obtain ⟨nm, ⟨k3, n3, s3, A3, cap3, l3, r3⟩⟩ := xj
       rw [T.val_mk] at hRj
       have x0 : wr.cell? ⟨b, o + j * 6, none⟩ = some (.string nm) := hc5 0 _ rfl
       have x1 : wr.cell? ⟨b, o + j * 6 + 1, none⟩ = some (.int .u8 k3) := hc5 1 _ rfl
       have x2 : wr.cell? ⟨b, o + j * 6 + 2, none⟩ = some (.int .i64 n3) := hc5 2 _ rfl
       have x3 : wr.cell? ⟨b, o + j * 6 + 3, none⟩ = some (.string s3) := hc5 3 _ rfl
       have x4 : wr.cell? ⟨b, o + j * 6 + 4, none⟩ = some (.slice A3 l3.length cap3) := hc5 4 _ rfl
       have x5 : wr.cell? ⟨b, o + j * 6 + 5, none⟩ = some (.int .i64 r3) := hc5 5 _ rfl
       have hbl : b < wr.heap.size := by have := f.size; have := HF.out.size; omega
       have HRJ := hide hRj
       have HSTP := hide hst
       generalize hMM : (T.mk k3 n3 s3 A3 cap3 l3 r3).v.refs = M at *
       generalize hLL : refsL ((names.take j).map fun y => y.2.v) = L1 at *
       clear hce hc5 hmem f ho hRj hst
       go_wp2_with fail
       have hfa := HFR.out.alloc (.cells #[.string nm, .int .u8 k3, .int .i64 n3, .string s3, .slice A3 l3.length cap3, .int .i64 r3] 260)
       have HFA := hide hfa
       have hoa := owns_fr HOR.out ((Fr.refl No wr).alloc (.cells #[.string nm, .int .u8 k3, .int .i64 n3, .string s3, .slice A3 l3.length cap3, .int .i64 r3] 260)) fun _ _ h => h
       have HOA := hide hoa
       clear hfa hoa
       generalize World.alloc wr _ = Wa at *
       refine (HRJ.out Wa (HF.out.trans HFA.out)).mono ?_
       rintro e w2 ⟨v2, rfl, ho2, f2⟩
       have ho3 := owns_fr HOA.out f2 fun _ _ h => h
       have hF2 := HFA.out.trans f2
       have hsw := hF2.size
       have HF2 := hide hF2
       have HO2 := hide ho2
       have HO3 := hide ho3
       clear ho2 f2 ho3 hF2
       go_wp2_with (at_builtin; refine wpList_app_refs _ (by rfl) _ _ (by rfl) W0.heap.size Wa.heap.size u3 v2 (L01 ++ L1) M (by rfl) (by rfl) HO3.out HO2.out (by rw [List.length_append]; omega) (by omega) ?_; intro v' w' hown' hgr; have HOW := hide hown'; have HGR := hide hgr; clear hown' hgr)
       go_roundw
       case rel =>
        refine ⟨j + 1, hlt, by go_num, ?_, HF2.out.grown HGR.out fun i hi hlt => by have := (owns_lt HO3.out i hi).1; omega⟩
        rw [HSTP.out, ← List.append_assoc]
        exact HOW.out
       case measure => simp [intOf]; omega
     · obtain rfl : names.length = j := by omega
       have hov := HOR.out
       rw [List.take_length, ← HASS.out] at hov
       have HOF := hide hov
       clear hov ho f
       go_wp2
       go_ret
       exact ⟨u3, rfl, owns_mono HOF.out (by have := HF.out.size; omega), HF.out.trans HFR.out⟩
end Go.Proofs.YtlejelbefmkakaaGreat

namespace Go.Proofs.YtlejelbefmkakaaGreat
open Go.RowKit
section
variable {m : Gm} {lo : Nat} {W : World}
def Gm.are (m : Gm) (L : List Int) : Bool := L.all fun r => (m.get r).isSome
theorem gnames1_w (h : m.Ok lo W) {g : Nat} (hb : Blk W g 31 #[.pointer (some ⟨m.wb, 0, none⟩)]) (r : Int) : Calls Tryz.prog 213 #[.int .i64 r, .pointer (some ⟨g, 0, none⟩)] W fun e w' => e = .returned (.bool (!(m.get r).isSome)) ∧ w' = W := by
 have hI := gIs_w h r
 have c0 : W.cell? ⟨g, 0, none⟩ = some (.pointer (some ⟨m.wb, 0, none⟩)) := hb.cell 0
 have q0 := hb.lt
 clear h hb
 generalize (m.get r).isSome = q at *
 cases q
 all_goals
  go_enter Tryz.func213, Tryz.ntmps213
  go_wp2_with fail
  refine hI.mono ?_
  rintro e w2 ⟨rfl, rfl⟩
  go_wp2
  go_ret
  exact ⟨rfl, rfl⟩
set_option maxRecDepth 100000 in
set_option maxHeartbeats 4000000 in
theorem gindexR_w (h : m.Ok lo W) {g base : Nat} (hb : Blk W g 31 #[.pointer (some ⟨m.wb, 0, none⟩)]) (A : Option Addr) (cap : Nat) (L : List Int) (hr : W.ownsRow base 22 1 (.slice A L.length cap) L.length (L.map fun r => Value.int .i64 r)) (hlen : L.length ≤ 140737488351232) :
 Calls Tryz.prog 257 #[.slice A L.length cap, .func (.func 213) #[] #[.pointer (some ⟨g, 0, none⟩)]] W fun e w' => (∃ z : Int, e = .returned (.int .i64 z) ∧ ((0 ≤ z ∧ m.are L = false) ∨ (z = -1 ∧ m.are L = true))) ∧ w' = W := by
 have HB := hide (gnames1_w h hb)
 have HR := hide hr
 clear h hb hr
 go_enter Tryz.func257, Tryz.ntmps257
 go_wp2_with fail
 go_loopw [8] (fun i wr => ∃ j : Nat, j ≤ L.length ∧ i = .int .i64 j ∧ wr = W ∧ ∀ v ∈ L.take j, (m.get v).isSome = true) (fun i _ => L.length - (intOf i).toNat)
 case atStart => exact ⟨0, Nat.zero_le _, rfl, rfl, by simp⟩
 case round =>
  obtain ⟨j, hj, rfl, rfl, hall⟩ := hrel
  have HA := hide hall
  clear hall
  by_cases hlt : j < L.length
  · obtain ⟨b, rfl, hb1, e0⟩ := row_at HR.out hlt
    have hc := HB.out L[j]
    have htk : L.take (j + 1) = L.take j ++ [L[j]] := by rw [List.take_succ_eq_append_getElem hlt]
    have hmem : L[j] ∈ L := List.getElem_mem hlt
    generalize L[j] = u at *
    have HT := hide htk
    have HM := hide hmem
    clear htk hmem
    cases hm : (m.get u).isSome with
    | false =>
     rw [hm] at hc
     have HC := hide hc
     have hno : m.are L = false := by
      rw [Bool.eq_false_iff]
      intro h
      have := List.all_eq_true.1 h u HM.out
      rw [hm] at this
      cases this
     have HN := hide hno
     clear hc hno hm
     go_wp2_with fail
     refine HC.out.mono ?_
     rintro e w2 ⟨rfl, rfl⟩
     go_wp2
     go_ret
     exact ⟨⟨_, rfl, .inl ⟨by omega, HN.out⟩⟩, rfl⟩
    | true =>
     rw [hm] at hc
     have HC := hide hc
     have HMM := hide hm
     clear hc hm
     go_wp2_with fail
     refine HC.out.mono ?_
     rintro e w2 ⟨rfl, rfl⟩
     go_wp2
     go_roundw
     case rel =>
      refine ⟨j + 1, hlt, by go_num, trivial, fun v hv => ?_⟩
      rw [HT.out] at hv
      rcases List.mem_append.1 hv with hv | hv
      · exact HA.out v hv
      · simp at hv; subst hv; exact HMM.out
     case measure => simp [intOf]; omega
  · obtain rfl : L.length = j := by omega
    have hyes : m.are L = true := List.all_eq_true.2 fun v hv => HA.out v (by rw [List.take_of_length_le (Nat.le_refl _)]; exact hv)
    have HY := hide hyes
    clear hyes
    go_wp2
    go_ret
    exact ⟨⟨-1, rfl, .inr ⟨rfl, HY.out⟩⟩, rfl⟩
theorem gcontainsR_w (h : m.Ok lo W) {g base : Nat} (hb : Blk W g 31 #[.pointer (some ⟨m.wb, 0, none⟩)]) (A : Option Addr) (cap : Nat) (L : List Int) (hr : W.ownsRow base 22 1 (.slice A L.length cap) L.length (L.map fun r => Value.int .i64 r)) (hlen : L.length ≤ 140737488351232) :
 Calls Tryz.prog 211 #[.slice A L.length cap, .func (.func 213) #[] #[.pointer (some ⟨g, 0, none⟩)]] W fun e w' => e = .returned (.bool (!m.are L)) ∧ w' = W := by
 have hI := gindexR_w h hb A cap L hr hlen
 generalize m.are L = q at *
 clear h hb hr
 go_enter Tryz.func211, Tryz.ntmps211
 go_wp2_with fail
 refine hI.mono ?_
 rintro e w2 ⟨⟨z, rfl, hz⟩, rfl⟩
 rcases hz with ⟨h0, rfl⟩ | ⟨rfl, rfl⟩
 · have h1 : decide ((0 : Int) ≤ z) = true := by simpa using h0
   go_wp2
   go_ret
   exact ⟨rfl, rfl⟩
 · go_wp2
   go_ret
   exact ⟨rfl, rfl⟩
theorem heldV_len {v : V} {vs ns : List V} (h1 : vs.length ≤ 512) (h2 : ns.length ≤ 64) : (heldV v vs ns).length ≤ 1000000 := by
 unfold heldV
 rw [List.length_append, List.length_append]
 have := refs_len v
 have := refsL_len vs
 have := refsL_len ns
 omega
def Tg.held (x : Tg) : List Int := heldV x.v.v (x.vs.map T.v) (x.names.map fun y => y.2.v)
set_option maxRecDepth 100000 in
set_option maxHeartbeats 4000000 in
theorem gnames_w (h : m.Ok lo W) (x : Tg) (lo1 hi : Nat) (hx : x.In W lo1 hi) (hh : hi ≤ W.heap.size) (hvs : x.vs.length ≤ 512) (hns : x.names.length ≤ 64) :
 Calls Tryz.prog 155 #[.pointer (some ⟨m.wb, 0, none⟩), x.val] W fun e w' => e = .returned (.bool (m.are x.held)) ∧ Fr No W w' := by
 have hln : x.held.length ≤ 140737488351232 := Nat.le_trans (heldV_len (by simpa using hvs) (by simpa using hns)) (by omega)
 have hH := fun W' (f : Fr No W W') => held_any x W' lo1 hi (hx.no f hh) (Nat.le_trans hh f.size) hvs hns
 change ∀ W', Fr No W W' → Calls Tryz.prog 212 #[x.val] W' (RefsP x.held W') at hH
 generalize x.held = L at *
 obtain ⟨kind, home, ⟨k, n, s, A, cap, l, r⟩, VA, vc, vs, n1, lost, ofr, byr, set, full, CA, cc, code, NA, nc, names⟩ := x
 have hval : (Tg.val ⟨kind, home, T.mk k n s A cap l r, VA, vc, vs, n1, lost, ofr, byr, set, full, CA, cc, code, NA, nc, names⟩) = .agg #[.int .u8 kind, .int .i64 home, .int .u8 k, .int .i64 n, .string s, .slice A l.length cap, .int .i64 r, .slice VA vs.length vc, .int .i64 n1, .int .i64 lost, .int .i64 ofr, .int .i64 byr, .int .u8 set, .bool full, .slice CA code.length cc, .slice NA names.length nc] := rfl
 rw [hval] at hH ⊢
 have hb0 := (Blk.new W 31 #[.pointer (some ⟨m.wb, 0, none⟩)]).alloc (.cells #[.int .u8 kind, .int .i64 home, .int .u8 k, .int .i64 n, .string s, .slice A l.length cap, .int .i64 r, .slice VA vs.length vc, .int .i64 n1, .int .i64 lost, .int .i64 ofr, .int .i64 byr, .int .u8 set, .bool full, .slice CA code.length cc, .slice NA names.length nc] 138)
 have hb1 := Blk.new' (W.alloc (.cells #[.pointer (some ⟨m.wb, 0, none⟩)] 31)) 138 #[.int .u8 kind, .int .i64 home, .int .u8 k, .int .i64 n, .string s, .slice A l.length cap, .int .i64 r, .slice VA vs.length vc, .int .i64 n1, .int .i64 lost, .int .i64 ofr, .int .i64 byr, .int .u8 set, .bool full, .slice CA code.length cc, .slice NA names.length nc] (g := W.heap.size + 1) (by simp)
 have hf0 := ((Fr.refl No W).alloc (.cells #[.pointer (some ⟨m.wb, 0, none⟩)] 31)).alloc (.cells #[.int .u8 kind, .int .i64 home, .int .u8 k, .int .i64 n, .string s, .slice A l.length cap, .int .i64 r, .slice VA vs.length vc, .int .i64 n1, .int .i64 lost, .int .i64 ofr, .int .i64 byr, .int .u8 set, .bool full, .slice CA code.length cc, .slice NA names.length nc] 138)
 have HB0 := hide hb0
 have HF0 := hide hf0
 have HOK := hide h
 have HH := hide hH
 obtain ⟨q, hq⟩ : ∃ q, m.are L = q := ⟨_, rfl⟩
 rw [hq]
 have HQ := hide hq
 clear hq
 obtain ⟨d0, d1, d2, d3, d4, d5, d6, d7, d8, d9, d10, d11, d12, d13, d14, d15⟩ := hb1.cells16
 have dq := hb1.lt
 clear hx hh hb0 hb1 hf0 hH h hval
 go_enter Tryz.func155, Tryz.ntmps155
 go_wp2_with fail
 generalize World.alloc (World.alloc W _) _ = W0 at *
 refine (HH.out W0 HF0.out).mono ?_
 rintro e w1 ⟨v, rfl, hrow, f1⟩
 obtain ⟨A1, c1, rfl⟩ := owns_form hrow
 have hc := gcontainsR_w ((HOK.out.no HF0.out).no f1) (HB0.out.fr f1 fun h => h) A1 c1 L hrow hln
 rw [HQ.out] at hc
 have HC := hide hc
 have HF1 := hide (HF0.out.trans f1)
 clear d0 d1 d2 d3 d4 d5 d6 d7 d8 d9 d10 d11 d12 d13 d14 d15 dq hrow f1 hc HQ
 cases q
 all_goals
  go_wp2_with fail
  refine HC.out.mono ?_
  rintro e w2 ⟨rfl, rfl⟩
  go_wp2
  go_ret
  exact ⟨rfl, HF1.out⟩
end
end Go.Proofs.YtlejelbefmkakaaGreat

namespace Go.Proofs.YtlejelbefmkakaaGreat
open Go.RowKit
theorem nodup_le : ∀ {l k : List Int}, l.Nodup → (∀ x ∈ l, x ∈ k) → l.length ≤ k.length
 | [], _, _, _ => by simp
 | x :: l, k, hn, hs => by
  rw [List.nodup_cons] at hn
  have hx := hs x (by simp)
  have := nodup_le (k := k.erase x) hn.2 fun y hy => by
   have hne : y ≠ x := fun e => hn.1 (e ▸ hy)
   exact (List.mem_erase_of_ne hne).2 (hs y (by simp [hy]))
  rw [List.length_erase_of_mem hx] at this
  have := List.length_pos_of_mem hx
  simp only [List.length_cons]
  omega
section
variable {m : Gm} {r : Int} {n : Nat}
theorem Gm.Hgt.line (h : m.Hgt r n) : ∃ l : List Int, l.length = n + 1 ∧ l.Nodup ∧ ∀ x ∈ l, x ∈ m.th.map Prod.fst ∧ ∃ i, i ≤ n ∧ m.Hgt x i := by
 induction h with
 | @base r x h hk => exact ⟨[r], rfl, by simp, fun y hy => by
  simp only [List.mem_singleton] at hy
  subst hy
  exact ⟨List.mem_map.2 ⟨_, Gm.get_mem h, rfl⟩, 0, Nat.le_refl _, .base h hk⟩⟩
 | @wrap r x n h hk hl ih =>
  obtain ⟨l, h1, h2, h3⟩ := ih
  refine ⟨r :: l, by simp [h1], List.nodup_cons.2 ⟨fun hm => ?_, h2⟩, fun y hy => ?_⟩
  · obtain ⟨-, i, hi, hh⟩ := h3 r hm
    have := hh.uniq (.wrap h hk hl)
    omega
  · rcases List.mem_cons.1 hy with rfl | hy
    · exact ⟨List.mem_map.2 ⟨_, Gm.get_mem h, rfl⟩, n + 1, Nat.le_refl _, .wrap h hk hl⟩
    · obtain ⟨a, i, hi, hh⟩ := h3 y hy
      exact ⟨a, i, by omega, hh⟩
theorem Gm.Hgt.lt (h : m.Hgt r n) : n < m.th.length := by
 obtain ⟨l, h1, h2, h3⟩ := h.line
 have := nodup_le h2 fun x hx => (h3 x hx).1
 rw [List.length_map] at this
 omega
theorem Gm.Hgt.abl (h : m.Hgt r n) (hs : ∀ r x, m.get r = some x → 0 ≤ x.2.set) : ∃ a, m.Abl r a := by
 induction h with
 | base h hk => exact ⟨_, .base h hk⟩
 | @wrap r x n h hk hl ih =>
  obtain ⟨a, ha⟩ := ih
  rcases hk with hk | hk
  · have := hs _ _ h
    exact ⟨_, .facet (s := x.2.set.toNat) h hk (by omega) ha⟩
  · exact ⟨a, .pass h hk ha⟩
end
def wrapB (k : Int) : Bool := k == 14 || k == 15 || k == 16
def askOfB (k : Int) : Bool := k == 6 || k == 7 || k == 9 || k == 11 || wrapB k
def askByB (k : Int) : Bool := k == 15 || k == 16
theorem wrapB_iff {k : Int} : wrapB k = true ↔ k = 14 ∨ k = 15 ∨ k = 16 := by simp [wrapB, or_assoc]
theorem wraps_g (k : Int) (W : World) : Calls Tryz.prog 172 #[.int .u8 k] W fun e w' => e = .returned (.bool (wrapB k)) ∧ w' = W := by
 by_cases h1 : k = 14
 · subst h1
   go_enter Tryz.func172, Tryz.ntmps172
   go_wp2
   go_ret
   exact ⟨rfl, rfl⟩
 by_cases h2 : k = 15
 · subst h2
   go_enter Tryz.func172, Tryz.ntmps172
   go_wp2
   go_ret
   exact ⟨rfl, rfl⟩
 by_cases h3 : k = 16
 · subst h3
   go_enter Tryz.func172, Tryz.ntmps172
   go_wp2
   go_ret
   exact ⟨rfl, rfl⟩
 have e1 : (k == 14) = false := by simpa using h1
 have e2 : (k == 15) = false := by simpa using h2
 have e3 : (k == 16) = false := by simpa using h3
 rw [show wrapB k = false by simp [wrapB, h1, h2, h3]]
 clear h1 h2 h3
 go_enter Tryz.func172, Tryz.ntmps172
 go_wp2
 go_ret
 exact ⟨rfl, rfl⟩
theorem asksBy_g (k : Int) (W : World) : Calls Tryz.prog 157 #[.int .u8 k] W fun e w' => e = .returned (.bool (askByB k)) ∧ w' = W := by
 by_cases h2 : k = 15
 · subst h2
   go_enter Tryz.func157, Tryz.ntmps157
   go_wp2
   go_ret
   exact ⟨rfl, rfl⟩
 by_cases h3 : k = 16
 · subst h3
   go_enter Tryz.func157, Tryz.ntmps157
   go_wp2
   go_ret
   exact ⟨rfl, rfl⟩
 have e2 : (k == 15) = false := by simpa using h2
 have e3 : (k == 16) = false := by simpa using h3
 rw [show askByB k = false by simp [askByB, h2, h3]]
 clear h2 h3
 go_enter Tryz.func157, Tryz.ntmps157
 go_wp2
 go_ret
 exact ⟨rfl, rfl⟩
theorem asksOf_g (k : Int) (W : World) : Calls Tryz.prog 156 #[.int .u8 k] W fun e w' => e = .returned (.bool (askOfB k)) ∧ w' = W := by
 have HW := hide fun W' => wraps_g k W'
 by_cases h1 : k = 6
 · subst h1
   go_enter Tryz.func156, Tryz.ntmps156
   go_wp2
   go_ret
   exact ⟨rfl, rfl⟩
 by_cases h2 : k = 7
 · subst h2
   go_enter Tryz.func156, Tryz.ntmps156
   go_wp2
   go_ret
   exact ⟨rfl, rfl⟩
 by_cases h3 : k = 9
 · subst h3
   go_enter Tryz.func156, Tryz.ntmps156
   go_wp2
   go_ret
   exact ⟨rfl, rfl⟩
 by_cases h4 : k = 11
 · subst h4
   go_enter Tryz.func156, Tryz.ntmps156
   go_wp2
   go_ret
   exact ⟨rfl, rfl⟩
 have e1 : (k == 6) = false := by simpa using h1
 have e2 : (k == 7) = false := by simpa using h2
 have e3 : (k == 9) = false := by simpa using h3
 have e4 : (k == 11) = false := by simpa using h4
 rw [show askOfB k = wrapB k by simp [askOfB, h1, h2, h3, h4]]
 generalize wrapB k = q at *
 clear h1 h2 h3 h4
 go_enter Tryz.func156, Tryz.ntmps156
 go_wp2_with fail
 refine (HW.out W).mono ?_
 rintro e w' ⟨rfl, rfl⟩
 go_wp2
 go_ret
 exact ⟨rfl, rfl⟩
def Gm.badB (m : Gm) (x : Tg) : Bool :=
 !(m.are x.held) || (askOfB x.kind && !(m.get x.ofr).isSome) || (askByB x.kind && !(m.get x.byr).isSome) || ((x.kind == 13 && x.ofr != 0) && !(m.get x.ofr).isSome)
end Go.Proofs.YtlejelbefmkakaaGreat

namespace Go.Proofs.YtlejelbefmkakaaGreat
open Go.RowKit
def Gm.byIs (m : Gm) (o r : Int) : Bool := match m.get o with
 | some y => y.2.byr == r
 | none => false
def Gm.ofIs (m : Gm) (o r : Int) : Bool := match m.get o with
 | some y => y.2.ofr == r
 | none => false
def Gm.fitB (m : Gm) (r : Int) (x : Tg) (a : Nat) : Bool :=
 if x.kind = 6 then m.hkB x.ofr 5 x.home && !m.othB r 6 x.ofr else
 if x.kind = 7 then m.hkB x.ofr 5 x.home else
 if x.kind = 9 then m.hkB x.ofr 8 x.home else
 if x.kind = 11 then m.hkB x.ofr 10 x.home && !m.othB r 11 x.ofr else
 if x.kind = 13 then x.ofr == 0 || (m.kind x.ofr == 15 && m.byIs x.ofr r) else
 if x.kind = 14 then (m.get x.ofr).isSome && m.kind x.ofr != 14 && x.set != (a : Int) && bits .andNot .u8 x.set (a : Int) == 0 && (match m.fget x.ofr x.set with | some f => f == r | none => true) else
 if x.kind = 15 then m.hkB x.byr 13 x.home && (m.get x.ofr).isSome && m.ofIs x.byr r else
 if x.kind = 16 then m.hkB x.byr 3 x.home && (m.get x.ofr).isSome else true
def Gm.fitS (m : Gm) (r : Int) (x : Tg) (a : Nat) : Bool :=
 if x.kind = 14 then (m.get x.ofr).isSome && m.kind x.ofr != 14 && x.set != (a : Int) && bits .andNot .u8 x.set (a : Int) == 0 else m.fitB r x a
theorem fits_g {m : Gm} {lo : Nat} {W : World} (h : m.Ok lo W) (r : Int) (x : Tg) (a : Nat) (ha : x.kind = 14 → m.Abl x.ofr a) :
 Calls Tryz.prog 158 #[.pointer (some ⟨m.wb, 0, none⟩), .int .i64 r, x.val] W fun e w' => e = .returned (.bool (m.fitB r x a)) ∧ Fr No W w' := by
 obtain ⟨kind, home, ⟨k, n, s, A, cap, l, r0⟩, VA, vc, vs, n1, lost, ofr, byr, set, full, CA, cc, code, NA, nc, names⟩ := x
 have hval : (Tg.val ⟨kind, home, T.mk k n s A cap l r0, VA, vc, vs, n1, lost, ofr, byr, set, full, CA, cc, code, NA, nc, names⟩) = .agg (c16 kind home k n s A l.length cap r0 VA vs.length vc n1 lost ofr byr set full CA code.length cc NA names.length nc) := rfl
 rw [hval]
 unfold Gm.fitB
 simp only at ha ⊢
 by_cases h6 : kind = 6
 · subst h6; rw [if_pos rfl]; exact gfits6 h _ _ _ _ _ _ _ _ _ _ _ _ _ _ _ _ _ _ _ _ _ _ _ _
 rw [if_neg h6]
 by_cases h7 : kind = 7
 · subst h7; rw [if_pos rfl]; exact gfits7 h _ _ _ _ _ _ _ _ _ _ _ _ _ _ _ _ _ _ _ _ _ _ _ _
 rw [if_neg h7]
 by_cases h9 : kind = 9
 · subst h9; rw [if_pos rfl]; exact gfits9 h _ _ _ _ _ _ _ _ _ _ _ _ _ _ _ _ _ _ _ _ _ _ _ _
 rw [if_neg h9]
 by_cases h11 : kind = 11
 · subst h11; rw [if_pos rfl]; exact gfits11 h _ _ _ _ _ _ _ _ _ _ _ _ _ _ _ _ _ _ _ _ _ _ _ _
 rw [if_neg h11]
 by_cases h13 : kind = 13
 · subst h13; rw [if_pos rfl]; exact gfits13 h _ _ _ _ _ _ _ _ _ _ _ _ _ _ _ _ _ _ _ _ _ _ _ _
 rw [if_neg h13]
 by_cases h14 : kind = 14
 · subst h14; rw [if_pos rfl]; exact gfits14 h _ _ _ _ _ _ _ _ _ _ _ _ _ _ _ _ _ _ _ _ _ _ _ _ (ha rfl)
 rw [if_neg h14]
 by_cases h15 : kind = 15
 · subst h15; rw [if_pos rfl]; exact gfits15 h _ _ _ _ _ _ _ _ _ _ _ _ _ _ _ _ _ _ _ _ _ _ _ _
 rw [if_neg h15]
 by_cases h16 : kind = 16
 · subst h16; rw [if_pos rfl]; exact gfits16 h _ _ _ _ _ _ _ _ _ _ _ _ _ _ _ _ _ _ _ _ _ _ _ _
 rw [if_neg h16]
 exact gfits0 m.wb _ _ _ _ _ _ _ _ _ _ _ _ _ _ _ _ _ _ _ _ _ _ _ _ _ ⟨h6, h7, h9, h11, h13, h14, h15, h16⟩
noncomputable def Gm.abl (m : Gm) (r : Int) : Nat := Classical.epsilon (m.Abl r)
theorem Gm.abl_eq {m : Gm} {r : Int} {a : Nat} (h : m.Abl r a) : m.abl r = a := (Classical.epsilon_spec (⟨a, h⟩ : ∃ a, m.Abl r a)).uniq h
structure Gm.Snd (m : Gm) : Prop where
 bad : ∀ x ∈ m.th, m.badB x.2.2 = false
 hgt : ∀ x ∈ m.th, ∃ n, m.Hgt x.1 n
 one : ∀ x ∈ m.th, ∀ y ∈ m.th, x.2.2.kind = 14 → y.2.2.kind = 14 → x.2.2.ofr = y.2.2.ofr → x.2.2.set = y.2.2.set → x.1 = y.1
 fit : ∀ x ∈ m.th, m.fitS x.1 x.2.2 (m.abl x.2.2.ofr) = true
def Gm.wf (m : Gm) (F : List (Int × Int × Int)) : Gm := { m with fac := F }
section
variable {m : Gm} {F : List (Int × Int × Int)} {r : Int} {a n : Nat}
theorem Gm.wf_get : (m.wf F).get r = m.get r := rfl
theorem Gm.wf_ext : m.Ext (m.wf F) := ⟨rfl, rfl, fun _ _ h => h⟩
theorem Gm.Abl.wf (h : m.Abl r a) : (m.wf F).Abl r a := h.ext Gm.wf_ext
theorem Gm.wf_kind : (m.wf F).kind r = m.kind r := rfl
end
structure FacI (m : Gm) (sn : Nat → Prop) (F : List (Int × Int × Int)) : Prop where
 mem : ∀ o s r, (o, s, r) ∈ F ↔ ∃ (i : Nat) (x : Int × Nat × Tg), m.th[i]? = some x ∧ sn i ∧ x.1 = r ∧ x.2.2.kind = 14 ∧ x.2.2.ofr = o ∧ x.2.2.set = s
 nod : (F.map fun f => f.2.2).Nodup
theorem FacI.start {m : Gm} {sn : Nat → Prop} (h : ∀ i, ¬ sn i) : FacI m sn [] := ⟨fun o s r => ⟨nofun, fun ⟨i, x, _, hs, _⟩ => absurd hs (h i)⟩, by simp⟩
theorem FacI.skip {m : Gm} {sn sn' : Nat → Prop} {F : List (Int × Int × Int)} (h : FacI m sn F) {i : Nat} {x : Int × Nat × Tg} (hx : m.th[i]? = some x) (hk : x.2.2.kind ≠ 14) (hs : ∀ j, sn' j ↔ j = i ∨ sn j) : FacI m sn' F := by
 refine ⟨fun o s r => (h.mem o s r).trans ⟨fun ⟨j, y, hy, hsn, q⟩ => ⟨j, y, hy, (hs j).2 (.inr hsn), q⟩, fun ⟨j, y, hy, hsn, q⟩ => ⟨j, y, hy, ?_, q⟩⟩, h.nod⟩
 rcases (hs j).1 hsn with rfl | hsn
 · rw [hx] at hy
   injection hy with hy
   subst hy
   exact absurd q.2.1 hk
 · exact hsn
theorem FacI.fresh {m : Gm} {sn : Nat → Prop} {F : List (Int × Int × Int)} (h : FacI m sn F) (hk : (m.th.map Prod.fst).Nodup) {i : Nat} {x : Int × Nat × Tg} (hx : m.th[i]? = some x) (hn : ¬ sn i) : x.1 ∉ F.map fun f => f.2.2 := by
 intro hm
 obtain ⟨⟨o, s, r⟩, hf, hr⟩ := List.mem_map.1 hm
 obtain ⟨j, y, hy, hsn, hy1, -⟩ := (h.mem o s r).1 hf
 have hji : j = i := by
  obtain ⟨hj, rfl⟩ := List.getElem?_eq_some_iff.1 hy
  obtain ⟨hi, rfl⟩ := List.getElem?_eq_some_iff.1 hx
  refine (List.getElem_inj (h₀ := by simpa using hj) (h₁ := by simpa using hi) hk).1 ?_
  simp only [List.getElem_map]
  rw [hy1]
  exact hr
 exact hn (hji ▸ hsn)
theorem FacI.add {m : Gm} {sn sn' : Nat → Prop} {F : List (Int × Int × Int)} (h : FacI m sn F) (hk : (m.th.map Prod.fst).Nodup) {i : Nat} {x : Int × Nat × Tg} (hx : m.th[i]? = some x) (h14 : x.2.2.kind = 14) (hn : ¬ sn i) (hs : ∀ j, sn' j ↔ j = i ∨ sn j) : FacI m sn' (F ++ [(x.2.2.ofr, x.2.2.set, x.1)]) := by
 have hfr := h.fresh hk hx hn
 refine ⟨fun o s r => ?_, ?_⟩
 · rw [List.mem_append, h.mem]
   constructor
   · rintro (⟨j, y, hy, hsn, q⟩ | hm)
     · exact ⟨j, y, hy, (hs j).2 (.inr hsn), q⟩
     · simp only [List.mem_singleton, Prod.mk.injEq] at hm
       exact ⟨i, x, hx, (hs i).2 (.inl rfl), hm.2.2.symm, h14, hm.1.symm, hm.2.1.symm⟩
   · rintro ⟨j, y, hy, hsn, q1, q2, q3, q4⟩
     rcases (hs j).1 hsn with rfl | hsn
     · rw [hx] at hy
       injection hy with hy
       subst hy
       right
       simp [q1, q3, q4]
     · exact .inl ⟨j, y, hy, hsn, q1, q2, q3, q4⟩
 · rw [List.map_append]
   refine List.nodup_append.2 ⟨h.nod, by simp, fun a ha b hb => ?_⟩
   simp only [List.map_cons, List.map_nil, List.mem_singleton] at hb
   subst hb
   rintro rfl
   exact hfr ha
theorem FacI.len {m : Gm} {sn : Nat → Prop} {F : List (Int × Int × Int)} (h : FacI m sn F) (hk : (m.th.map Prod.fst).Nodup) {i : Nat} {x : Int × Nat × Tg} (hx : m.th[i]? = some x) (hn : ¬ sn i) : F.length < m.th.length := by
 have := nodup_le (l := x.1 :: F.map fun f => f.2.2) (k := m.th.map Prod.fst) (List.nodup_cons.2 ⟨h.fresh hk hx hn, h.nod⟩) fun y hy => by
  rcases List.mem_cons.1 hy with rfl | hy
  · exact List.mem_map.2 ⟨x, List.mem_of_getElem? hx, rfl⟩
  · obtain ⟨⟨o, s, r⟩, hf, rfl⟩ := List.mem_map.1 hy
    obtain ⟨j, z, hz, -, hz1, -⟩ := (h.mem o s r).1 hf
    exact List.mem_map.2 ⟨z, List.mem_of_getElem? hz, hz1⟩
 simp at this
 omega
theorem Gm.fit_wf {m : Gm} {F : List (Int × Int × Int)} (hF : FacI m (fun i => ∃ x, m.th[i]? = some x) F) (_hkey : (m.th.map Prod.fst).Nodup) (hone : ∀ x ∈ m.th, ∀ y ∈ m.th, x.2.2.kind = 14 → y.2.2.kind = 14 → x.2.2.ofr = y.2.2.ofr → x.2.2.set = y.2.2.set → x.1 = y.1) {x : Int × Nat × Tg} (hx : x ∈ m.th) (a : Nat) : (m.wf F).fitB x.1 x.2.2 a = m.fitS x.1 x.2.2 a := by
 unfold Gm.fitS
 by_cases h14 : x.2.2.kind = 14
 · rw [if_pos h14]
   unfold Gm.fitB
   rw [if_neg (by omega), if_neg (by omega), if_neg (by omega), if_neg (by omega), if_neg (by omega), if_pos h14]
   have hfg : (m.wf F).fget x.2.2.ofr x.2.2.set = some x.1 := by
    obtain ⟨i, hi⟩ := List.mem_iff_getElem?.1 hx
    have hm := (hF.mem x.2.2.ofr x.2.2.set x.1).2 ⟨i, x, hi, ⟨x, hi⟩, rfl, h14, rfl, rfl⟩
    cases hq : (m.wf F).fget x.2.2.ofr x.2.2.set with
    | none => exact absurd ⟨rfl, rfl⟩ (Gm.fget_none hq _ hm)
    | some q =>
     obtain ⟨j, hj, -⟩ := Gm.fget_some hq
     obtain ⟨i', y, hy, -, e1, e2, e3, e4⟩ := (hF.mem x.2.2.ofr x.2.2.set q).1 (List.mem_of_getElem? hj)
     have := hone x hx y (List.mem_of_getElem? hy) h14 e2 e3.symm e4.symm
     rw [← e1, this]
   rw [hfg]
   simp [Gm.wf_get, Gm.wf_kind]
 · rw [if_neg h14]
   unfold Gm.fitB
   simp only [if_neg h14]
   rfl
end Go.Proofs.YtlejelbefmkakaaGreat

namespace Go.Proofs.YtlejelbefmkakaaGreat
open Go.RowKit
def pcN (a : Nat) : Nat := a % 2 + (a / 2) % 2 + (a / 4) % 2 + (a / 8) % 2 + (a / 16) % 2 + (a / 32) % 2
theorem pcN_le (a : Nat) : pcN a ≤ 6 := by unfold pcN; omega
set_option maxRecDepth 100000 in
theorem ones_w (a : Nat) (ha : a < 64) (W : World) : Calls Tryz.prog 239 #[.int .u64 (a : Int)] W fun e w' => e = .returned (.int .i64 (pcN a : Int)) ∧ w' = W := by
 go_enter Tryz.func239, Tryz.ntmps239
 go_wp2
 go_ret
 refine ⟨congrArg (fun n => Ending.returned (.int .i64 n)) ?_, rfl⟩
 revert a
 decide +kernel
noncomputable def Gm.spN (m : Gm) (x : Int × Nat × Tg) : Int := if x.2.2.kind = 14 then -1 else 2 ^ pcN (m.abl x.1) - 1
noncomputable def Gm.spare (m : Gm) : Int := (m.th.map m.spN).sum
theorem sum_perm {l k : List Int} (h : l.Perm k) : l.sum = k.sum := by
 induction h with
 | nil => rfl
 | cons x _ ih => simp [ih]
 | swap x y l => simp only [List.sum_cons]; omega
 | trans _ _ ih1 ih2 => exact ih1.trans ih2
theorem sum_bound (f : Nat → Int) (hf : ∀ i, -64 ≤ f i ∧ f i ≤ 64) : ∀ S : List Nat, -64 * (S.length : Int) ≤ (S.map f).sum ∧ (S.map f).sum ≤ 64 * (S.length : Int)
 | [] => by simp
 | i :: S => by
  have := sum_bound f hf S
  have h := hf i
  simp only [List.map_cons, List.sum_cons, List.length_cons]
  omega
theorem nodup_leN : ∀ {l : List Nat} {n : Nat}, l.Nodup → (∀ x ∈ l, x < n) → l.length ≤ n := fun {l n} hn hs => by
 have := nodup_le (l := l.map fun (i : Nat) => (i : Int)) (k := (List.range n).map fun (i : Nat) => (i : Int)) (by
  rw [List.nodup_iff_pairwise_ne] at hn ⊢
  rw [List.pairwise_map]
  exact hn.imp fun h => by omega) fun x hx => by
   obtain ⟨i, hi, rfl⟩ := List.mem_map.1 hx
   exact List.mem_map.2 ⟨i, List.mem_range.2 (hs i hi), rfl⟩
 simpa using this
noncomputable def Gm.spI (m : Gm) (i : Nat) : Int := match m.th[i]? with
 | some x => m.spN x
 | none => 0
theorem Gm.spN_bound (m : Gm) (x : Int × Nat × Tg) : -64 ≤ m.spN x ∧ m.spN x ≤ 64 := by
 unfold Gm.spN
 split
 · omega
 · have h := pcN_le (m.abl x.1)
   generalize pcN (m.abl x.1) = p at *
   have : p = 0 ∨ p = 1 ∨ p = 2 ∨ p = 3 ∨ p = 4 ∨ p = 5 ∨ p = 6 := by omega
   rcases this with rfl | rfl | rfl | rfl | rfl | rfl | rfl <;> decide
theorem Gm.spI_bound (m : Gm) (i : Nat) : -64 ≤ m.spI i ∧ m.spI i ≤ 64 := by
 unfold Gm.spI
 split
 · exact m.spN_bound _
 · omega
theorem Gm.spare_eq {m : Gm} {S : List Nat} (hn : S.Nodup) (hs : ∀ i, i ∈ S ↔ i < m.th.length) : (S.map m.spI).sum = m.spare := by
 have hp : S.Perm (List.range m.th.length) := (List.perm_ext_iff_of_nodup hn List.nodup_range).2 fun i => by rw [hs, List.mem_range]
 rw [sum_perm (hp.map m.spI)]
 unfold Gm.spare
 congr 1
 apply List.ext_getElem
 · simp
 · intro i h1 h2
   simp at h1
   simp [Gm.spI, h1]
structure SpI (m : Gm) (W : World) (cl rI : Nat) (es : Array MapEntry) (v : List Nat) (S : List Nat) (wr : World) : Prop where
 ri : RI m.M cl rI es v wr
 fr : Fr No W wr
 r0 : W.heap.size ≤ rI
 nod : S.Nodup
 lt : ∀ i ∈ S, i < m.th.length
 sn : ∀ i, i < m.th.length → (i ∈ S ↔ Seen es v i)
set_option maxRecDepth 100000 in
set_option maxHeartbeats 8000000 in
theorem spare_g {m : Gm} {lo : Nat} {W : World} (h : m.Ok lo W) (hab : ∀ x ∈ m.th, ∃ a, m.Abl x.1 a) :
 Calls Tryz.prog 183 #[.pointer (some ⟨m.wb, 0, none⟩)] W fun e w' => e = .returned (.int .i64 m.spare) ∧ Fr No W w' := by
 obtain ⟨es, cl, hm, hes, hst⟩ := h.things
 have c0 := gmap_cell h
 have q0 := h.blk.lt
 have hrg := run_range_map (P := Tryz.prog) W 34 22 185 m.M es cl Tryz.underlying34 hm
 have hM := lt_of_heap hm
 have HINV : Hid (SpI m W cl W.heap.size es [] [] (W.alloc (.mapIter (some m.M) cl #[] cl))) := hide ⟨⟨World.alloc_heap_new _ _, (Below.heap_alloc _ _ _ hM).trans hm⟩, (Fr.refl No W).alloc _, Nat.le_refl _, by simp, by simp, fun i _ => ⟨nofun, fun h => absurd h seen_nil⟩⟩
 have HES := hide hes
 have HST := hide hst
 have HOK := hide h
 have HAB := hide hab
 have hlen := h.len
 have HLEN := hide hlen
 clear hes hst h hab hlen
 generalize hrI : W.heap.size = rI at *
 have HRI := hide hrI
 clear hrI
 go_enter Tryz.func183, Tryz.ntmps183
 go_wp2_with fail
 go_loopw [3] (fun nv wr => ∃ v S, nv = .int .i64 (S.map m.spI).sum ∧ SpI m W cl rI es v S wr) (fun _ wr => (leftOf es (wr.iterSeen rI)).size)
 case atStart => exact ⟨[], [], by simp, HINV.out⟩
 case round =>
  obtain ⟨v, S, rfl, inv⟩ := hrel
  rcases ri_step inv.ri HES.out HST.out 0 with ⟨hall, hnx⟩ | ⟨i, b, x, W3, hx, hns, hseen, hnx, hent, F3, ri3, hsh⟩
  · have hfin : (S.map m.spI).sum = m.spare := Gm.spare_eq inv.nod fun i => ⟨inv.lt i, fun hi => (inv.sn i hi).2 (hall i _ (List.getElem?_eq_getElem hi))⟩
    have HFIN := hide hfin
    have HF := hide inv.fr
    clear inv hall hrg HINV hfin
    go_wp2
    go_ret
    exact ⟨by rw [HFIN.out]; rfl, HF.out⟩
  · have hxm : x ∈ m.th := List.mem_of_getElem? hx
    have hil : i < m.th.length := (List.getElem?_eq_some_iff.1 hx).1
    have F3' : Fr No W W3 := inv.fr.trans' F3 fun q hq h => by have h' : q = rI := h; have := inv.r0; have := HRI.out; omega
    have hok3 := HOK.out.no F3'
    obtain ⟨d0, -, -, -, -, -⟩ := gbox_at (hok3.box x hxm)
    have dq := (hok3.box x hxm).lt
    have hiS : i ∉ S := fun h => hns ((inv.sn i hil).1 h)
    have hb1 := sum_bound m.spI m.spI_bound S
    have hb2 := sum_bound m.spI m.spI_bound (S ++ [i])
    have hbl := nodup_leN (l := S ++ [i]) (n := m.th.length) (List.nodup_append.2 ⟨inv.nod, by simp, fun a ha b hb => by
     simp only [List.mem_singleton] at hb
     subst hb
     rintro rfl
     exact hiS ha⟩) (fun a ha => by
     rcases List.mem_append.1 ha with ha | ha
     · exact inv.lt a ha
     · simp only [List.mem_singleton] at ha
       subst ha
       exact hil)
    have hnx' : SpI m W cl rI es (v ++ [b]) (S ++ [i]) W3 := ⟨ri3, F3', inv.r0, List.nodup_append.2 ⟨inv.nod, by simp, fun a ha b hb => by
     simp only [List.mem_singleton] at hb
     subst hb
     rintro rfl
     exact hiS ha⟩, fun a ha => by
     rcases List.mem_append.1 ha with ha | ha
     · exact inv.lt a ha
     · simp only [List.mem_singleton] at ha
       subst ha
       exact hil, fun j hj => by
     rw [List.mem_append, hseen, inv.sn j hj, List.mem_singleton]
     exact Or.comm⟩
    have hspi : m.spI i = m.spN x := by unfold Gm.spI; rw [hx]
    have hsum : ((S ++ [i]).map m.spI).sum = (S.map m.spI).sum + m.spN x := by
     rw [List.map_append, List.sum_append]
     simp [hspi]
    have hlen := HLEN.out
    have hwr : IntKind.i64.wrap ((S.map m.spI).sum + m.spN x) = (S.map m.spI).sum + m.spN x := IntWalk.i64_in _ (by
     rw [hsum] at hb2
     simp only [List.length_append, List.length_cons, List.length_nil] at hb2 hbl
     omega)
    obtain ⟨a, ha⟩ := HAB.out x hxm
    have hspn : m.spN x = if x.2.2.kind = 14 then -1 else 2 ^ pcN a - 1 := by unfold Gm.spN; rw [Gm.abl_eq ha]
    have hA := Able_w hok3 ha
    have HA := hide hA
    have hal := ha.lt
    have HNX := hide hnx'
    have HSUM := hide hsum
    have HSH := hide hsh
    have HRI3 := hide ri3
    generalize (S.map m.spI).sum = acc at *
    clear inv hx hns hseen F3 F3' ri3 hsh hxm hrg HINV hok3 hiS hb1 hb2 hbl hspi hsum hlen hnx' hil ha hA
    try simp only at hnx hent
    by_cases h14 : x.2.2.kind = 14
    · rw [h14] at d0
      rw [if_pos h14] at hspn
      rw [hspn] at hwr HSUM
      have hwr' : IntKind.i64.wrap (acc - 1) = acc - 1 := by
       rw [show acc - 1 = acc + -1 by omega]
       exact hwr
      clear h14 hspn hwr
      go_wp2_with fail
      go_roundw
      case rel => exact ⟨v ++ [b], S ++ [i], by rw [HSUM.out]; congr 1, HNX.out⟩
      case measure => exact HSH.out
    · rw [if_neg h14] at hspn
      rw [hspn] at hwr HSUM
      have h14' : (x.2.2.kind == 14) = false := by simpa using h14
      have HO := hide fun W' => ones_w a hal W'
      have hpc := pcN_le a
      generalize pcN a = p at *
      generalize x.2.2.kind = kd at *
      clear h14 hspn
      go_wp2_with fail
      refine HA.out.mono ?_
      rintro e w4 ⟨rfl, f4⟩
      have hnx4 : SpI m W cl rI es (v ++ [b]) (S ++ [i]) w4 := ⟨HRI3.out.fr f4 (fun h => h) (fun h => h), HNX.out.fr.trans f4, HNX.out.r0, HNX.out.nod, HNX.out.lt, HNX.out.sn⟩
      have hsn4 : w4.iterSeen rI = W3.iterSeen rI := by rw [iterSeen_of hnx4.ri.it, iterSeen_of HRI3.out.it]
      have HNX4 := hide hnx4
      have HSN4 := hide hsn4
      clear hnx4 hsn4 f4
      go_wp2_with fail
      refine (HO.out w4).mono ?_
      rintro e w' ⟨rfl, rfl⟩
      have : p = 0 ∨ p = 1 ∨ p = 2 ∨ p = 3 ∨ p = 4 ∨ p = 5 ∨ p = 6 := by omega
      clear hpc
      rcases this with rfl | rfl | rfl | rfl | rfl | rfl | rfl
      all_goals
       simp only [Int.reducePow, Int.reduceSub, Int.add_zero] at hwr HSUM
       go_wp2
       go_roundw
       case rel => exact ⟨v ++ [b], S ++ [i], by rw [HSUM.out], HNX4.out⟩
       case measure =>
        rw [HSN4.out]
        exact HSH.out
end Go.Proofs.YtlejelbefmkakaaGreat

namespace Go.Proofs.YtlejelbefmkakaaGreat
open Go.RowKit
structure TgV where
 kind : Int
 home : Int
 v : V
 vs : List V
 n : Int
 lost : Int
 ofr : Int
 byr : Int
 set : Int
 full : Bool
 code : List G
 names : List (ByteArray × V)
def Tg.pl (x : Tg) : TgV := ⟨x.kind, x.home, x.v.v, x.vs.map T.v, x.n, x.lost, x.ofr, x.byr, x.set, x.full, x.code.map G.er, x.names.map fun z => (z.1, z.2.v)⟩
def plE (x : Int × Nat × Tg) : Int × TgV := (x.1, x.2.2.pl)
def Gm.pl (m : Gm) : List (Int × TgV) := m.th.map plE
def Gm.ofT (ths : List (Int × Tg)) : Gm := ⟨0, 0, 0, none, 0, [], none, 0, [], none, 0, [], 0, ths.map fun x => (x.1, 0, x.2), []⟩
theorem Tg.pl_held {x y : Tg} (h : x.pl = y.pl) : x.held = y.held := by
 have h1 := congrArg TgV.v h
 have h2 := congrArg TgV.vs h
 have h3 := congrArg TgV.names h
 simp only [Tg.pl] at h1 h2 h3
 have h4 := congrArg (List.map fun z : ByteArray × V => z.2) h3
 simp only [List.map_map] at h4
 unfold Tg.held
 rw [h1, h2]
 congr 1
section
variable {m1 m2 : Gm} {r : Int}
theorem Gm.get_pl (m : Gm) (r : Int) : (m.get r).map (fun x => x.2.pl) = (m.pl.find? fun x => x.1 == r).map Prod.snd := by
 unfold Gm.get Gm.pl
 rw [List.find?_map]
 simp only [Option.map_map]
 rfl
theorem Gm.sim (h : m1.pl = m2.pl) (r : Int) : (m1.get r = none ∧ m2.get r = none) ∨ ∃ x y, m1.get r = some x ∧ m2.get r = some y ∧ x.2.pl = y.2.pl := by
 have h1 := m1.get_pl r
 have h2 := m2.get_pl r
 rw [h] at h1
 rw [← h2] at h1
 cases ha : m1.get r with
 | none =>
  rw [ha] at h1
  cases hb : m2.get r with
  | none => exact .inl ⟨rfl, rfl⟩
  | some y => rw [hb] at h1; cases h1
 | some x =>
  rw [ha] at h1
  cases hb : m2.get r with
  | none => rw [hb] at h1; cases h1
  | some y =>
   rw [hb] at h1
   simp only [Option.map_some, Option.some.injEq] at h1
   exact .inr ⟨x, y, rfl, rfl, h1⟩
theorem Gm.sim_mem (h : m1.pl = m2.pl) {x : Int × Nat × Tg} (hx : x ∈ m1.th) : ∃ y ∈ m2.th, y.1 = x.1 ∧ y.2.2.pl = x.2.2.pl := by
 have : plE x ∈ m1.pl := List.mem_map.2 ⟨x, hx, rfl⟩
 rw [h] at this
 obtain ⟨y, hy, e⟩ := List.mem_map.1 this
 unfold plE at e
 injection e with e1 e2
 exact ⟨y, hy, e1, e2⟩
theorem Gm.sim_is (h : m1.pl = m2.pl) (r : Int) : (m1.get r).isSome = (m2.get r).isSome := by
 rcases Gm.sim h r with ⟨a, b⟩ | ⟨x, y, a, b, -⟩ <;> rw [a, b] <;> rfl
theorem Gm.sim_kind (h : m1.pl = m2.pl) (r : Int) : m1.kind r = m2.kind r := by
 unfold Gm.kind
 rcases Gm.sim h r with ⟨a, b⟩ | ⟨x, y, a, b, e⟩ <;> rw [a, b]
 exact congrArg TgV.kind e
theorem Gm.Hgt.sim {n : Nat} (hh : m1.Hgt r n) (h : m1.pl = m2.pl) : m2.Hgt r n := by
 induction hh with
 | base hg hk =>
  rcases Gm.sim h _ with ⟨a, b⟩ | ⟨x, y, a, b, e⟩
  · rw [hg] at a; cases a
  · rw [hg] at a; cases a
    have := congrArg TgV.kind e
    simp only [Tg.pl] at this
    exact .base b (by rw [← this]; exact hk)
 | wrap hg hk _ ih =>
  rcases Gm.sim h _ with ⟨a, b⟩ | ⟨x, y, a, b, e⟩
  · rw [hg] at a; cases a
  · rw [hg] at a; cases a
    have e1 := congrArg TgV.kind e
    have e2 := congrArg TgV.ofr e
    simp only [Tg.pl] at e1 e2
    exact .wrap b (by rw [← e1]; exact hk) (by rw [← e2]; exact ih)
theorem Gm.Abl.sim {n : Nat} (hh : m1.Abl r n) (h : m1.pl = m2.pl) : m2.Abl r n := by
 induction hh with
 | base hg hk =>
  rcases Gm.sim h _ with ⟨a, b⟩ | ⟨x, y, a, b, e⟩
  · rw [hg] at a; cases a
  · rw [hg] at a; cases a
    have := congrArg TgV.kind e
    simp only [Tg.pl] at this
    rw [this]
    exact .base b (by rw [← this]; exact hk)
 | facet hg hk hs _ ih =>
  rcases Gm.sim h _ with ⟨a, b⟩ | ⟨x, y, a, b, e⟩
  · rw [hg] at a; cases a
  · rw [hg] at a; cases a
    have e1 := congrArg TgV.kind e
    have e2 := congrArg TgV.ofr e
    have e3 := congrArg TgV.set e
    simp only [Tg.pl] at e1 e2 e3
    exact .facet b (by rw [← e1]; exact hk) (by rw [← e3]; exact hs) (by rw [← e2]; exact ih)
 | pass hg hk _ ih =>
  rcases Gm.sim h _ with ⟨a, b⟩ | ⟨x, y, a, b, e⟩
  · rw [hg] at a; cases a
  · rw [hg] at a; cases a
    have e1 := congrArg TgV.kind e
    have e2 := congrArg TgV.ofr e
    simp only [Tg.pl] at e1 e2
    exact .pass b (by rw [← e1]; exact hk) (by rw [← e2]; exact ih)
theorem Gm.sim_abl (h : m1.pl = m2.pl) (r : Int) : m1.abl r = m2.abl r := by
 unfold Gm.abl
 congr 1
 funext a
 exact propext ⟨fun hh => hh.sim h, fun hh => hh.sim h.symm⟩
theorem Gm.sim_hk (h : m1.pl = m2.pl) (r k o : Int) : m1.hkB r k o = m2.hkB r k o := by
 unfold Gm.hkB
 rcases Gm.sim h r with ⟨a, b⟩ | ⟨x, y, a, b, e⟩ <;> rw [a, b]
 have e1 := congrArg TgV.kind e
 have e2 := congrArg TgV.home e
 simp only [Tg.pl] at e1 e2
 simp only [e1, e2]
theorem Gm.sim_oth (h : m1.pl = m2.pl) (r k o : Int) : m1.othB r k o = m2.othB r k o := by
 have : ∀ m : Gm, m.othB r k o = m.pl.any fun x => x.1 != r && (x.2.kind == k && x.2.ofr == o) := fun m => by
  unfold Gm.othB Gm.pl
  rw [List.any_map]
  rfl
 rw [this, this, h]
theorem Gm.sim_are (h : m1.pl = m2.pl) (L : List Int) : m1.are L = m2.are L := by
 unfold Gm.are
 congr 1
 funext r
 exact Gm.sim_is h r
theorem Gm.sim_bad (h : m1.pl = m2.pl) {x y : Tg} (e : x.pl = y.pl) : m1.badB x = m2.badB y := by
 have e1 := congrArg TgV.kind e
 have e2 := congrArg TgV.ofr e
 have e3 := congrArg TgV.byr e
 simp only [Tg.pl] at e1 e2 e3
 unfold Gm.badB
 rw [Tg.pl_held e, e1, e2, e3, Gm.sim_are h, Gm.sim_is h, Gm.sim_is h]
theorem Gm.sim_fit (h : m1.pl = m2.pl) {x y : Tg} (e : x.pl = y.pl) (r : Int) (a : Nat) : m1.fitS r x a = m2.fitS r y a := by
 have e1 := congrArg TgV.kind e
 have e2 := congrArg TgV.ofr e
 have e3 := congrArg TgV.byr e
 have e4 := congrArg TgV.home e
 have e5 := congrArg TgV.set e
 simp only [Tg.pl] at e1 e2 e3 e4 e5
 have h1 : m1.byIs y.ofr r = m2.byIs y.ofr r := by
  unfold Gm.byIs
  rcases Gm.sim h y.ofr with ⟨a, b⟩ | ⟨z, z', a, b, e⟩ <;> rw [a, b]
  have := congrArg TgV.byr e
  simp only [Tg.pl] at this
  simp only [this]
 have h2 : m1.ofIs y.byr r = m2.ofIs y.byr r := by
  unfold Gm.ofIs
  rcases Gm.sim h y.byr with ⟨a, b⟩ | ⟨z, z', a, b, e⟩ <;> rw [a, b]
  have := congrArg TgV.ofr e
  simp only [Tg.pl] at this
  simp only [this]
 unfold Gm.fitS Gm.fitB
 rw [e1, e2, e3, e4, e5, Gm.sim_is h, Gm.sim_kind h, Gm.sim_hk h, Gm.sim_hk h, Gm.sim_hk h, Gm.sim_hk h, Gm.sim_hk h, Gm.sim_oth h, Gm.sim_oth h, h1, h2]
 by_cases h14 : y.kind = 14
 · simp only [if_pos h14]
 · simp only [if_neg h14]
theorem Gm.Snd.sim (hs : m1.Snd) (h : m1.pl = m2.pl) : m2.Snd := by
 refine ⟨fun y hy => ?_, fun y hy => ?_, fun y hy z hz k1 k2 ho hst => ?_, fun y hy => ?_⟩
 · obtain ⟨x, hx, -, e⟩ := Gm.sim_mem h.symm hy
   rw [← Gm.sim_bad h e]
   exact hs.bad x hx
 · obtain ⟨x, hx, e1, e⟩ := Gm.sim_mem h.symm hy
   obtain ⟨n, hn⟩ := hs.hgt x hx
   rw [e1] at hn
   exact ⟨n, hn.sim h⟩
 · obtain ⟨x, hx, e1, e⟩ := Gm.sim_mem h.symm hy
   obtain ⟨w, hw, f1, f⟩ := Gm.sim_mem h.symm hz
   have a1 := congrArg TgV.kind e
   have a2 := congrArg TgV.ofr e
   have a3 := congrArg TgV.set e
   have b1 := congrArg TgV.kind f
   have b2 := congrArg TgV.ofr f
   have b3 := congrArg TgV.set f
   simp only [Tg.pl] at a1 a2 a3 b1 b2 b3
   have := hs.one x hx w hw (a1.trans k1) (b1.trans k2) (by rw [a2, b2, ho]) (by rw [a3, b3, hst])
   rw [← e1, ← f1, this]
 · obtain ⟨x, hx, e1, e⟩ := Gm.sim_mem h.symm hy
   have a2 := congrArg TgV.ofr e
   simp only [Tg.pl] at a2
   have := hs.fit x hx
   rw [Gm.sim_fit h e, Gm.sim_abl h, a2, e1] at this
   exact this
theorem Gm.sim_spare (h : m1.pl = m2.pl) : m1.spare = m2.spare := by
 have : ∀ m : Gm, m.spare = (m.pl.map fun x => if x.2.kind = 14 then (-1 : Int) else 2 ^ pcN (m.abl x.1) - 1).sum := fun m => by
  unfold Gm.spare Gm.pl
  rw [List.map_map]
  rfl
 rw [this, this, h]
 congr 1
 refine List.map_congr_left fun x _ => ?_
 rw [Gm.sim_abl h]
end
end Go.Proofs.YtlejelbefmkakaaGreat
