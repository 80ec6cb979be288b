/- Texts joined: Gk3. -/
import Derived.Test.YtlejelbefmkakaaGreatJn2
import Derived.Test.YtlejelbefmkakaaGreatJn21
import Derived.Deep.Cut
import Derived.Deep.CutRange
import Derived.Deep.CutBlock
namespace Go.Proofs.YtlejelbefmkakaaGreat
open Go.RowKit
def FormP (sides : Nat) (x : Tg) (w : World) (e : Ending) (w' : World) : Prop := ∃ q : Bool, e = .returned (.bool q) ∧ (q = true ↔ x.Form sides) ∧ Fr No w w'
set_option maxRecDepth 100000 in
set_option maxHeartbeats 16000000 in
theorem gform_w {m : Gm} {lo0 : Nat} {W : World} (h : m.Ok lo0 W) (x : Tg) (lo hi : Nat) (hx : x.In W lo hi) (hh : hi ≤ W.heap.size) :
 Calls Tryz.prog 154 #[.pointer (some ⟨m.wb, 0, none⟩), x.val] W (FormP m.made.length x W) := by
 obtain ⟨bx, hbx⟩ : ∃ b, x.bar = b := ⟨_, rfl⟩
 have hFRM : x.Form m.made.length ↔ (¬ x.Bad1 bx ∧ ¬ x.Bad2 bx ∧ ¬ x.Bad3 m.made.length ∧ ¬ x.Bad4 ∧ ¬ x.Bad5 ∧ x.Last) := by unfold Tg.Form; rw [hbx]
 obtain ⟨Q0, hQ0⟩ : ∃ Q0, FormP m.made.length x W = Q0 := ⟨_, rfl⟩
 have hfit := hx.fit
 have hSd := fun W' (f : Fr No W W') (s : Int) => gside_w (h.no f) s
 have hBl := fun (t : T) W' => blank_w t W'
 have hMx := fun W' (f : Fr No W W') => may_any x.v W' lo hi (hx.v.no f hh) (Nat.le_trans hh f.size)
 have hMn := fun (y : Nm) (hy : y ∈ x.names) W' (f : Fr No W W') => may_any y.2 W' lo hi ((hx.names.inn y hy).2.no f hh) (Nat.le_trans hh f.size)
 have hOf := fun W' (f : Fr No W W') => vOf_any x.VA x.vc x.vs W' lo hi (hx.vs.no f hh) (Nat.le_trans hh f.size)
 obtain ⟨kind, home, ⟨k, n, s, A, cap, l, r⟩, VA, vc, vs, n1, lost, ofr, byr, set, full, CA, cc, code, NA, nc, names⟩ := x
 have hbc := bar_cells kind home k n s A cap l r VA vc vs n1 lost ofr byr set full CA cc code NA nc names
 rw [hbx] at hbc
 have hBare := fun W' => bare_any kind home k n s A l.length cap r VA vs.length vc n1 lost ofr byr set full CA code.length cc NA names.length nc W'
 rw [← hbc] at hBare
 obtain ⟨qkind, qhome, ⟨qk, qn, qs, qA, qcap, ql, qr⟩, qVA, qvc, qvs, qn1, qlost, qofr, qbyr, qset, qfull, qCA, qcc, qcode, qNA, qnc, qnames⟩ := bx
 have hval : (Tg.val ⟨kind, home, T.mk k n s A cap l r, VA, vc, vs, n1, lost, ofr, byr, set, full, CA, cc, code, NA, nc, names⟩) = .agg #[.int .u8 kind, .int .i64 home, .int .u8 k, .int .i64 n, .string s, .slice A l.length cap, .int .i64 r, .slice VA vs.length vc, .int .i64 n1, .int .i64 lost, .int .i64 ofr, .int .i64 byr, .int .u8 set, .bool full, .slice CA code.length cc, .slice NA names.length nc] := rfl
 rw [hval, hQ0]
 have hb0 := Blk.new W 138 #[.int .u8 kind, .int .i64 home, .int .u8 k, .int .i64 n, .string s, .slice A l.length cap, .int .i64 r, .slice VA vs.length vc, .int .i64 n1, .int .i64 lost, .int .i64 ofr, .int .i64 byr, .int .u8 set, .bool full, .slice CA code.length cc, .slice NA names.length nc]
 have hf0 := (Fr.refl No W).alloc (.cells #[.int .u8 kind, .int .i64 home, .int .u8 k, .int .i64 n, .string s, .slice A l.length cap, .int .i64 r, .slice VA vs.length vc, .int .i64 n1, .int .i64 lost, .int .i64 ofr, .int .i64 byr, .int .u8 set, .bool full, .slice CA code.length cc, .slice NA names.length nc] 138)
 rw [T.val_mk] at hMx
 have HQ := hide hQ0
 have HX := hide hx
 have HOK := hide h
 have HFRM := hide hFRM
 have HSd := hide hSd
 have HBl := hide hBl
 have HMx := hide hMx
 have HMn := hide hMn
 have HOf := hide hOf
 have HBare := hide (show ∀ W', Calls Tryz.prog 207 #[.agg #[.int .u8 kind, .int .i64 home, .int .u8 k, .int .i64 n, .string s, .slice A l.length cap, .int .i64 r, .slice VA vs.length vc, .int .i64 n1, .int .i64 lost, .int .i64 ofr, .int .i64 byr, .int .u8 set, .bool full, .slice CA code.length cc, .slice NA names.length nc]] W' fun e w' => e = .returned (.agg #[.int .u8 qkind, .int .i64 qhome, .int .u8 qk, .int .i64 qn, .string qs, .slice qA ql.length qcap, .int .i64 qr, .slice qVA qvs.length qvc, .int .i64 qn1, .int .i64 qlost, .int .i64 qofr, .int .i64 qbyr, .int .u8 qset, .bool qfull, .slice qCA qcode.length qcc, .slice qNA qnames.length qnc]) ∧ Fr No W' w' from hBare)
 have HFIT := hide hfit
 have HB0 := hide hb0
 have HF0 := hide hf0
 obtain ⟨sides, hsd⟩ : ∃ sd, m.made.length = sd := ⟨_, rfl⟩
 rw [hsd] at HFRM HSd HQ
 have HSDS := hide hsd
 obtain ⟨d0, d1, d2, d3, d4, d5, d6, d7, d8, d9, d10, d11, d12, d13, d14, d15⟩ := hb0.cells16
 have dq := hb0.lt
 clear hbx hFRM hSd hBl hMx hMn hOf hbc hBare hval hQ0 hb0 hf0 h hx hfit hsd
 go_enter Tryz.func154, Tryz.ntmps154
 go_wp2_with fail
 generalize World.alloc W _ = W0 at *
 refine (HBare.out W0).mono ?_
 rintro e w1 ⟨rfl, f1⟩
 have fa := f1.alloc (.cells #[.int .u8 qkind, .int .i64 qhome, .int .u8 qk, .int .i64 qn, .string qs, .slice qA ql.length qcap, .int .i64 qr, .slice qVA qvs.length qvc, .int .i64 qn1, .int .i64 qlost, .int .i64 qofr, .int .i64 qbyr, .int .u8 qset, .bool qfull, .slice qCA qcode.length qcc, .slice qNA qnames.length qnc] 138)
 have bb := Blk.new w1 138 #[.int .u8 qkind, .int .i64 qhome, .int .u8 qk, .int .i64 qn, .string qs, .slice qA ql.length qcap, .int .i64 qr, .slice qVA qvs.length qvc, .int .i64 qn1, .int .i64 qlost, .int .i64 qofr, .int .i64 qbyr, .int .u8 qset, .bool qfull, .slice qCA qcode.length qcc, .slice qNA qnames.length qnc]
 have bx := HB0.out.fr fa fun h => h
 have HF1 := hide (HF0.out.trans fa)
 have HBX := hide bx
 have HBB := hide bb
 have HQK := hide trivial
 clear d0 d1 d2 d3 d4 d5 d6 d7 d8 d9 d10 d11 d12 d13 d14 d15 dq
 obtain ⟨d0, d1, d2, d3, d4, d5, d6, d7, d8, d9, d10, d11, d12, d13, d14, d15⟩ := bx.cells16
 obtain ⟨b0, b1, b2, b3, b4, b5, b6, b7, b8, b9, b10, b11, b12, b13, b14, b15⟩ := bb.cells16
 have dq := bx.lt
 have bq := bb.lt
 clear f1 fa bx bb HB0 HF0 HBare
 go_upto_region 2 with (fail)
 generalize hgb : w1.heap.size = gb at *
 generalize World.alloc w1 _ = w2 at *
 go_cut [69] from 13 to 192 (fun u wx => (∃ c : Bool, u = .bool c ∧ (c = true ↔ Tg.Bad1 ⟨kind, home, T.mk k n s A cap l r, VA, vc, vs, n1, lost, ofr, byr, set, full, CA, cc, code, NA, nc, names⟩ ⟨qkind, qhome, T.mk qk qn qs qA qcap ql qr, qVA, qvc, qvs, qn1, qlost, qofr, qbyr, qset, qfull, qCA, qcc, qcode, qNA, qnc, qnames⟩)) ∧ wx = w2)
 case first => as_aux_lemma =>
  clear HBX HBB HF1
  by_cases h0 : kind = 0
  · have t0 : (kind == 0) = true := by simp at h0 ⊢; first | exact h0 | omega
    have HH := hide h0
    clear h0
    go_wp2_with fail
    go_meet
    case rel => exact ⟨⟨true, rfl, ⟨fun _ => .inl HH.out, fun _ => rfl⟩⟩, rfl⟩
  have f0 : (kind == 0) = false := by simp at h0 ⊢; first | exact h0 | omega
  have N0 := hide h0
  clear h0
  by_cases h1 : 16 < kind
  · have t1 : decide (kind > 16) = true := by simp at h1 ⊢; first | exact h1 | omega
    have HH := hide h1
    clear h1
    go_wp2_with fail
    go_meet
    case rel => exact ⟨⟨true, rfl, ⟨fun _ => .inr (.inl HH.out), fun _ => rfl⟩⟩, rfl⟩
  have f1 : decide (kind > 16) = false := by simp at h1 ⊢; first | exact h1 | omega
  have N1 := hide h1
  clear h1
  by_cases h2 : n1 ≠ qn1
  · have t2 : (n1 != qn1) = true := by simp at h2 ⊢; first | exact h2 | omega
    have HH := hide h2
    clear h2
    go_wp2_with fail
    go_meet
    case rel => exact ⟨⟨true, rfl, ⟨fun _ => .inr (.inr (.inl HH.out)), fun _ => rfl⟩⟩, rfl⟩
  have f2 : (n1 != qn1) = false := by simp at h2 ⊢; first | exact h2 | omega
  have N2 := hide h2
  clear h2
  by_cases h3 : lost ≠ qlost
  · have t3 : (lost != qlost) = true := by simp at h3 ⊢; first | exact h3 | omega
    have HH := hide h3
    clear h3
    go_wp2_with fail
    go_meet
    case rel => exact ⟨⟨true, rfl, ⟨fun _ => .inr (.inr (.inr (.inl HH.out))), fun _ => rfl⟩⟩, rfl⟩
  have f3 : (lost != qlost) = false := by simp at h3 ⊢; first | exact h3 | omega
  have N3 := hide h3
  clear h3
  by_cases h4 : ofr ≠ qofr
  · have t4 : (ofr != qofr) = true := by simp at h4 ⊢; first | exact h4 | omega
    have HH := hide h4
    clear h4
    go_wp2_with fail
    go_meet
    case rel => exact ⟨⟨true, rfl, ⟨fun _ => .inr (.inr (.inr (.inr (.inl HH.out)))), fun _ => rfl⟩⟩, rfl⟩
  have f4 : (ofr != qofr) = false := by simp at h4 ⊢; first | exact h4 | omega
  have N4 := hide h4
  clear h4
  by_cases h5 : byr ≠ qbyr
  · have t5 : (byr != qbyr) = true := by simp at h5 ⊢; first | exact h5 | omega
    have HH := hide h5
    clear h5
    go_wp2_with fail
    go_meet
    case rel => exact ⟨⟨true, rfl, ⟨fun _ => .inr (.inr (.inr (.inr (.inr (.inl HH.out))))), fun _ => rfl⟩⟩, rfl⟩
  have f5 : (byr != qbyr) = false := by simp at h5 ⊢; first | exact h5 | omega
  have N5 := hide h5
  clear h5
  by_cases h6 : set ≠ qset
  · have t6 : (set != qset) = true := by simp at h6 ⊢; first | exact h6 | omega
    have HH := hide h6
    clear h6
    go_wp2_with fail
    go_meet
    case rel => exact ⟨⟨true, rfl, ⟨fun _ => .inr (.inr (.inr (.inr (.inr (.inr (.inl HH.out)))))), fun _ => rfl⟩⟩, rfl⟩
  have f6 : (set != qset) = false := by simp at h6 ⊢; first | exact h6 | omega
  have N6 := hide h6
  clear h6
  by_cases h7 : full ≠ qfull
  · have t7 : (full != qfull) = true := by simp at h7 ⊢; first | exact h7 | omega
    have HH := hide h7
    clear h7
    go_wp2_with fail
    go_meet
    case rel => exact ⟨⟨true, rfl, ⟨fun _ => .inr (.inr (.inr (.inr (.inr (.inr (.inr (.inl HH.out))))))), fun _ => rfl⟩⟩, rfl⟩
  obtain rfl : qfull = full := by simpa [eq_comm] using h7
  have N7 := hide h7
  clear h7
  by_cases h8 : home ≠ qhome
  · have t8 : (home != qhome) = true := by simp at h8 ⊢; first | exact h8 | omega
    have HH := hide h8
    clear h8
    go_wp2_with fail
    go_meet
    case rel => exact ⟨⟨true, rfl, ⟨fun _ => .inr (.inr (.inr (.inr (.inr (.inr (.inr (.inr (HH.out)))))))), fun _ => rfl⟩⟩, rfl⟩
  have f8 : (home != qhome) = false := by simp at h8 ⊢; first | exact h8 | omega
  have N8 := hide h8
  clear h8
  go_wp2_with fail
  go_meet
  case rel =>
   refine ⟨⟨false, rfl, nofun, fun h => ?_⟩, rfl⟩
   rcases h with h | h | h | h | h | h | h | h | h
   · exact absurd h N0.out
   · exact absurd (show 16 < kind from h) (by have := N1.out; omega)
   · exact absurd h N2.out
   · exact absurd h N3.out
   · exact absurd h N4.out
   · exact absurd h N5.out
   · exact absurd h N6.out
   · exact absurd h N7.out
   · exact absurd h N8.out
 obtain ⟨⟨c1, rfl, hc1⟩, rfl⟩ := hcut
 have HC1 := hide hc1
 clear hc1
 cases c1 with
 | true =>
  clear HBX HBB
  go_wp2
  rw [← HQ.out]
  exact ⟨false, rfl, ⟨nofun, fun h => absurd (HC1.out.1 trivial) (HFRM.out.1 h).1⟩, HF1.out⟩
 | false =>
 have NB1 := hide (fun h => Bool.noConfusion (HC1.out.2 h) : ¬ Tg.Bad1 ⟨kind, home, T.mk k n s A cap l r, VA, vc, vs, n1, lost, ofr, byr, set, full, CA, cc, code, NA, nc, names⟩ ⟨qkind, qhome, T.mk qk qn qs qA qcap ql qr, qVA, qvc, qvs, qn1, qlost, qofr, qbyr, qset, qfull, qCA, qcc, qcode, qNA, qnc, qnames⟩)
 clear HC1
 go_upto_region 4 with (fail)
 obtain ⟨z1, hz1⟩ : ∃ z, blankB (T.mk k n s A cap l r).v = z := ⟨_, rfl⟩
 obtain ⟨z2, hz2⟩ : ∃ z, blankB (T.mk qk qn qs qA qcap ql qr).v = z := ⟨_, rfl⟩
 have hl1 := HBl.out (T.mk k n s A cap l r)
 have hl2 := HBl.out (T.mk qk qn qs qA qcap ql qr)
 rw [hz1, T.val_mk] at hl1
 rw [hz2, T.val_mk] at hl2
 have HL1 := hide hl1
 have HL2 := hide hl2
 have HZ1 := hide hz1
 have HZ2 := hide hz2
 clear hl1 hl2 hz1 hz2
 go_cut [105] from 13 to 192 (fun u wx => (∃ c : Bool, u = .bool c ∧ (c = true ↔ Tg.Bad2 ⟨kind, home, T.mk k n s A cap l r, VA, vc, vs, n1, lost, ofr, byr, set, full, CA, cc, code, NA, nc, names⟩ ⟨qkind, qhome, T.mk qk qn qs qA qcap ql qr, qVA, qvc, qvs, qn1, qlost, qofr, qbyr, qset, qfull, qCA, qcc, qcode, qNA, qnc, qnames⟩)) ∧ Blk wx W.heap.size 138 #[.int .u8 kind, .int .i64 home, .int .u8 k, .int .i64 n, .string s, .slice A l.length cap, .int .i64 r, .slice VA vs.length vc, .int .i64 n1, .int .i64 lost, .int .i64 ofr, .int .i64 byr, .int .u8 set, .bool full, .slice CA code.length cc, .slice NA names.length nc] ∧ Blk wx gb 138 #[.int .u8 qkind, .int .i64 qhome, .int .u8 qk, .int .i64 qn, .string qs, .slice qA ql.length qcap, .int .i64 qr, .slice qVA qvs.length qvc, .int .i64 qn1, .int .i64 qlost, .int .i64 qofr, .int .i64 qbyr, .int .u8 qset, .bool qfull, .slice qCA qcode.length qcc, .slice qNA qnames.length qnc] ∧ Fr No W wx)
 case first => as_aux_lemma =>
  by_cases h0 : vs.length ≠ qvs.length
  · have t0 : ((vs.length : Int) != (qvs.length : Int)) = true := by simp; omega
    have HH := hide h0
    clear h0
    go_wp2_with fail
    go_meet
    case rel => exact ⟨⟨true, rfl, ⟨fun _ => .inl HH.out, fun _ => rfl⟩⟩, HBX.out, HBB.out, HF1.out⟩
  have f0 : ((vs.length : Int) != (qvs.length : Int)) = false := by simp; omega
  have N0 := hide h0
  clear h0
  by_cases h1 : code.length ≠ qcode.length
  · have t1 : ((code.length : Int) != (qcode.length : Int)) = true := by simp; omega
    have HH := hide h1
    clear h1
    go_wp2_with fail
    go_meet
    case rel => exact ⟨⟨true, rfl, ⟨fun _ => .inr (.inl HH.out), fun _ => rfl⟩⟩, HBX.out, HBB.out, HF1.out⟩
  have f1 : ((code.length : Int) != (qcode.length : Int)) = false := by simp; omega
  have N1 := hide h1
  clear h1
  by_cases h2 : names.length ≠ qnames.length
  · have t2 : ((names.length : Int) != (qnames.length : Int)) = true := by simp; omega
    have HH := hide h2
    clear h2
    go_wp2_with fail
    go_meet
    case rel => exact ⟨⟨true, rfl, ⟨fun _ => .inr (.inr (.inl HH.out)), fun _ => rfl⟩⟩, HBX.out, HBB.out, HF1.out⟩
  have f2 : ((names.length : Int) != (qnames.length : Int)) = false := by simp; omega
  have N2 := hide h2
  clear h2
  go_wp2_with fail
  refine (HL2.out _).mono ?_
  rintro e w3 ⟨rfl, ff⟩
  replace HBX := hide (HBX.out.fr ff fun h => h)
  replace HBB := hide (HBB.out.fr ff fun h => h)
  replace HF1 := hide (HF1.out.trans ff)
  clear ff
  clear d0 d1 d2 d3 d4 d5 d6 d7 d8 d9 d10 d11 d12 d13 d14 d15 dq b0 b1 b2 b3 b4 b5 b6 b7 b8 b9 b10 b11 b12 b13 b14 b15 bq
  obtain ⟨d0, d1, d2, d3, d4, d5, d6, d7, d8, d9, d10, d11, d12, d13, d14, d15⟩ := HBX.out.cells16
  obtain ⟨b0, b1, b2, b3, b4, b5, b6, b7, b8, b9, b10, b11, b12, b13, b14, b15⟩ := HBB.out.cells16
  have dq := HBX.out.lt
  have bq := HBB.out.lt
  cases z2 with
  | false =>
   go_wp2_with fail
   go_meet
   case rel =>
    refine ⟨⟨false, rfl, nofun, fun h => ?_⟩, HBX.out, HBB.out, HF1.out⟩
    rcases h with h | h | h | ⟨h, -⟩
    · exact absurd h N0.out
    · exact absurd h N1.out
    · exact absurd h N2.out
    · exact absurd (HZ2.out.symm.trans h) (by simp)
  | true =>
   go_wp2_with fail
   refine (HL1.out _).mono ?_
   rintro e w4 ⟨rfl, ff⟩
   replace HBX := hide (HBX.out.fr ff fun h => h)
   replace HBB := hide (HBB.out.fr ff fun h => h)
   replace HF1 := hide (HF1.out.trans ff)
   clear ff
   clear d0 d1 d2 d3 d4 d5 d6 d7 d8 d9 d10 d11 d12 d13 d14 d15 dq b0 b1 b2 b3 b4 b5 b6 b7 b8 b9 b10 b11 b12 b13 b14 b15 bq
   obtain ⟨d0, d1, d2, d3, d4, d5, d6, d7, d8, d9, d10, d11, d12, d13, d14, d15⟩ := HBX.out.cells16
   obtain ⟨b0, b1, b2, b3, b4, b5, b6, b7, b8, b9, b10, b11, b12, b13, b14, b15⟩ := HBB.out.cells16
   have dq := HBX.out.lt
   have bq := HBB.out.lt
   cases z1 with
   | false =>
    go_wp2_with fail
    go_meet
    case rel => exact ⟨⟨true, rfl, ⟨fun _ => .inr (.inr (.inr ⟨HZ2.out, HZ1.out⟩)), fun _ => rfl⟩⟩, HBX.out, HBB.out, HF1.out⟩
   | true =>
    go_wp2_with fail
    go_meet
    case rel =>
     refine ⟨⟨false, rfl, nofun, fun h => ?_⟩, HBX.out, HBB.out, HF1.out⟩
     rcases h with h | h | h | ⟨-, h⟩
     · exact absurd h N0.out
     · exact absurd h N1.out
     · exact absurd h N2.out
     · exact absurd (HZ1.out.symm.trans h) (by simp)
 obtain ⟨⟨c2, rfl, hc2⟩, hbx, hbb, hff⟩ := hcut
 have HC2 := hide hc2
 have HBX := hide hbx
 have HBB := hide hbb
 have HF1 := hide hff
 clear hc2 d0 d1 d2 d3 d4 d5 d6 d7 d8 d9 d10 d11 d12 d13 d14 d15 dq b0 b1 b2 b3 b4 b5 b6 b7 b8 b9 b10 b11 b12 b13 b14 b15 bq
 obtain ⟨d0, d1, d2, d3, d4, d5, d6, d7, d8, d9, d10, d11, d12, d13, d14, d15⟩ := hbx.cells16
 obtain ⟨b0, b1, b2, b3, b4, b5, b6, b7, b8, b9, b10, b11, b12, b13, b14, b15⟩ := hbb.cells16
 have dq := hbx.lt
 have bq := hbb.lt
 clear hbx hbb hff
 cases c2 with
 | true =>
  clear HBX HBB
  go_wp2
  rw [← HQ.out]
  exact ⟨false, rfl, ⟨nofun, fun h => absurd (HC2.out.1 trivial) (HFRM.out.1 h).2.1⟩, HF1.out⟩
 | false =>
 have NB2 := hide (fun h => Bool.noConfusion (HC2.out.2 h) : ¬ Tg.Bad2 ⟨kind, home, T.mk k n s A cap l r, VA, vc, vs, n1, lost, ofr, byr, set, full, CA, cc, code, NA, nc, names⟩ ⟨qkind, qhome, T.mk qk qn qs qA qcap ql qr, qVA, qvc, qvs, qn1, qlost, qofr, qbyr, qset, qfull, qCA, qcc, qcode, qNA, qnc, qnames⟩)
 clear HC2
 go_upto_region 6 with (fail)
 go_cut [121] from 13 to 192 (fun u wx => (∃ c : Bool, u = .bool c ∧ (c = true ↔ Tg.Bad3 sides ⟨kind, home, T.mk k n s A cap l r, VA, vc, vs, n1, lost, ofr, byr, set, full, CA, cc, code, NA, nc, names⟩)) ∧ Blk wx W.heap.size 138 #[.int .u8 kind, .int .i64 home, .int .u8 k, .int .i64 n, .string s, .slice A l.length cap, .int .i64 r, .slice VA vs.length vc, .int .i64 n1, .int .i64 lost, .int .i64 ofr, .int .i64 byr, .int .u8 set, .bool full, .slice CA code.length cc, .slice NA names.length nc] ∧ Blk wx gb 138 #[.int .u8 qkind, .int .i64 qhome, .int .u8 qk, .int .i64 qn, .string qs, .slice qA ql.length qcap, .int .i64 qr, .slice qVA qvs.length qvc, .int .i64 qn1, .int .i64 qlost, .int .i64 qofr, .int .i64 qbyr, .int .u8 qset, .bool qfull, .slice qCA qcode.length qcc, .slice qNA qnames.length qnc] ∧ Fr No W wx)
 case first => as_aux_lemma =>
  obtain ⟨zm, hzm⟩ : ∃ z, (T.mk k n s A cap l r).v.may = z := ⟨_, rfl⟩
  have hm := fun W' f => HMx.out W' f
  rw [hzm] at hm
  have HM := hide hm
  have HZM := hide hzm
  clear hm hzm HMx
  by_cases hk : kind = 14
  · have hk' : (kind != 14) = false := by simp [hk]
    have HK := hide hk
    clear hk
    go_wp2_with fail
    refine (HM.out _ HF1.out).mono ?_
    rintro e w3 ⟨rfl, ff⟩
    replace HBX := hide (HBX.out.fr ff fun h => h)
    replace HBB := hide (HBB.out.fr ff fun h => h)
    replace HF1 := hide (HF1.out.trans ff)
    clear ff
    clear d0 d1 d2 d3 d4 d5 d6 d7 d8 d9 d10 d11 d12 d13 d14 d15 dq b0 b1 b2 b3 b4 b5 b6 b7 b8 b9 b10 b11 b12 b13 b14 b15 bq
    obtain ⟨d0, d1, d2, d3, d4, d5, d6, d7, d8, d9, d10, d11, d12, d13, d14, d15⟩ := HBX.out.cells16
    obtain ⟨b0, b1, b2, b3, b4, b5, b6, b7, b8, b9, b10, b11, b12, b13, b14, b15⟩ := HBB.out.cells16
    have dq := HBX.out.lt
    have bq := HBB.out.lt
    cases zm with
    | false =>
     go_wp2_with fail
     go_meet
     case rel => exact ⟨⟨true, rfl, ⟨fun _ => .inr HZM.out, fun _ => rfl⟩⟩, HBX.out, HBB.out, HF1.out⟩
    | true =>
     go_wp2_with fail
     go_meet
     case rel => exact ⟨⟨false, rfl, nofun, fun h => by
      rcases h with ⟨h, -⟩ | h
      · exact absurd HK.out h
      · exact absurd (HZM.out.symm.trans h) (by simp)⟩, HBX.out, HBB.out, HF1.out⟩
  · have hk' : (kind != 14) = true := by simp [hk]
    have HK := hide hk
    have hsd := HSd.out wc HF1.out home
    clear hk
    by_cases hs : 0 ≤ home ∧ home < (sides : Int)
    · rw [decide_eq_true hs] at hsd
      have HSD := hide hsd
      have HS := hide hs
      clear hs hsd
      go_wp2_with fail
      refine HSD.out.mono ?_
      rintro e w' ⟨rfl, rfl⟩
      go_wp2_with fail
      refine (HM.out _ HF1.out).mono ?_
      rintro e w3 ⟨rfl, ff⟩
      replace HBX := hide (HBX.out.fr ff fun h => h)
      replace HBB := hide (HBB.out.fr ff fun h => h)
      replace HF1 := hide (HF1.out.trans ff)
      clear ff
      clear d0 d1 d2 d3 d4 d5 d6 d7 d8 d9 d10 d11 d12 d13 d14 d15 dq b0 b1 b2 b3 b4 b5 b6 b7 b8 b9 b10 b11 b12 b13 b14 b15 bq
      obtain ⟨d0, d1, d2, d3, d4, d5, d6, d7, d8, d9, d10, d11, d12, d13, d14, d15⟩ := HBX.out.cells16
      obtain ⟨b0, b1, b2, b3, b4, b5, b6, b7, b8, b9, b10, b11, b12, b13, b14, b15⟩ := HBB.out.cells16
      have dq := HBX.out.lt
      have bq := HBB.out.lt
      cases zm with
      | false =>
       go_wp2_with fail
       go_meet
       case rel => exact ⟨⟨true, rfl, ⟨fun _ => .inr HZM.out, fun _ => rfl⟩⟩, HBX.out, HBB.out, HF1.out⟩
      | true =>
       go_wp2_with fail
       go_meet
       case rel => exact ⟨⟨false, rfl, nofun, fun h => by
        rcases h with ⟨-, h⟩ | h
        · exact absurd HS.out h
        · exact absurd (HZM.out.symm.trans h) (by simp)⟩, HBX.out, HBB.out, HF1.out⟩
    · rw [decide_eq_false hs] at hsd
      have HSD := hide hsd
      have HS := hide (show Tg.Bad3 sides ⟨kind, home, T.mk k n s A cap l r, VA, vc, vs, n1, lost, ofr, byr, set, full, CA, cc, code, NA, nc, names⟩ from .inl ⟨HK.out, hs⟩)
      clear hs hsd
      go_wp2_with fail
      refine HSD.out.mono ?_
      rintro e w' ⟨rfl, rfl⟩
      go_wp2_with fail
      go_meet
      case rel => exact ⟨⟨true, rfl, ⟨fun _ => HS.out, fun _ => rfl⟩⟩, HBX.out, HBB.out, HF1.out⟩
 obtain ⟨⟨c3, rfl, hc3⟩, hbx, hbb, hff⟩ := hcut
 have HC3 := hide hc3
 have HBX := hide hbx
 have HBB := hide hbb
 have HF1 := hide hff
 clear hc3 d0 d1 d2 d3 d4 d5 d6 d7 d8 d9 d10 d11 d12 d13 d14 d15 dq b0 b1 b2 b3 b4 b5 b6 b7 b8 b9 b10 b11 b12 b13 b14 b15 bq
 obtain ⟨d0, d1, d2, d3, d4, d5, d6, d7, d8, d9, d10, d11, d12, d13, d14, d15⟩ := hbx.cells16
 obtain ⟨b0, b1, b2, b3, b4, b5, b6, b7, b8, b9, b10, b11, b12, b13, b14, b15⟩ := hbb.cells16
 have dq := hbx.lt
 have bq := hbb.lt
 clear hbx hbb hff
 cases c3 with
 | true =>
  clear HBX HBB
  go_wp2
  rw [← HQ.out]
  exact ⟨false, rfl, ⟨nofun, fun h => absurd (HC3.out.1 trivial) (HFRM.out.1 h).2.2.1⟩, HF1.out⟩
 | false =>
 have NB3 := hide (fun h => Bool.noConfusion (HC3.out.2 h) : ¬ Tg.Bad3 sides ⟨kind, home, T.mk k n s A cap l r, VA, vc, vs, n1, lost, ofr, byr, set, full, CA, cc, code, NA, nc, names⟩)
 clear HC3
 go_upto_region 8 with (fail)
 obtain ⟨z4, hz4⟩ : ∃ z, (ofV (vs.map T.v)).2 = z := ⟨_, rfl⟩
 go_cut [6, 7] from 13 to 192 (fun u6 u7 wx => u7 = .int .i64 z4 ∧ Blk wx W.heap.size 138 #[.int .u8 kind, .int .i64 home, .int .u8 k, .int .i64 n, .string s, .slice A l.length cap, .int .i64 r, .slice VA vs.length vc, .int .i64 n1, .int .i64 lost, .int .i64 ofr, .int .i64 byr, .int .u8 set, .bool full, .slice CA code.length cc, .slice NA names.length nc] ∧ Blk wx gb 138 #[.int .u8 qkind, .int .i64 qhome, .int .u8 qk, .int .i64 qn, .string qs, .slice qA ql.length qcap, .int .i64 qr, .slice qVA qvs.length qvc, .int .i64 qn1, .int .i64 qlost, .int .i64 qofr, .int .i64 qbyr, .int .u8 qset, .bool qfull, .slice qCA qcode.length qcc, .slice qNA qnames.length qnc] ∧ Fr No W wx)
 case first => as_aux_lemma =>
  have hof := HOf.out _ HF1.out
  change Calls Tryz.prog 209 #[.slice VA vs.length vc] _ (OwnE2 (ofV (vs.map T.v)).1 (ofV (vs.map T.v)).2 _) at hof
  rw [hz4] at hof
  have HOF := hide hof
  clear hof hz4 HMx HMn HOf
  go_wp2_with fail
  refine (HOF.out).mono ?_
  rintro e w3 ⟨⟨k9, n9, s9, A9, cap9, l9, r9⟩, rfl, -, -, ff⟩
  rw [T.val_mk]
  replace ff := ff.alloc (.cells #[.int .u8 k9, .int .i64 n9, .string s9, .slice A9 l9.length cap9, .int .i64 r9] 28)
  replace HBX := hide (HBX.out.fr ff fun h => h)
  replace HBB := hide (HBB.out.fr ff fun h => h)
  replace HF1 := hide (HF1.out.trans ff)
  clear ff
  clear d0 d1 d2 d3 d4 d5 d6 d7 d8 d9 d10 d11 d12 d13 d14 d15 dq b0 b1 b2 b3 b4 b5 b6 b7 b8 b9 b10 b11 b12 b13 b14 b15 bq
  obtain ⟨d0, d1, d2, d3, d4, d5, d6, d7, d8, d9, d10, d11, d12, d13, d14, d15⟩ := HBX.out.cells16
  obtain ⟨b0, b1, b2, b3, b4, b5, b6, b7, b8, b9, b10, b11, b12, b13, b14, b15⟩ := HBB.out.cells16
  have dq := HBX.out.lt
  have bq := HBB.out.lt
  go_wp2_with fail
  go_meet
  case rel => exact ⟨rfl, HBX.out, HBB.out, HF1.out⟩
 obtain ⟨rfl, hbx, hbb, hff⟩ := hcut
 have HBX := hide hbx
 have HBB := hide hbb
 have HF1 := hide hff
 have HZ4 := hide hz4
 clear d0 d1 d2 d3 d4 d5 d6 d7 d8 d9 d10 d11 d12 d13 d14 d15 dq b0 b1 b2 b3 b4 b5 b6 b7 b8 b9 b10 b11 b12 b13 b14 b15 bq hz4
 obtain ⟨d0, d1, d2, d3, d4, d5, d6, d7, d8, d9, d10, d11, d12, d13, d14, d15⟩ := hbx.cells16
 have dq := hbx.lt
 clear hbx hbb hff
 go_upto_region 9 with (fail)
 go_cut [135] from 13 to 192 (fun u wx => (∃ c : Bool, u = .bool c ∧ (c = true ↔ Tg.Bad4 ⟨kind, home, T.mk k n s A cap l r, VA, vc, vs, n1, lost, ofr, byr, set, full, CA, cc, code, NA, nc, names⟩)) ∧ Blk wx W.heap.size 138 #[.int .u8 kind, .int .i64 home, .int .u8 k, .int .i64 n, .string s, .slice A l.length cap, .int .i64 r, .slice VA vs.length vc, .int .i64 n1, .int .i64 lost, .int .i64 ofr, .int .i64 byr, .int .u8 set, .bool full, .slice CA code.length cc, .slice NA names.length nc] ∧ Blk wx gb 138 #[.int .u8 qkind, .int .i64 qhome, .int .u8 qk, .int .i64 qn, .string qs, .slice qA ql.length qcap, .int .i64 qr, .slice qVA qvs.length qvc, .int .i64 qn1, .int .i64 qlost, .int .i64 qofr, .int .i64 qbyr, .int .u8 qset, .bool qfull, .slice qCA qcode.length qcc, .slice qNA qnames.length qnc] ∧ Fr No W wx)
 case first => as_aux_lemma =>
  by_cases hz : z4 ≠ 0
  · have hz' : (z4 != 0) = true := by simp [hz]
    have HH := hide (show Tg.Bad4 ⟨kind, home, T.mk k n s A cap l r, VA, vc, vs, n1, lost, ofr, byr, set, full, CA, cc, code, NA, nc, names⟩ from .inl (by rw [HZ4.out]; exact hz))
    clear hz
    go_wp2_with fail
    go_meet
    case rel => exact ⟨⟨true, rfl, ⟨fun _ => HH.out, fun _ => rfl⟩⟩, HBX.out, HBB.out, HF1.out⟩
  have hz0 : z4 = 0 := by simpa using hz
  subst hz0
  clear hz
  by_cases hn : 64 < names.length
  · have hn' : decide ((names.length : Int) > 64) = true := by simp; omega
    have HH := hide (show Tg.Bad4 ⟨kind, home, T.mk k n s A cap l r, VA, vc, vs, n1, lost, ofr, byr, set, full, CA, cc, code, NA, nc, names⟩ from .inr hn)
    clear hn
    go_wp2_with fail
    go_meet
    case rel => exact ⟨⟨true, rfl, ⟨fun _ => HH.out, fun _ => rfl⟩⟩, HBX.out, HBB.out, HF1.out⟩
  have hn' : decide ((names.length : Int) > 64) = false := by simp; omega
  have HH := hide (show ¬ Tg.Bad4 ⟨kind, home, T.mk k n s A cap l r, VA, vc, vs, n1, lost, ofr, byr, set, full, CA, cc, code, NA, nc, names⟩ from fun h => h.elim (fun h => h HZ4.out) hn)
  clear hn
  go_wp2_with fail
  go_meet
  case rel => exact ⟨⟨false, rfl, nofun, fun h => absurd h HH.out⟩, HBX.out, HBB.out, HF1.out⟩
 obtain ⟨⟨c4, rfl, hc4⟩, hbx, hbb, hff⟩ := hcut
 have HC4 := hide hc4
 have HBX := hide hbx
 have HBB := hide hbb
 have HF1 := hide hff
 clear hc4 d0 d1 d2 d3 d4 d5 d6 d7 d8 d9 d10 d11 d12 d13 d14 d15 dq
 obtain ⟨d0, d1, d2, d3, d4, d5, d6, d7, d8, d9, d10, d11, d12, d13, d14, d15⟩ := hbx.cells16
 obtain ⟨b0, b1, b2, b3, b4, b5, b6, b7, b8, b9, b10, b11, b12, b13, b14, b15⟩ := hbb.cells16
 have dq := hbx.lt
 have bq := hbb.lt
 clear hbx hbb hff
 cases c4 with
 | true =>
  clear HBX HBB
  go_wp2
  rw [← HQ.out]
  exact ⟨false, rfl, ⟨nofun, fun h => absurd (HC4.out.1 trivial) (HFRM.out.1 h).2.2.2.1⟩, HF1.out⟩
 | false =>
 have NB4 := hide (fun h => Bool.noConfusion (HC4.out.2 h) : ¬ Tg.Bad4 ⟨kind, home, T.mk k n s A cap l r, VA, vc, vs, n1, lost, ofr, byr, set, full, CA, cc, code, NA, nc, names⟩)
 clear HC4
 have hln : names.length ≤ 64 := by
  have := NB4.out
  exact Decidable.byContradiction fun h => this (.inr (by show 64 < names.length; omega))
 clear HZ4 HL1 HL2 HZ1 HZ2 HSd HMx HOf HBB
 go_wp2_with fail
 go_loopw [139] (fun i wr => ∃ j : Nat, j ≤ names.length ∧ i = .int .i64 j ∧ (∀ y ∈ names.take j, y.2.v.may = true) ∧ Blk wr W.heap.size 138 #[.int .u8 kind, .int .i64 home, .int .u8 k, .int .i64 n, .string s, .slice A l.length cap, .int .i64 r, .slice VA vs.length vc, .int .i64 n1, .int .i64 lost, .int .i64 ofr, .int .i64 byr, .int .u8 set, .bool full, .slice CA code.length cc, .slice NA names.length nc] ∧ Fr No W wr) (fun i _ => names.length - (intOf i).toNat)
 case atStart => exact ⟨0, Nat.zero_le _, rfl, by simp, HBX.out, HF1.out⟩
 case round =>
  obtain ⟨j, hj, rfl, hmj, hbr, hfr⟩ := hrel
  clear d0 d1 d2 d3 d4 d5 d6 d7 d8 d9 d10 d11 d12 d13 d14 d15 dq
  have HMJ := hide hmj
  have HBR := hide hbr
  have HFR := hide hfr
  by_cases hlt : j < names.length
  · have hmem := List.getElem_mem hlt
    have htk : names.take (j + 1) = names.take j ++ [names[j]] := by rw [List.take_succ_eq_append_getElem hlt]
    obtain ⟨b, o, rfl, hb0, hb1, hce⟩ := HX.out.names.at_ (fun h => by have h' : names = [] := h; rw [h'] at hlt; simp at hlt)
    have hc5 : ∀ i u, (nmCells names[j])[i]? = some u → wr.cell? ⟨b, o + j * 6 + i, none⟩ = some u := fun i u hu => (hfr.cell (by omega) fun h => h).trans (hce j names[j] (List.getElem?_eq_getElem hlt) i u hu)
    have hM := fun W' f => HMn.out names[j] hmem W' f
    have hbad : names[j].2.v.may = false → Tg.Bad5 ⟨kind, home, T.mk k n s A cap l r, VA, vc, vs, n1, lost, ofr, byr, set, full, CA, cc, code, (some ⟨b, o, none⟩), nc, names⟩ := fun h => ⟨names[j], hmem, h⟩
    generalize names[j] = xj at *
    obtain ⟨nm, ⟨k3, n3, s3, A3, cap3, l3, r3⟩⟩ := xj
    rw [T.val_mk] at hM
    have x0 : wr.cell? ⟨b, o + j * 6, none⟩ = some (.string nm) := hc5 0 _ rfl
    have x1 : wr.cell? ⟨b, o + j * 6 + 1, none⟩ = some (.int .u8 k3) := hc5 1 _ rfl
    have x2 : wr.cell? ⟨b, o + j * 6 + 2, none⟩ = some (.int .i64 n3) := hc5 2 _ rfl
    have x3 : wr.cell? ⟨b, o + j * 6 + 3, none⟩ = some (.string s3) := hc5 3 _ rfl
    have x4 : wr.cell? ⟨b, o + j * 6 + 4, none⟩ = some (.slice A3 l3.length cap3) := hc5 4 _ rfl
    have x5 : wr.cell? ⟨b, o + j * 6 + 5, none⟩ = some (.int .i64 r3) := hc5 5 _ rfl
    have hbl : b < wr.heap.size := by have := hfr.size; omega
    obtain ⟨z, hz⟩ : ∃ z, (T.mk k3 n3 s3 A3 cap3 l3 r3).v.may = z := ⟨_, rfl⟩
    have hM' := fun W' f => hM W' f
    simp only [hz] at hM' hbad
    have HM := hide hM'
    have HZ := hide hz
    have HBD := hide hbad
    have HTK := hide htk
    clear hM hM' hz hbad htk hce hc5 hmem hmj hbr hfr HMn
    go_wp2_with fail
    refine (HM.out _ (HFR.out.alloc (.cells #[.string nm, .int .u8 k3, .int .i64 n3, .string s3, .slice A3 l3.length cap3, .int .i64 r3] 260))).mono ?_
    rintro e w3 ⟨rfl, ff⟩
    have hb3 := (HBR.out.alloc (.cells #[.string nm, .int .u8 k3, .int .i64 n3, .string s3, .slice A3 l3.length cap3, .int .i64 r3] 260)).fr ff fun h => h
    have hf3 := (HFR.out.alloc (.cells #[.string nm, .int .u8 k3, .int .i64 n3, .string s3, .slice A3 l3.length cap3, .int .i64 r3] 260)).trans ff
    have HB3 := hide hb3
    have HF3 := hide hf3
    clear hb3 hf3 ff x0 x1 x2 x3 x4 x5
    cases z with
    | false =>
     have HH := hide (HBD.out rfl)
     clear HBD
     go_wp2
     rw [← HQ.out]
     exact ⟨false, rfl, ⟨nofun, fun h => absurd HH.out (HFRM.out.1 h).2.2.2.2.1⟩, HF3.out⟩
    | true =>
     go_wp2
     go_roundw
     case rel =>
      refine ⟨j + 1, hlt, by go_num, fun y hy => ?_, HB3.out, HF3.out⟩
      rw [HTK.out] at hy
      rcases List.mem_append.1 hy with hy | hy
      · exact HMJ.out y hy
      · simp only [List.mem_singleton] at hy; subst hy; exact HZ.out
     case measure => simp [intOf]; omega
  · obtain rfl : names.length = j := by omega
    have NB5 := hide (show ¬ Tg.Bad5 ⟨kind, home, T.mk k n s A cap l r, VA, vc, vs, n1, lost, ofr, byr, set, full, CA, cc, code, NA, nc, names⟩ from fun ⟨y, hy, h⟩ => by
     have := HMJ.out y (by rw [List.take_length]; exact hy)
     rw [h] at this
     cases this)
    have hfit := HFIT.out
    have hk0 := hfit.kind
    have hst := hfit.set
    dsimp only at hk0 hst
    clear hmj HMJ hfit HMn
    obtain ⟨d0, d1, d2, d3, d4, d5, d6, d7, d8, d9, d10, d11, d12, d13, d14, d15⟩ := hbr.cells16
    have dq := hbr.lt
    clear hbr hfr
    by_cases hk3 : kind = 3 ∨ kind = 8 ∨ kind = 9
    · have hk' : kind ≠ 10 ∧ kind ≠ 12 ∧ kind ≠ 14 := by omega
      have hlast : Tg.Last ⟨kind, home, T.mk k n s A cap l r, VA, vc, vs, n1, lost, ofr, byr, set, full, CA, cc, code, NA, nc, names⟩ ↔ (0 ≤ n1 ∧ n1 ≤ 9007199254740992 ∧ 0 ≤ lost ∧ lost ≤ n1) :=
       ⟨fun h => h.1 hk3, fun h => ⟨fun _ => h, fun h => absurd h hk'.1, fun h => absurd h hk'.2.1, fun h => absurd h hk'.2.2⟩⟩
      have HLAST := hide hlast
      clear hlast hk'
      by_cases t1 : 0 ≤ n1
      case neg =>
       have e1 : decide (0 ≤ n1) = false := by simpa using t1
       have HH := hide (show ¬ Tg.Last ⟨kind, home, T.mk k n s A cap l r, VA, vc, vs, n1, lost, ofr, byr, set, full, CA, cc, code, NA, nc, names⟩ from fun h => t1 (HLAST.out.1 h).1)
       clear t1 HLAST
       rcases hk3 with rfl | rfl | rfl
       all_goals
        go_wp2
        rw [← HQ.out]
        exact ⟨false, rfl, ⟨nofun, fun h => absurd (HFRM.out.1 h).2.2.2.2.2 HH.out⟩, HFR.out⟩
      have e1 : decide (0 ≤ n1) = true := by simpa using t1
      by_cases t2 : n1 ≤ 9007199254740992
      case neg =>
       have e2 : decide (n1 ≤ 9007199254740992) = false := by simpa using t2
       have HH := hide (show ¬ Tg.Last ⟨kind, home, T.mk k n s A cap l r, VA, vc, vs, n1, lost, ofr, byr, set, full, CA, cc, code, NA, nc, names⟩ from fun h => t2 (HLAST.out.1 h).2.1)
       clear t1 t2 HLAST
       rcases hk3 with rfl | rfl | rfl
       all_goals
        go_wp2
        rw [← HQ.out]
        exact ⟨false, rfl, ⟨nofun, fun h => absurd (HFRM.out.1 h).2.2.2.2.2 HH.out⟩, HFR.out⟩
      have e2 : decide (n1 ≤ 9007199254740992) = true := by simpa using t2
      by_cases t3 : 0 ≤ lost
      case neg =>
       have e3 : decide (0 ≤ lost) = false := by simpa using t3
       have HH := hide (show ¬ Tg.Last ⟨kind, home, T.mk k n s A cap l r, VA, vc, vs, n1, lost, ofr, byr, set, full, CA, cc, code, NA, nc, names⟩ from fun h => t3 (HLAST.out.1 h).2.2.1)
       clear t1 t2 t3 HLAST
       rcases hk3 with rfl | rfl | rfl
       all_goals
        go_wp2
        rw [← HQ.out]
        exact ⟨false, rfl, ⟨nofun, fun h => absurd (HFRM.out.1 h).2.2.2.2.2 HH.out⟩, HFR.out⟩
      have e3 : decide (0 ≤ lost) = true := by simpa using t3
      by_cases t4 : lost ≤ n1
      case neg =>
       have e4 : decide (lost ≤ n1) = false := by simpa using t4
       have HH := hide (show ¬ Tg.Last ⟨kind, home, T.mk k n s A cap l r, VA, vc, vs, n1, lost, ofr, byr, set, full, CA, cc, code, NA, nc, names⟩ from fun h => t4 (HLAST.out.1 h).2.2.2)
       clear t1 t2 t3 t4 HLAST
       rcases hk3 with rfl | rfl | rfl
       all_goals
        go_wp2
        rw [← HQ.out]
        exact ⟨false, rfl, ⟨nofun, fun h => absurd (HFRM.out.1 h).2.2.2.2.2 HH.out⟩, HFR.out⟩
      have e4 : decide (lost ≤ n1) = true := by simpa using t4
      have HH := hide (HLAST.out.2 ⟨t1, t2, t3, t4⟩)
      clear t1 t2 t3 t4 HLAST
      rcases hk3 with rfl | rfl | rfl
      all_goals
       go_wp2
       rw [← HQ.out]
       exact ⟨true, rfl, ⟨fun _ => HFRM.out.2 ⟨NB1.out, NB2.out, NB3.out, NB4.out, NB5.out, HH.out⟩, fun _ => rfl⟩, HFR.out⟩
    by_cases hk10 : kind = 10
    · subst hk10
      have hlast : Tg.Last ⟨10, home, T.mk k n s A cap l r, VA, vc, vs, n1, lost, ofr, byr, set, full, CA, cc, code, NA, nc, names⟩ ↔ (full = true ∨ blankB (T.mk k n s A cap l r).v = true) :=
       ⟨fun h => h.2.1 rfl, fun h => ⟨fun h' => (by rcases h' with h' | h' | h' <;> cases h'), fun _ => h, (nomatch ·), (nomatch ·)⟩⟩
      cases full with
      | true =>
       have HH := hide (hlast.2 (.inl rfl))
       clear hlast
       go_wp2
       rw [← HQ.out]
       exact ⟨true, rfl, ⟨fun _ => HFRM.out.2 ⟨NB1.out, NB2.out, NB3.out, NB4.out, NB5.out, HH.out⟩, fun _ => rfl⟩, HFR.out⟩
      | false =>
       obtain ⟨z1, hz1⟩ : ∃ z, blankB (T.mk k n s A cap l r).v = z := ⟨_, rfl⟩
       have hl1 := HBl.out (T.mk k n s A cap l r)
       rw [hz1, T.val_mk] at hl1
       rw [hz1] at hlast
       have HL1 := hide hl1
       have HLAST := hide hlast
       clear hl1 hz1 hlast HBl
       cases z1 with
       | false =>
        have HH := hide (show ¬ Tg.Last ⟨10, home, T.mk k n s A cap l r, VA, vc, vs, n1, lost, ofr, byr, set, false, CA, cc, code, NA, nc, names⟩ from fun h => by
         rcases HLAST.out.1 h with h | h <;> cases h)
        clear HLAST
        go_wp2_with fail
        refine (HL1.out _).mono ?_
        rintro e w3 ⟨rfl, ff⟩
        have HF3 := hide (HFR.out.trans ff)
        clear ff
        go_wp2
        rw [← HQ.out]
        exact ⟨false, rfl, ⟨nofun, fun h => absurd (HFRM.out.1 h).2.2.2.2.2 HH.out⟩, HF3.out⟩
       | true =>
        have HH := hide (HLAST.out.2 (.inr rfl))
        clear HLAST
        go_wp2_with fail
        refine (HL1.out _).mono ?_
        rintro e w3 ⟨rfl, ff⟩
        have HF3 := hide (HFR.out.trans ff)
        clear ff
        go_wp2
        rw [← HQ.out]
        exact ⟨true, rfl, ⟨fun _ => HFRM.out.2 ⟨NB1.out, NB2.out, NB3.out, NB4.out, NB5.out, HH.out⟩, fun _ => rfl⟩, HF3.out⟩
    by_cases hk12 : kind = 12
    · subst hk12
      have hlast : Tg.Last ⟨12, home, T.mk k n s A cap l r, VA, vc, vs, n1, lost, ofr, byr, set, full, CA, cc, code, NA, nc, names⟩ ↔ ((code.map G.ssz).sum ≤ 512 ∧ ∀ y ∈ code, y.sok = true) :=
       ⟨fun h => h.2.2.1 rfl, fun h => ⟨fun h' => (by rcases h' with h' | h' | h' <;> cases h'), (nomatch ·), fun _ => h, (nomatch ·)⟩⟩
      have hfa := (Fr.refl No wr).alloc (.cells #[.int .i64 0] 3)
      have hfw := HFR.out.trans hfa
      have hbl := Blk.new wr 3 #[.int .i64 0]
      have hsm := small_any code (wr.alloc (.cells #[.int .i64 0] 3)) lo hi wr.heap.size 0 CA cc (HX.out.code.fr hfw hh fun _ _ _ h => h) (Nat.le_trans hh HFR.out.size) ⟨hbl.cell 0, hbl.frozen 0, hbl.lt, by omega⟩
      have HSM := hide hsm
      have HLAST := hide hlast
      have HFW := hide hfw
      have hwz := HFR.out.size
      clear hsm hlast hfa hfw hbl HBl
      go_wp2_with fail
      refine HSM.out.mono ?_
      rintro e w3 ⟨z, rfl, ff, hz, -⟩
      have hf3 : Fr No W w3 := HFW.out.trans' ff fun i hi h => by have h' : i = wr.heap.size := h; omega
      have HF3 := hide hf3
      rw [Nat.zero_add] at hz
      have HZ := hide (hz.trans HLAST.out.symm)
      clear ff hf3 hz HLAST
      cases z with
      | false =>
       have HH := hide (show ¬ Tg.Last ⟨12, home, T.mk k n s A cap l r, VA, vc, vs, n1, lost, ofr, byr, set, full, CA, cc, code, NA, nc, names⟩ from fun h => Bool.noConfusion (HZ.out.2 h))
       clear HZ
       go_wp2
       rw [← HQ.out]
       exact ⟨false, rfl, ⟨nofun, fun h => absurd (HFRM.out.1 h).2.2.2.2.2 HH.out⟩, HF3.out⟩
      | true =>
       have HH := hide (HZ.out.1 rfl)
       clear HZ
       go_wp2
       rw [← HQ.out]
       exact ⟨true, rfl, ⟨fun _ => HFRM.out.2 ⟨NB1.out, NB2.out, NB3.out, NB4.out, NB5.out, HH.out⟩, fun _ => rfl⟩, HF3.out⟩
    by_cases hk14 : kind = 14
    · subst hk14
      obtain ⟨sn, rfl⟩ : ∃ sn : Nat, set = (sn : Int) := ⟨set.toNat, by omega⟩
      have hlast : Tg.Last ⟨14, home, T.mk k n s A cap l r, VA, vc, vs, n1, lost, ofr, byr, (sn : Int), full, CA, cc, code, NA, nc, names⟩ ↔ sn < 64 :=
       ⟨fun h => by have : (sn : Int) ≤ 63 := h.2.2.2 rfl; omega, fun h => ⟨fun h' => (by rcases h' with h' | h' | h' <;> cases h'), (nomatch ·), (nomatch ·), fun _ => by show (sn : Int) ≤ 63; omega⟩⟩
      have hmy := May_w sn (by omega) wr
      have HLAST := hide hlast
      clear hlast HBl
      by_cases hs : sn < 64
      · rw [decide_eq_true hs] at hmy
        have HMY := hide hmy
        have HH := hide (HLAST.out.2 hs)
        clear hmy hs HLAST
        go_wp2_with fail
        refine HMY.out.mono ?_
        rintro e w' ⟨rfl, rfl⟩
        go_wp2
        rw [← HQ.out]
        exact ⟨true, rfl, ⟨fun _ => HFRM.out.2 ⟨NB1.out, NB2.out, NB3.out, NB4.out, NB5.out, HH.out⟩, fun _ => rfl⟩, HFR.out⟩
      · rw [decide_eq_false hs] at hmy
        have HMY := hide hmy
        have HH := hide (show ¬ Tg.Last ⟨14, home, T.mk k n s A cap l r, VA, vc, vs, n1, lost, ofr, byr, (sn : Int), full, CA, cc, code, NA, nc, names⟩ from fun h => hs (HLAST.out.1 h))
        clear hmy hs HLAST
        go_wp2_with fail
        refine HMY.out.mono ?_
        rintro e w' ⟨rfl, rfl⟩
        go_wp2
        rw [← HQ.out]
        exact ⟨false, rfl, ⟨nofun, fun h => absurd (HFRM.out.1 h).2.2.2.2.2 HH.out⟩, HFR.out⟩
    have HH := hide (show Tg.Last ⟨kind, home, T.mk k n s A cap l r, VA, vc, vs, n1, lost, ofr, byr, set, full, CA, cc, code, NA, nc, names⟩ from ⟨fun h => absurd h hk3, fun h => absurd h hk10, fun h => absurd h hk12, fun h => absurd h hk14⟩)
    have e3 : (kind == 3) = false := by simp; omega
    have e8 : (kind == 8) = false := by simp; omega
    have e9 : (kind == 9) = false := by simp; omega
    have e10 : (kind == 10) = false := by simp; omega
    have e12 : (kind == 12) = false := by simp; omega
    have e14 : (kind == 14) = false := by simp; omega
    clear hk3 hk10 hk12 hk14 HBl
    go_wp2
    rw [← HQ.out]
    exact ⟨true, rfl, ⟨fun _ => HFRM.out.2 ⟨NB1.out, NB2.out, NB3.out, NB4.out, NB5.out, HH.out⟩, fun _ => rfl⟩, HFR.out⟩
end Go.Proofs.YtlejelbefmkakaaGreat
