/- Texts joined: Gd, Gl, I0, I2. -/
import Derived.Test.YtlejelbefmkakaaGreatJn1
import Derived.Test.YtlejelbefmkakaaGreatJn9
import Derived.Test.YtlejelbefmkakaaGreatJn12
import Derived.Test.YtlejelbefmkakaaGreatJn13
import Derived.Test.YtlejelbefmkakaaGreatJn14
import Derived.Test.YtlejelbefmkakaaGreatJn15
import Derived.Test.YtlejelbefmkakaaGreatJn16
import Derived.Test.YtlejelbefmkakaaGreatJn17
import Derived.Deep.RegionHeld3
namespace Go.Proofs.YtlejelbefmkakaaGreat
open Go.RowKit
theorem bare_any (kind home k n : Int) (s : ByteArray) (A : Option Addr) (len cap : Nat) (r : Int) (VA : Option Addr) (vl vc : Nat) (n1 lost ofr byr set : Int) (full : Bool) (CA : Option Addr) (cl cc : Nat) (NA : Option Addr) (nl nc : Nat) (W : World) :
 Calls Tryz.prog 207 #[.agg (c16 kind home k n s A len cap r VA vl vc n1 lost ofr byr set full CA cl cc NA nl nc)] W fun e w' => e = .returned (.agg (bareC kind home k n s A len cap r VA vl vc n1 lost ofr byr set full CA cl cc NA nl nc)) ∧ Fr No W w' := by
 by_cases hGd1 : kind = 1 ∨ kind = 2 ∨ kind = 4 ∨ kind = 3
 · exact bare_gd1 kind home k n s A len cap r VA vl vc n1 lost ofr byr set full CA cl cc NA nl nc W hGd1
 by_cases hGd2 : kind = 6 ∨ kind = 11 ∨ kind = 7
 · exact bare_gd2 kind home k n s A len cap r VA vl vc n1 lost ofr byr set full CA cl cc NA nl nc W hGd2
 by_cases hGd3 : kind = 8 ∨ kind = 9
 · exact bare_gd3 kind home k n s A len cap r VA vl vc n1 lost ofr byr set full CA cl cc NA nl nc W hGd3
 by_cases hGd4 : kind = 10 ∨ kind = 12
 · exact bare_gd4 kind home k n s A len cap r VA vl vc n1 lost ofr byr set full CA cl cc NA nl nc W hGd4
 by_cases hGd5 : kind = 13 ∨ kind = 15
 · exact bare_gd5 kind home k n s A len cap r VA vl vc n1 lost ofr byr set full CA cl cc NA nl nc W hGd5
 refine bare_gd6 kind home k n s A len cap r VA vl vc n1 lost ofr byr set full CA cl cc NA nl nc W ?_
 omega
end Go.Proofs.YtlejelbefmkakaaGreat

namespace Go.Proofs.YtlejelbefmkakaaGreat
open Go.RowKit
structure LitPre (L p : Nat) (w : World) : Prop where
 cell : w.cell? ⟨L, 0, none⟩ = some (.int .i64 (p : Int))
 free : w.frozen? ⟨L, 0, none⟩ = false
 lt : L < w.heap.size
 le : p ≤ 512
def LitC (g : G) : Prop := ∀ (w : World) (lo hi L p d : Nat), g.In w lo hi → hi ≤ L → LitPre L p w → d ≤ 16 → Calls Tryz.prog 256 #[.agg g.c.toArray, .pointer (some ⟨L, 0, none⟩), .int .i64 (d : Int)] w (LitP L p d g w)
theorem LitPre.no {L p : Nat} {w w' : World} (h : LitPre L p w) (f : Fr No w w') : LitPre L p w' := ⟨(f.cell h.lt fun h => h).trans h.cell, (f.frozen h.lt fun h => h).trans h.free, Nat.lt_of_lt_of_le h.lt f.size, h.le⟩
theorem G.eok_iff {g : G} {p d : Nat} : g.eok p d = true ↔ g.esz ≤ p ∧ g.edp ≤ d := by simp [G.eok]
set_option maxRecDepth 100000 in
theorem little1_w {g : G} (hC : LitC g) (hty : Ty 308 g) (w : World) (lo hi L p d b1 b2 : Nat) (hin : g.In w lo hi) (hL : hi ≤ L) (hp : LitPre L p w) (hd : d ≤ 15)
 (h1 : Blk w b1 210 #[.pointer (some ⟨L, 0, none⟩)]) (h2 : Blk w b2 3 #[.int .i64 ((d : Int) + 1)]) :
 Calls Tryz.prog 277 #[.agg g.c.toArray, .pointer (some ⟨b1, 0, none⟩), .pointer (some ⟨b2, 0, none⟩)] w fun e w' => e = .returned (.bool (!g.eok (512 - p) d)) ∧ Fr (· = L) w w' ∧ (g.eok (512 - p) d = true → w'.cell? ⟨L, 0, none⟩ = some (.int .i64 ((p + g.esz : Nat) : Int)) ∧ w'.frozen? ⟨L, 0, none⟩ = false) := by
 obtain ⟨k, n, s, A, cap, l, rfl, -, -⟩ := ty_expr hty
 have hf := (Fr.refl No w).alloc (.cells #[.int .u8 k, .int .i64 n, .string s, .slice A l.length cap] 308)
 have hb := Blk.new w 308 #[.int .u8 k, .int .i64 n, .string s, .slice A l.length cap]
 have hhi : hi ≤ w.heap.size := by have := hp.lt; omega
 have hc := hC _ lo hi L p d (hin.no hf hhi) hL (hp.no hf) (by omega)
 unfold LitP at hc
 generalize (G.mk [.int .u8 k, .int .i64 n, .string s, .slice A l.length cap] [(A, l)]).eok (512 - p) d = q at *
 generalize hz : (G.mk [.int .u8 k, .int .i64 n, .string s, .slice A l.length cap] [(A, l)]).esz = z at *
 have c0 : w.cell? ⟨b1, 0, none⟩ = some (.pointer (some ⟨L, 0, none⟩)) := h1.cell 0
 have q0 := h1.lt
 have c1 : w.cell? ⟨b2, 0, none⟩ = some (.int .i64 ((d : Int) + 1)) := h2.cell 0
 have q1 := h2.lt
 have hw : IntKind.i64.wrap ((d : Int) + 1 - 1) = (d : Int) := by rw [show (d : Int) + 1 - 1 = (d : Int) by omega]; exact IntWalk.i64_in _ (by omega)
 have HC := hide hc
 have HF := hide hf
 clear hc hf hb h1 h2 hp hin hC hty
 show Calls Tryz.prog 277 #[.agg #[.int .u8 k, .int .i64 n, .string s, .slice A l.length cap], .pointer (some ⟨b1, 0, none⟩), .pointer (some ⟨b2, 0, none⟩)] w _
 go_enter Tryz.func277, Tryz.ntmps277
 go_wp2_with fail
 refine HC.out.mono ?_
 rintro e w' ⟨rfl, f, hy⟩
 go_wp2
 go_ret
 exact ⟨rfl, HF.out.no.trans f, hy⟩
theorem esT_zero (l : List G) : esT l 0 = 0 := by simp [esT]
structure LitI (L q d : Nat) (l : List G) (w : World) (j : Nat) (wr : World) : Prop where
 fr : Fr (· = L) w wr
 pre : LitPre L (q + esT l j) wr
 dp : ∀ x ∈ l.take j, x.edp ≤ d
set_option maxRecDepth 100000 in
set_option maxHeartbeats 4000000 in
theorem indexE_w {l : List G} (hC : ∀ x ∈ l, LitC x) (hty : ∀ x ∈ l, Ty 308 x) (w : World) (lo hi L q d b1 b2 : Nat) (A : Option Addr) (cap : Nat) (hin : (G.row A l).In w lo hi) (hL : hi ≤ L) (hp : LitPre L q w) (hd : d ≤ 15)
 (h1 : Blk w b1 210 #[.pointer (some ⟨L, 0, none⟩)]) (h2 : Blk w b2 3 #[.int .i64 ((d : Int) + 1)]) (hne : b1 ≠ L ∧ b2 ≠ L) (hlen : l.length * 56 ≤ 140737488351232) :
 Calls Tryz.prog 284 #[.slice A l.length cap, .func (.func 277) #[] #[.pointer (some ⟨b1, 0, none⟩), .pointer (some ⟨b2, 0, none⟩)]] w fun e w' => Fr (· = L) w w' ∧ ∃ z : Int, e = .returned (.int .i64 z) ∧
  ((0 ≤ z ∧ ¬ (q + (l.map G.esz).sum ≤ 512 ∧ ∀ x ∈ l, x.edp ≤ d)) ∨ (z = -1 ∧ (∀ x ∈ l, x.edp ≤ d) ∧ LitPre L (q + (l.map G.esz).sum) w')) := by
 have hst : LitI L q d l w 0 w := ⟨Fr.refl _ w, by rw [esT_zero]; exact hp, by simp⟩
 have HST := hide hst
 have HC := hide fun (x : G) (hx : x ∈ l) (w' : World) (f : Fr (· = L) w w') (p : Nat) (hp' : LitPre L p w') => little1_w (hC x hx) (hty x hx) w' lo hi L p d b1 b2 (((G.row_in.1 hin).2 x hx).fr f (by have := hp.lt; omega) fun i h0 h1 h => by have h' : i = L := h; omega) hL hp' hd (h1.fr f hne.1) (h2.fr f hne.2)
 have HR := hide fun (w' : World) (f : Fr (· = L) w w') => hin.fr f (by have := hp.lt; omega) fun i h0 h1 h => by have h' : i = L := h; omega
 have HTY := hide hty
 clear hst hC hty hin hp h1 h2
 go_enter Tryz.func284, Tryz.ntmps284
 go_wp2_with fail
 go_loopw [8] (fun i wr => ∃ j : Nat, j ≤ l.length ∧ i = .int .i64 j ∧ LitI L q d l w j wr) (fun i _ => l.length - (intOf i).toNat)
 case atStart => exact ⟨0, Nat.zero_le _, rfl, HST.out⟩
 case round =>
  obtain ⟨j, hj, rfl, inv⟩ := hrel
  by_cases hlt : j < l.length
  · obtain ⟨b, o, rfl, hb0, hb1, -, hce⟩ := G.row_at (HR.out wr inv.fr) hlt
    have hc := HC.out l[j] (List.getElem_mem hlt) wr inv.fr _ inv.pre
    have hes := esT_succ l j hlt
    have hle := esT_le l (j + 1)
    have htk : l.take (j + 1) = l.take j ++ [l[j]] := by rw [List.take_succ_eq_append_getElem hlt]
    have hmem : l[j] ∈ l := List.getElem_mem hlt
    obtain ⟨k1, n1, s1, A1, cap1, l1, hx, -, -⟩ := ty_expr (HTY.out _ (List.getElem_mem hlt))
    generalize l[j] = y at *
    subst hx
    have x0 : wr.cell? ⟨b, o + j * 4, none⟩ = some (.int .u8 k1) := hce 0 _ rfl
    have x1 : wr.cell? ⟨b, o + j * 4 + 1, none⟩ = some (.int .i64 n1) := hce 1 _ rfl
    have x2 : wr.cell? ⟨b, o + j * 4 + 2, none⟩ = some (.string s1) := hce 2 _ rfl
    have x3 : wr.cell? ⟨b, o + j * 4 + 3, none⟩ = some (.slice A1 l1.length cap1) := hce 3 _ rfl
    have hbl : b < wr.heap.size := by have := inv.pre.lt; omega
    have hc' : Calls Tryz.prog 277 #[.agg #[.int .u8 k1, .int .i64 n1, .string s1, .slice A1 l1.length cap1], .pointer (some ⟨b1, 0, none⟩), .pointer (some ⟨b2, 0, none⟩)] wr _ := hc
    clear hc
    have hiff := G.eok_iff (g := G.mk [.int .u8 k1, .int .i64 n1, .string s1, .slice A1 l1.length cap1] [(A1, l1)]) (p := 512 - (q + esT l j)) (d := d)
    generalize hyy : G.mk [.int .u8 k1, .int .i64 n1, .string s1, .slice A1 l1.length cap1] [(A1, l1)] = y at *
    have hpl := inv.pre.le
    have HIV := hide inv
    have HTK := hide htk
    have HMEM := hide hmem
    have HES := hide hes
    have HLE := hide hle
    clear hce inv htk hmem hes hle hyy
    cases hq : y.eok (512 - (q + esT l j)) d with
    | false =>
     rw [hq] at hc' hiff
     have HC' := hide hc'
     have hno : ¬ (q + (l.map G.esz).sum ≤ 512 ∧ ∀ x ∈ l, x.edp ≤ d) := fun ⟨g1, g2⟩ => by
      have := g2 y HMEM.out
      have h1 := HES.out
      have h2 := HLE.out
      have h3 := hiff.2 ⟨by omega, this⟩
      cases h3
     have HNO := hide hno
     clear hc' hiff hno hq
     go_wp2_with fail
     refine HC'.out.mono ?_
     rintro e w2 ⟨rfl, f2, -⟩
     go_wp2
     go_ret
     exact ⟨HIV.out.fr.trans f2, _, rfl, .inl ⟨by omega, HNO.out⟩⟩
    | true =>
     rw [hq] at hc' hiff
     have HC' := hide hc'
     have hyes := hiff.1 rfl
     have HY := hide hyes
     clear hc' hiff hyes hq
     go_wp2_with fail
     refine HC'.out.mono ?_
     rintro e w2 ⟨rfl, f2, hy2⟩
     have HF2 := hide f2
     have HY2 := hide (hy2 (by simp))
     clear f2 hy2
     go_wp2
     go_roundw
     case rel =>
      have h1 := HES.out
      have h2 := HY.out
      have h3 := HY2.out
      have hiv := HIV.out
      refine ⟨j + 1, hlt, by go_num, hiv.fr.trans HF2.out, ⟨?_, h3.2, Nat.lt_of_lt_of_le hiv.pre.lt HF2.out.size, by omega⟩, fun x hx => ?_⟩
      · rw [h3.1, h1, Nat.add_assoc]
      · rw [HTK.out] at hx
        rcases List.mem_append.1 hx with hx | hx
        · exact hiv.dp x hx
        · simp at hx; subst hx; exact h2.2
     case measure => simp [intOf]; omega
  · obtain rfl : l.length = j := by omega
    have HIV := hide inv
    clear inv
    go_wp2
    go_ret
    have hiv := HIV.out
    refine ⟨hiv.fr, -1, rfl, .inr ⟨rfl, fun x hx => hiv.dp x (by rw [List.take_of_length_le (Nat.le_refl _)]; exact hx), ?_⟩⟩
    have := hiv.pre
    rwa [esT_all] at this
set_option maxRecDepth 100000 in
theorem containsE_w {l : List G} (hC : ∀ x ∈ l, LitC x) (hty : ∀ x ∈ l, Ty 308 x) (w : World) (lo hi L q d b1 b2 : Nat) (A : Option Addr) (cap : Nat) (hin : (G.row A l).In w lo hi) (hL : hi ≤ L) (hp : LitPre L q w) (hd : d ≤ 15)
 (h1 : Blk w b1 210 #[.pointer (some ⟨L, 0, none⟩)]) (h2 : Blk w b2 3 #[.int .i64 ((d : Int) + 1)]) (hne : b1 ≠ L ∧ b2 ≠ L) (hlen : l.length * 56 ≤ 140737488351232) :
 Calls Tryz.prog 276 #[.slice A l.length cap, .func (.func 277) #[] #[.pointer (some ⟨b1, 0, none⟩), .pointer (some ⟨b2, 0, none⟩)]] w fun e w' => Fr (· = L) w w' ∧ ∃ c : Bool, e = .returned (.bool c) ∧
  ((c = true ∧ ¬ (q + (l.map G.esz).sum ≤ 512 ∧ ∀ x ∈ l, x.edp ≤ d)) ∨ (c = false ∧ (∀ x ∈ l, x.edp ≤ d) ∧ LitPre L (q + (l.map G.esz).sum) w')) := by
 have HI := hide (indexE_w hC hty w lo hi L q d b1 b2 A cap hin hL hp hd h1 h2 hne hlen)
 clear hC hty hin hp h1 h2
 go_enter Tryz.func276, Tryz.ntmps276
 go_wp2_with fail
 refine HI.out.mono ?_
 rintro e w2 ⟨f2, z, rfl, hz⟩
 rcases hz with ⟨h0, hno⟩ | ⟨rfl, hy⟩
 · have hd1 : decide ((0 : Int) ≤ z) = true := by simpa using h0
   have HN := hide hno
   have HF := hide f2
   clear hno f2
   go_wp2
   go_ret
   exact ⟨HF.out, true, rfl, .inl ⟨rfl, HN.out⟩⟩
 · have HY := hide hy
   have HF := hide f2
   clear hy f2
   go_wp2
   go_ret
   exact ⟨HF.out, false, rfl, .inr ⟨rfl, HY.out⟩⟩
set_option maxRecDepth 100000 in
set_option maxHeartbeats 4000000 in
theorem little_any (g : G) : Ty 308 g → LitC g := by
 induction g using G.ind with
 | h c subs ih =>
  intro hty w lo hi L p d hin hL hp hd
  obtain ⟨k, n, s, A, cap, l, e, fit, hk⟩ := ty_expr hty
  injection e with e1 e2
  subst e1 e2
  have hC : ∀ x ∈ l, LitC x := fun x hx => ih A l (by simp) x hx (hk x hx)
  have hrow := G.in_rows.1 hin A l (by simp)
  have hes := G.esz_one [.int .u8 k, .int .i64 n, .string s, .slice A l.length cap] A l
  have hed := G.edp_one k [.int .i64 n, .string s, .slice A l.length cap] A l
  have hlen := fit.len1
  have hpl := hp.le
  have hw : IntKind.i64.wrap ((p : Int) + 1) = (p : Int) + 1 := IntWalk.i64_in _ (by omega)
  unfold LitP
  have hiff := G.eok_iff (g := G.mk [.int .u8 k, .int .i64 n, .string s, .slice A l.length cap] [(A, l)]) (p := 512 - p) (d := d)
  generalize hq : (G.mk [.int .u8 k, .int .i64 n, .string s, .slice A l.length cap] [(A, l)]).eok (512 - p) d = q at *
  generalize hz : (G.mk [.int .u8 k, .int .i64 n, .string s, .slice A l.length cap] [(A, l)]).esz = z at *
  rw [hes, hed] at hiff
  have hb0 := ((Blk.new w 308 #[.int .u8 k, .int .i64 n, .string s, .slice A l.length cap]).alloc (.cells #[.pointer (some ⟨L, 0, none⟩)] 210)).alloc (.cells #[.int .i64 (d : Int)] 3)
  have hb1 := (Blk.new' (w.alloc (.cells #[.int .u8 k, .int .i64 n, .string s, .slice A l.length cap] 308)) 210 #[.pointer (some ⟨L, 0, none⟩)] (g := w.heap.size + 1) (by simp)).alloc (.cells #[.int .i64 (d : Int)] 3)
  have hb2 := Blk.new' ((w.alloc (.cells #[.int .u8 k, .int .i64 n, .string s, .slice A l.length cap] 308)).alloc (.cells #[.pointer (some ⟨L, 0, none⟩)] 210)) 3 #[.int .i64 (d : Int)] (g := w.heap.size + 1 + 1) (by simp)
  have hf := (((Fr.refl No w).alloc (.cells #[.int .u8 k, .int .i64 n, .string s, .slice A l.length cap] 308)).alloc (.cells #[.pointer (some ⟨L, 0, none⟩)] 210)).alloc (.cells #[.int .i64 (d : Int)] 3)
  have hp0 := hp.no hf
  have hl0 := hp.lt
  have hl1 : L ≤ w.heap.size := by omega
  have hr0 := hrow.no hf (by omega)
  have HB0 := hide hb0
  have HB1 := hide hb1
  have HB2 := hide hb2
  have HF := hide hf
  have HP := hide hp
  have HR := hide hr0
  have HC := hide hC
  have HTY := hide hk
  have HP0 := hide hp0
  have HIFF := hide hiff
  have HES := hide hes
  clear hb0 hb1 hb2 hf hp hr0 hC hk hrow hin hty ih hes hed hiff hq hz fit hp0
  show Calls Tryz.prog 256 #[.agg #[.int .u8 k, .int .i64 n, .string s, .slice A l.length cap], .pointer (some ⟨L, 0, none⟩), .int .i64 (d : Int)] w _
  go_enter Tryz.func256, Tryz.ntmps256
  go_upto_region 1 with (fail)
  generalize hW0 : World.alloc (World.alloc (World.alloc w _) _) _ = W0 at *
  have c0 := HP0.out.cell
  have cf := HP0.out.free
  have cq := HP0.out.lt
  have c1 : W0.cell? ⟨w.heap.size + 1, 0, none⟩ = some (.pointer (some ⟨L, 0, none⟩)) := HB1.out.cell 0
  have q1 := HB1.out.lt
  go_upto_region 2 with (fail)
  have fs : Fr (· = L) W0 (W0.setCell ⟨L, 0, none⟩ (.int .i64 ((p : Int) + 1))) := (Fr.refl (· = L) W0).set (fun _ => rfl) _
  have hf1 : Fr (· = L) w (W0.setCell ⟨L, 0, none⟩ (.int .i64 ((p : Int) + 1))) := HF.out.no.trans fs
  have e0 : (W0.setCell ⟨L, 0, none⟩ (.int .i64 ((p : Int) + 1))).cell? ⟨L, 0, none⟩ = some (.int .i64 ((p : Int) + 1)) := by simp [go_sem, *]
  have ef : (W0.setCell ⟨L, 0, none⟩ (.int .i64 ((p : Int) + 1))).frozen? ⟨L, 0, none⟩ = false := by simp [go_sem, cf]
  have eq_ : L < (W0.setCell ⟨L, 0, none⟩ (.int .i64 ((p : Int) + 1))).heap.size := Nat.lt_of_lt_of_le cq fs.size
  have b0 := HB0.out.fr fs (by omega)
  have b1 := HB1.out.fr fs (by omega)
  have b2 := HB2.out.fr fs (by omega)
  have hrr := HR.out.fr fs (by have := HF.out.size; omega) fun i h0 h1 h => by have h' : i = L := h; omega
  generalize World.setCell W0 _ _ = W1 at *
  have HF1 := hide hf1
  have HRR := hide hrr
  have HB1' := hide b1
  have HB2' := hide b2
  have E := hide (And.intro e0 (And.intro ef eq_))
  have d0 : W1.cell? ⟨w.heap.size, 0, none⟩ = some (.int .u8 k) := b0.cell 0
  have d3 : W1.cell? ⟨w.heap.size, 3, none⟩ = some (.slice A l.length cap) := b0.cell 3
  have dq := b0.lt
  have c1' : W1.cell? ⟨w.heap.size + 1, 0, none⟩ = some (.pointer (some ⟨L, 0, none⟩)) := b1.cell 0
  have q1' := b1.lt
  have c2' : W1.cell? ⟨w.heap.size + 1 + 1, 0, none⟩ = some (.int .i64 (d : Int)) := b2.cell 0
  have q2' := b2.lt
  clear c0 cf cq c1 q1 fs hf1 b0 b1 b2 hrr ef hW0
  by_cases hp5 : p = 512
  · have hd : decide ((p : Int) + 1 > 512) = true := by simp; omega
    have hqf : q = false := by
     cases q with
     | false => rfl
     | true => have := (HIFF.out.1 rfl).1; omega
    subst hqf
    clear hp5
    go_wp2
    go_ret
    exact ⟨rfl, HF1.out, fun h => by cases h⟩
  · have hd : decide ((p : Int) + 1 > 512) = false := by simp; omega
    by_cases hkl : k ≠ 3 ∧ l = []
    · obtain ⟨hk3, rfl⟩ := hkl
      have hkb : (k != 3) = true := by simp [hk3]
      have hqt : q = true := HIFF.out.2 ⟨by simp; omega, by simp [hk3]⟩
      have hzz : z = 1 := by have := HES.out; simpa using this
      subst hqt hzz
      clear hp5
      go_wp2
      go_ret
      exact ⟨rfl, HF1.out, E.out.1, E.out.2.1⟩
    · have hkb : ((k != 3) = false) ∨ ((k != 3) = true ∧ ((l.length : Int) == 0) = false) := by
       by_cases hk3 : k = 3
       · exact .inl (by simp [hk3])
       · exact .inr ⟨by simp [hk3], by have : l ≠ [] := fun h => hkl ⟨hk3, h⟩; have := List.length_pos_iff.2 this; simp; omega⟩
      have hed : (if k ≠ 3 ∧ l = [] then 0 else 1 + top (l.map G.edp)) = 1 + top (l.map G.edp) := if_neg hkl
      have hif := HIFF.out
      rw [hed] at hif
      have HIF := hide hif
      clear hed hif hkl HIFF
      by_cases hd0 : d = 0
      · have hdb : ((d : Int) == 0) = true := by simp [hd0]
        have hqf : q = false := by
         cases q with
         | false => rfl
         | true => have := (HIF.out.1 rfl).2; omega
        subst hqf
        clear hp5 hd0
        rcases hkb with hkb | ⟨hkb, hlb⟩
        all_goals
         go_wp2
         go_ret
         first
          | exact ⟨rfl, HF1.out, fun h => by cases h⟩
          | exact HF1.out
      · obtain ⟨d', rfl⟩ : ∃ d', d = d' + 1 := ⟨d - 1, by omega⟩
        have hdb : (((d' + 1 : Nat) : Int) == 0) = false := by simp; omega
        have hcn := containsE_w HC.out HTY.out W1 lo hi L (p + 1) d' (w.heap.size + 1) (w.heap.size + 1 + 1) A cap HRR.out hL ⟨by rw [E.out.1]; simp, E.out.2.1, E.out.2.2, by omega⟩ (by omega) HB1'.out (by have := HB2'.out; simpa using this) (by omega) hlen
        have HCN := hide hcn
        clear hcn hp5 hd0 HC HTY HRR HB1' HB2' HR HB0 HB1 HB2 HP HP0
        rcases hkb with hkb | ⟨hkb, hlb⟩
        all_goals
         go_wp2_with fail
         refine HCN.out.mono ?_
         rintro e w2 ⟨f2, cc, rfl, hz⟩
         rcases hz with ⟨rfl, hno⟩ | ⟨rfl, hdp, hpre⟩
         · have hqf : q = false := by
            cases q with
            | false => rfl
            | true =>
             have h1 := HIF.out.1 rfl
             exact absurd ⟨by omega, fun x hx => by have := le_top (List.mem_map_of_mem (f := G.edp) hx); omega⟩ hno
           subst hqf
           have HF2 := hide f2
           clear hno f2
           go_wp2
           go_ret
           first
            | exact ⟨rfl, HF1.out.trans HF2.out, fun h => by cases h⟩
            | exact HF1.out.trans HF2.out
         · have htop : top (l.map G.edp) ≤ d' := top_le fun y hy => by
            obtain ⟨x, hx, rfl⟩ := List.mem_map.1 hy
            exact hdp x hx
           have hle := hpre.le
           have hqt : q = true := HIF.out.2 ⟨by omega, by omega⟩
           subst hqt
           have HF2 := hide f2
           have HPR := hide hpre
           clear hpre f2 hdp htop hle
           go_wp2
           go_ret
           have h1 := HPR.out
           have h2 := HES.out
           have e : p + 1 + (l.map G.esz).sum = p + z := by omega
           rw [e] at h1
           have h3 := h1.cell
           have h4 := h1.free
           first
            | exact ⟨rfl, HF1.out.trans HF2.out, fun _ => ⟨h3, h4⟩⟩
            | exact ⟨rfl, HF1.out.trans HF2.out, by simpa using h3, h4⟩
            | exact ⟨HF1.out.trans HF2.out, by simpa using h3, h4⟩
end Go.Proofs.YtlejelbefmkakaaGreat

namespace Go.Proofs.YtlejelbefmkakaaGreat
section
variable {P : Program} {ops : Array Oper} {Q : Exit → Act → World → Prop} {md : Region.Mode}
def upd (f : Nat → Bool) (i : Nat) : Nat → Bool := fun j => j == i || f j
def unl (l : List Bool) : Nat := (l.filter fun b => !b).length
theorem unl_set : ∀ (l : List Bool) (i : Nat), l[i]? = some false → unl (l.set i true) + 1 = unl l
 | [], _, h => by simp at h
 | b :: l, 0, h => by simp at h; subst h; simp [unl]
 | b :: l, i + 1, h => by
  have := unl_set l i (by simpa using h)
  cases b <;> simp [unl] at this ⊢ <;> omega
theorem unl_zero : ∀ (l : List Bool) (i : Nat), unl l = 0 → l[i]? = some false → False
 | [], _, _, h => by simp at h
 | b :: l, 0, hz, h => by simp at h; subst h; simp [unl] at hz
 | b :: l, i + 1, hz, h => by
  refine unl_zero l i ?_ (by simpa using h)
  cases b <;> simp [unl] at hz ⊢
  exact hz
theorem ready_all {listed : Array Bool} (hfw : (List.range ops.size).all (fun i => ((ops[i]?).map fun o => o.after.all fun e => !Region.binds md e || decide (e.on < i)).getD true) = true) (h : Region.ready md ops listed = []) (hs : listed.size = ops.size) :
 ∀ i, i < ops.size → listed.getD i false = true := by
 intro i
 induction i using Nat.strongRecOn with
 | ind i ih =>
  intro hi
  cases hl : listed.getD i false with
  | true => rfl
  | false =>
   exfalso
   have hi2 : i < listed.size := by omega
   have hm : i ∈ Region.ready md ops listed := by
    rw [mem_ready]
    refine ⟨?_, ops[i], Array.getElem?_eq_getElem hi, fun e he hbd => ?_⟩
    · simp only [Array.getD, hi2, dif_pos] at hl ⊢
      exact hl
    · have h1 := List.all_eq_true.1 hfw i (List.mem_range.2 hi)
      rw [Array.getElem?_eq_getElem hi] at h1
      simp only [Option.map_some, Option.getD_some, Array.all_eq_true_iff_forall_mem] at h1
      have h2 : e.on < i := by have := h1 e he; rw [hbd] at this; simpa using this
      exact ih e.on h2 (by omega)
   rw [h] at hm
   cases hm
theorem wpAny_inv (I : (Nat → Bool) → Act → World → Prop) (hfw : (List.range ops.size).all (fun i => ((ops[i]?).map fun o => o.after.all fun e => !Region.binds md e || decide (e.on < i)).getD true) = true)
 (hstep : ∀ (i : Nat) (o : Oper) (f : Nat → Bool) (a : Act) (w : World), ops[i]? = some o → f i = false → (∀ e ∈ o.after, Region.binds md e = true → f e.on = true) → I f a w →
  ∀ K' : Act → World → Prop, Shut (∀ a w, I (upd f i) a w → K' a w) → if Region.wanted o (yielded ops a.tmps) = true then Oper.wp P o a w K' Q else K' (a.put o.dst undef) w)
 (hend : ∀ (f : Nat → Bool) (a : Act) (w : World), (∀ i, i < ops.size → f i = true) → I f a w → Q .normal a w) :
 ∀ (fuel : Nat) (listed : Array Bool) (a : Act) (w : World), listed.size = ops.size → unl listed.toList ≤ fuel → I (fun j => listed.getD j false) a w → wpAny P md ops Q fuel listed a w := by
 have hfin : ∀ (listed : Array Bool) (a : Act) (w : World), listed.size = ops.size → I (fun j => listed.getD j false) a w → Region.ready md ops listed = [] → Q .normal a w := fun listed a w hs hI hr =>
  hend _ a w (ready_all hfw hr hs) hI
 intro fuel
 induction fuel with
 | zero =>
  intro listed a w hs hu hI
  have hr : Region.ready md ops listed = [] := by
   refine List.eq_nil_iff_forall_not_mem.2 fun j hj => ?_
   obtain ⟨h1, o, ho, -⟩ := mem_ready.1 hj
   have hj2 := (Array.getElem?_eq_some_iff.1 ho).1
   refine unl_zero listed.toList j (by omega) ?_
   have hj3 : j < listed.size := by omega
   simp only [Array.getD, hj3, dif_pos] at h1
   rw [Array.getElem?_toList, Array.getElem?_eq_getElem hj3]
   exact congrArg some h1
  exact ⟨hr, hfin listed a w hs hI hr⟩
 | succ fuel ih =>
  intro listed a w hs hu hI
  refine ⟨hfin listed a w hs hI, fun i hi => ?_⟩
  obtain ⟨h1, o, ho, hd⟩ := mem_ready.1 hi
  have hi2 := (Array.getElem?_eq_some_iff.1 ho).1
  have hi3 : i < listed.size := by omega
  have hfalse : listed[i]? = some false := by
   simp only [Array.getD, hi3, dif_pos] at h1
   rw [Array.getElem?_eq_getElem hi3]
   exact congrArg some h1
  have hf : listed.getD i false = false := by
   simp only [Array.getD, hi3, dif_pos] at h1 ⊢
   exact h1
  refine wpOp_step ho fun K' hK => hstep i o _ a w ho hf (fun e he hb => hd e he hb) hI K' fun a' w' hI' => hK a' w' ?_
  refine ih (listed.setIfInBounds i true) a' w' (by simpa using hs) ?_ ?_
  · have := unl_set listed.toList i (by rw [Array.getElem?_toList]; exact hfalse)
    rw [Array.toList_setIfInBounds]
    omega
  · have he : (fun j => (listed.setIfInBounds i true).getD j false) = upd (fun j => listed.getD j false) i := by
     funext j
     simp only [upd, Array.getD_eq_getD_getElem?, Array.getElem?_setIfInBounds]
     by_cases hij : i = j
     · subst hij; simp [hi3]
     · have : ¬ j = i := fun h => hij h.symm
       simp [hij, this]
    rw [he]
    exact hI'
theorem wp_region_inv {id : Nat} {a0 : Act} {w0 : World} (I : Act → (Nat → Bool) → Act → World → Prop) (hm : P.follows .mixedOrders = true) (hfw : (List.range ops.size).all (fun i => ((ops[i]?).map fun o => o.after.all fun e => !Region.binds .any e || decide (e.on < i)).getD true) = true)
 (hst : I a0 (fun _ => false) a0 w0.drew)
 (hstep : ∀ (i : Nat) (o : Oper) (f : Nat → Bool) (a : Act) (w : World), ops[i]? = some o → f i = false → (∀ e ∈ o.after, Region.binds .any e = true → f e.on = true) → I a0 f a w →
  ∀ K' : Act → World → Prop, Shut (∀ a w, I a0 (upd f i) a w → K' a w) → if Region.wanted o (yielded ops a.tmps) = true then Oper.wp P o a w K' Q else K' (a.put o.dst undef) w)
 (hend : ∀ (f : Nat → Bool) (a : Act) (w : World), (∀ i, i < ops.size → f i = true) → I a0 f a w → Q .normal a w) : (Code.region id ops true).wp P Q a0 w0 := by
 refine wp_region_any hm (wpAny_inv (I a0) hfw hstep hend _ _ _ _ (by simp) ?_ ?_)
 · have : ∀ n, unl (List.replicate n false) = n := fun n => by
    induction n with
    | zero => rfl
    | succ n ih => simp only [unl, List.replicate_succ] at ih ⊢; simp
   rw [Array.toList_replicate, this]
   exact Nat.le_refl _
 · have he : (fun j => (Array.replicate ops.size false).getD j false) = fun _ => false := by
    funext j
    simp only [Array.getD_eq_getD_getElem?, Array.getElem?_replicate]
    split <;> rfl
   rw [he]
   exact hst
end
end Go.Proofs.YtlejelbefmkakaaGreat

namespace Go.Proofs.YtlejelbefmkakaaGreat
structure RcS (β : Type) where
 cs : Nat → Bool
 ss : Nat → Bool
 dep : Nat → Nat → Bool
 E : (Nat → β) → Nat → Value
 P : Nat → β → Nat → World → Prop
 M : (Nat → Bool) → (Nat → β) → World → World
structure RcS.Ok {β : Type} (S : RcS β) : Prop where
 hE : ∀ (r r' : Nat → β) (j : Nat), (∀ c, S.cs c = true → (S.dep j c = true ∨ c = j) → r c = r' c) → S.E r j = S.E r' j
 hP : ∀ c b lo (w w' : World), S.P c b lo w → Fr No w w' → S.P c b lo w'
 hM0 : ∀ f r w, (∀ i, S.ss i = true → f i = false) → S.M f r w = w
 hMq : ∀ f i r w, S.ss i = false → S.M (upd f i) r w = S.M f r w
 hw : ∀ s c, S.ss s = true → S.cs c = true → S.dep s c = true
structure RcI {β : Type} (S : RcS β) (w0 : World) (f : Nat → Bool) (xs : List Value) (r : Nat → β) (w : World) : Prop where
 x : ∀ i, f i = true → S.ss i = false → xs.getD i undef = S.E r i
 d : ∀ j c, S.dep j c = true → f j = true → f c = true
 m : ∃ w3, Fr No w0 w3 ∧ (∀ c, S.cs c = true → f c = true → S.P c (r c) w0.heap.size w3) ∧ w = S.M f r w3
theorem waits {md : Region.Mode} {o : Oper} {f : Nat → Bool} (hd : ∀ e ∈ o.after, Region.binds md e = true → f e.on = true) {c : Nat} (h : (o.after.toList.any fun e => Region.binds md e && e.on == c) = true) : f c = true := by
 rw [List.any_eq_true] at h
 obtain ⟨e, he, h1⟩ := h
 have he := Array.mem_toList_iff.1 he
 rw [Bool.and_eq_true] at h1
 have h2 : e.on = c := by simpa using h1.2
 rw [← h2]
 exact hd e he h1.1
theorem iset_eq {x : List Value} {i : Nat} {u : Value} (h : i < x.length) : (x.set i u).getD i undef = u := by simp [List.getD_eq_getElem?_getD, h]
theorem iset_ne {x : List Value} {i j : Nat} {u : Value} (h : j ≠ i) : (x.set i u).getD j undef = x.getD j undef := by
 rw [List.getD_eq_getElem?_getD, List.getD_eq_getElem?_getD, List.getElem?_set_ne (fun e => h e.symm)]
section
variable {β : Type} {S : RcS β} {w0 w : World} {f : Nat → Bool} {xs : List Value} {r : Nat → β}
theorem upd_true {i j : Nat} (h : upd f i j = true) : j = i ∨ f j = true := by simp [upd] at h; exact h
theorem RcI.begin (hS : S.Ok) (w0 : World) (xs : List Value) (r : Nat → β) : RcI S w0 (fun _ => false) xs r w0.drew :=
 ⟨nofun, nofun, w0.drew, (Fr.refl _ w0).drew, nofun, (hS.hM0 _ _ _ fun _ _ => rfl).symm⟩
theorem RcI.fr (hS : S.Ok) (h : RcI S w0 f xs r w) (hn : ∀ i, S.ss i = true → f i = false) : Fr No w0 w := by
 obtain ⟨w3, h1, -, rfl⟩ := h.m
 rw [hS.hM0 _ _ _ hn]
 exact h1
theorem RcI.none (h : RcI S w0 f xs r w) {i : Nat} (hf : f i = false) (hw : ∀ s, S.ss s = true → S.dep s i = true) : ∀ s, S.ss s = true → f s = false := fun s hs => by
 cases q : f s with
 | false => rfl
 | true => rw [h.d s i (hw s hs) q] at hf; cases hf
theorem RcI.quiet (hS : S.Ok) (h : RcI S w0 f xs r w) {i : Nat} (hc : S.cs i = false) (hs : S.ss i = false) (hx : i < xs.length) (hd : ∀ c, S.dep i c = true → f c = true) : RcI S w0 (upd f i) (xs.set i (S.E r i)) r w := by
 refine ⟨fun j hj hjs => ?_, fun j c hjc hj => ?_, ?_⟩
 · by_cases hji : j = i
   · subst hji; exact iset_eq hx
   · rw [iset_ne hji]; exact h.x j ((upd_true hj).resolve_left hji) hjs
 · rcases upd_true hj with rfl | hj
   · have := hd c hjc; simp [upd, this]
   · have := h.d j c hjc hj; simp [upd, this]
 · obtain ⟨w3, h1, h2, h3⟩ := h.m
   refine ⟨w3, h1, fun c hcs hfc => ?_, by rw [hS.hMq _ _ _ _ hs]; exact h3⟩
   rcases upd_true hfc with rfl | hfc
   · rw [hc] at hcs; cases hcs
   · exact h2 c hcs hfc
theorem RcI.call (hS : S.Ok) (h : RcI S w0 f xs r w) {i : Nat} (hf : f i = false) (hc : S.cs i = true) (hs : S.ss i = false) (hx : i < xs.length) (hd : ∀ c, S.dep i c = true → f c = true) {b : β} {w' : World} (fw : Fr No w w') (hP : S.P i b w0.heap.size w') :
 RcI S w0 (upd f i) (xs.set i (S.E (fun c => if c = i then b else r c) i)) (fun c => if c = i then b else r c) w' := by
 have hn := h.none hf fun s hss => hS.hw s i hss hc
 refine ⟨fun j hj hjs => ?_, fun j c hjc hj => ?_, ?_⟩
 · by_cases hji : j = i
   · subst hji; exact iset_eq hx
   · have hfj := (upd_true hj).resolve_left hji
     rw [iset_ne hji, h.x j hfj hjs]
     refine hS.hE _ _ j fun c _ hdc => ?_
     have : c ≠ i := fun e => by
      subst e
      rcases hdc with hdc | hdc
      · rw [h.d j c hdc hfj] at hf; cases hf
      · exact hji hdc.symm
     simp [this]
 · rcases upd_true hj with rfl | hj
   · have := hd c hjc; simp [upd, this]
   · have := h.d j c hjc hj; simp [upd, this]
 · obtain ⟨w3, h1, h2, h3⟩ := h.m
   have h4 : w = w3 := by rw [h3, hS.hM0 _ _ _ hn]
   subst h4
   refine ⟨w', h1.trans fw, fun c hcs hfc => ?_, ?_⟩
   · by_cases hci : c = i
     · subst hci; simp; exact hP
     · have hfc' := (upd_true hfc).resolve_left hci
       simp only [if_neg hci]
       exact hS.hP _ _ _ _ _ (h2 c hcs hfc') fw
   · rw [hS.hMq _ _ _ _ hs, hS.hM0 _ _ _ hn]
theorem RcI.store (h : RcI S w0 f xs r w) {i : Nat} (hs : S.ss i = true) (hc : S.cs i = false) (hd : ∀ c, S.dep i c = true → f c = true) {w' : World} (hM : ∀ w3, w = S.M f r w3 → w' = S.M (upd f i) r w3) : RcI S w0 (upd f i) xs r w' := by
 refine ⟨fun j hj hjs => ?_, fun j c hjc hj => ?_, ?_⟩
 · by_cases hji : j = i
   · subst hji; rw [hs] at hjs; cases hjs
   · exact h.x j ((upd_true hj).resolve_left hji) hjs
 · rcases upd_true hj with rfl | hj
   · have := hd c hjc; simp [upd, this]
   · have := h.d j c hjc hj; simp [upd, this]
 · obtain ⟨w3, h1, h2, h3⟩ := h.m
   refine ⟨w3, h1, fun c hcs hfc => ?_, hM w3 h3⟩
   rcases upd_true hfc with rfl | hfc
   · rw [hc] at hcs; cases hcs
   · exact h2 c hcs hfc
end
end Go.Proofs.YtlejelbefmkakaaGreat
