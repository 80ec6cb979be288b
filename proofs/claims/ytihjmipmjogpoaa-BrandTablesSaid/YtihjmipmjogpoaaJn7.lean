/- Texts joined: Bt14, R0, R1, E1, O1, U1. -/
import Derived.Test.YtihjmipmjogpoaaJn6
import Derived.Test.YtihjmipmjogpoaaProg
import Derived.Lib.SmallJoins
import Derived.Deep.Slices
import Derived.Deep.Fields
import Derived.ChangeSame
import Derived.SizedLaws
import Derived.Deep.AppendLies
/- BrandTables: All's function, as an iterator. -/
namespace Go.Proofs.Ytihjmipmjogpoaa
open Go.RowKit
attribute [local go_sem] Oper.semAt_some

theorem ent_forest {w : World} {lo hi : Nat} {l : List Ent} (F : Forest w lo hi (trees l)) {j : Nat} {x : Ent} (hx : l[j]? = some x) : Forest w lo hi [x.k, x.v] ∧ ∀ e ∈ l, e.c ≠ x.c → ∀ b, b ∈ x.k.blocks ∨ b ∈ x.v.blocks → ¬ (b ∈ e.k.blocks ∨ b ∈ e.v.blocks) := by
  obtain ⟨l1, l2, rfl, rfl⟩ := split_at hx
  have hp : (trees (l1 ++ x :: l2)).Perm ([x.k, x.v] ++ (trees l1 ++ trees l2)) := by
    rw [trees_append, trees_cons]
    refine List.Perm.trans List.perm_append_comm ?_
    rw [List.append_assoc]
    exact List.Perm.append_left _ List.perm_append_comm
  have F1 := F.perm hp
  refine ⟨F1.left, fun e he hc b hb hb2 => ?_⟩
  have h1 : b ∈ (([x.k, x.v] : List T).map T.blocks).flatten := by
    rcases hb with h | h <;> simp [h]
  refine F1.apart b h1 ?_
  rw [← trees_append, trees_mem]
  refine ⟨e, ?_, hb2⟩
  rcases List.mem_append.1 he with h | h
  · exact List.mem_append_left _ h
  · rcases List.mem_cons.1 h with rfl | h
    · exact absurd rfl hc
    · exact List.mem_append_right _ h

theorem zero_mark (w : World) : (zeroValue 45).run Try.prog w = .ok .nilIface w := by kernel_rfl

/-- Between two rounds. -/
structure AI (J : List (V × V) → (Nat → Prop) → World → Prop) (Mp : Nat → Prop) (Wc : World) (l : List Ent) (ds : List (V × V × Nat)) (k : Nat) (Mj : Nat → Prop) (wr : World) : Prop where
  j : J ((upTo k ds).map pr) Mj wr
  fr : Fr (fun i => Mp i ∨ ∃ e ∈ l, e.c < k ∧ (i ∈ e.k.blocks ∨ i ∈ e.v.blocks)) Wc wr
  sub : ∀ i, Mj i → i < Wc.heap.size → Mp i

set_option maxRecDepth 100000 in
set_option maxHeartbeats 8000000 in
theorem iter100 (gt lo tb M O came : Nat) (l : List Ent) (w : World) (hB : Blk w gt 39 #[.pointer (some ⟨tb, 0, none⟩)]) (hT : Tab w lo w.heap.size tb M O l came) (ds : List (V × V × Nat)) (hS : Srt ds) (hP : ds.Perm (l.map Ent.d)) :
    Iter Try.prog 100 #[.pointer (some ⟨gt, 0, none⟩)] OkE (ds.map pr) (fun _ => False) w := by
  intro lp J Jx W Mp hf hno hlt hround hAv hJ
  have hMlt := hlt _ _ _ hJ
  have hbW := hB.fr hf fun h => h
  have hC := Copy_any W lo tb M O l came ((hT.no hf (Nat.le_refl _)).more (Nat.le_refl _) hf.size)
  have t0 := hbW.cell 0
  simp only [List.getElem?_toArray, List.getElem?_cons_zero] at t0
  have t1 := hbW.lt
  have hcm := hT.came0
  have HC := hide hC
  have HJ := hide hJ
  have HR := hide hround
  have HNO := hide hno
  have HLT := hide hlt
  have HML := hide hMlt
  have HS := hide hS
  have HP := hide hP
  clear hC hJ hround hno hlt hMlt hbW hB hT hS hP hf hAv
  go_enter Try.func100, Try.ntmps100
  refine (wpIn_wide (n := 3)).1 ?_
  gi_wp2_with fail
  refine ⟨trivial, (callsIn_wide.2 HC.out).mono ?_⟩
  rintro e Wc ⟨tb1, M1, O1, l', rfl, hTc, hpc, fc⟩
  have hds : ds.Perm (l'.map Ent.d) := HP.out.trans hpc.symm
  have hJc := HNO.out _ _ _ _ HJ.out fc
  have hA0 : AI J Mp Wc l' ds 1 Mp Wc := by
    refine ⟨?_, Fr.refl _ _, fun _ h _ => h⟩
    rw [upTo_none (fun d hd => by
      obtain ⟨e, he, rfl⟩ := List.mem_map.1 (hds.mem_iff.1 hd)
      exact (hTc.cran e he).1)]
    exact hJc
  -- what stays of the copy
  have hfs := fc.size
  have hnp : ∀ i, W.heap.size ≤ i → ¬ Mp i := fun i hi h => by have := HML.out i h; omega
  have hkeep : Hid (∀ k Mj wr, AI J Mp Wc l' ds k Mj wr → Blk wr tb1 66 #[.map (some M1), .map (some O1), .int .i64 (came : Int)] ∧ wr.heap[M1]? = Wc.heap[M1]? ∧ wr.heap[O1]? = Wc.heap[O1]?) := by
    refine hide fun k Mj wr h => ?_
    have hx : ∀ i, W.heap.size ≤ i → i ∉ ((trees l').map T.blocks).flatten → ¬ (Mp i ∨ ∃ e ∈ l', e.c < k ∧ (i ∈ e.k.blocks ∨ i ∈ e.v.blocks)) := fun i hi hn h => by
      rcases h with h | ⟨e, he, -, hb⟩
      · exact hnp i hi h
      · exact hn (trees_mem.2 ⟨e, he, hb⟩)
    exact ⟨hTc.blk.fr h.fr (hx _ hTc.tb0.1 hTc.out), h.fr.block M1 hTc.m0.2 (hx _ hTc.m0.1 hTc.outm), h.fr.block O1 hTc.o0.2 (hx _ hTc.o0.1 hTc.outo)⟩
  have hfor : Hid (∀ k Mj wr (j : Nat) (x : Ent), AI J Mp Wc l' ds k Mj wr → l'[j]? = some x → x.c = k → Forest wr W.heap.size wr.heap.size [x.k, x.v] ∧ (∀ b, b ∈ x.k.blocks ∨ b ∈ x.v.blocks → W.heap.size ≤ b ∧ b < Wc.heap.size ∧ ¬ Mj b)) := by
    refine hide fun k Mj wr j x h hx hk => ?_
    obtain ⟨F, hap⟩ := ent_forest hTc.forest hx
    have hbl : ∀ b, b ∈ x.k.blocks ∨ b ∈ x.v.blocks → W.heap.size ≤ b ∧ b < Wc.heap.size := fun b hb => F.blocks b (by rcases hb with h | h <;> simp [h])
    refine ⟨(F.frB h.fr (Nat.le_refl _) (fun b hb hS => ?_)).more (Nat.le_refl _) h.fr.size, fun b hb => ⟨(hbl b hb).1, (hbl b hb).2, fun hm => hnp b (hbl b hb).1 (h.sub b hm (hbl b hb).2)⟩⟩
    have hb' : b ∈ x.k.blocks ∨ b ∈ x.v.blocks := by simpa using hb
    rcases hS with hS | ⟨e, he, hc, hbe⟩
    · exact hnp b (hbl b hb').1 hS
    · exact hap e he (by omega) b hb' hbe
  have hend : Hid (∀ k wr, Fr (fun i => Mp i ∨ ∃ e ∈ l', e.c < k ∧ (i ∈ e.k.blocks ∨ i ∈ e.v.blocks)) Wc wr → Fr Mp W wr) := hide fun k wr f => (fc.no).trans' f fun i hi h => by
    rcases h with h | ⟨e, he, -, hb⟩
    · exact h
    · have := (hTc.forest.blocks i (trees_mem.2 ⟨e, he, hb⟩)).1
      omega
  have HTC := hide hTc
  have HDS := hide hds
  have HA0 := hide hA0
  have HFC := hide fc
  obtain ⟨es, cl, hm, hes⟩ := hTc.m
  obtain ⟨eo, co, ho, hoe⟩ := hTc.o
  have HES := hide hes
  have HOE := hide hoe
  clear hTc hds hA0 fc hpc hes hoe t0 t1 hJc HC
  gi_wp2_with fail
  gi_loopw [4] (fun sv wr => ∃ (k : Nat) (Mj : Nat → Prop), sv = .int .i64 k ∧ 1 ≤ k ∧ k ≤ came + 1 ∧ AI J Mp Wc l' ds k Mj wr) (fun sv _ => came + 1 - (intOf sv).toNat)
  case atStart => exact ⟨1, Mp, rfl, Nat.le_refl _, by omega, HA0.out⟩
  case round =>
    obtain ⟨k, Mj, rfl, hk1, hk2, inv⟩ := hrel
    obtain ⟨hb1, hM1, hO1⟩ := hkeep.out k Mj wr inv
    rw [hm] at hM1
    rw [ho] at hO1
    have c0 := hb1.cell 0
    have c1 := hb1.cell 1
    have c2 := hb1.cell 2
    simp only [List.getElem?_toArray, List.getElem?_cons_zero, List.getElem?_cons_succ] at c0 c1 c2
    have q0 := hb1.lt
    have hkb : (k : Int) ≤ 1000001 := by omega
    by_cases hlt : k ≤ came
    · have hltI : (k : Int) ≤ (came : Int) := by omega
      have hmay := HTC.out.may
      have hdist := HTC.out.dist
      by_cases hx : ∃ (j : Nat) (x : Ent), l'[j]? = some x ∧ x.c = k
      · obtain ⟨j, x, hxj, hxc⟩ := hx
        obtain ⟨F, hB⟩ := hfor.out k Mj wr j x inv hxj hxc
        obtain ⟨e0, he0, hk0, hall0, hbef0⟩ := ords_some HOE.out HTC.out.cdist hxj
        have hlk1 := run_lookup_num Try.underlying64 wr (zero_mark wr) (k : Int) hO1 (some j) nofun (fun i hi => by
          obtain rfl : j = i := by simpa using hi
          rw [hxc] at hk0 hbef0
          exact ⟨e0, he0, hk0, hall0, hbef0⟩)
        have hmk := (HOE.out.2 j e0 x he0 hxj).2
        have hxm := List.mem_of_getElem? hxj
        obtain ⟨hm1, hm2, -⟩ := hmay x hxm
        obtain ⟨ty, z, hz⟩ := hmk.iface
        rw [hz] at hmk
        simp only [Option.bind_some, he0, hz] at hlk1
        have hlk2 := run_lookup_mark Try.underlying63 wr (zero_ent _) x.k.v (.iface ty z) hmk (may_dep hm1) hm2 false hM1 HES.out.keys (fun v _ => keys_ne2 x.k.v hm2 v)
        rw [pos_at hmay hdist hxj] at hlk2
        have hel : j < es.toList.length := by rw [HES.out.1]; exact (List.getElem?_eq_some_iff.1 hxj).1
        have hev := (HES.out.2 j _ x (List.getElem?_eq_getElem hel) hxj).2
        simp only [found, List.getElem?_eq_getElem hel, Option.map_some, hev, Bool.false_eq_true, if_false] at hlk2
        have hdx : x.d ∈ ds := HDS.out.mem_iff.2 (List.mem_map_of_mem hxm)
        have hstep := srt_step HS.out hdx hxc
        have hpre : (upTo k ds).map pr ++ [pr x.d] <+: ds.map pr := by
          refine ⟨(ds.filter fun d => decide (k + 1 ≤ d.2.2)).map pr, ?_⟩
          conv => rhs; rw [srt_split (k + 1) HS.out, hstep]
          simp
        have hj1 := inv.j
        have HX := hide hxc
        have HXM := hide hxm
        have HST := hide hstep
        have HPRE := hide hpre
        have HI := hide inv
        have HB := hide hB
        have HF := hide F
        obtain ⟨⟨k1, n1, s1, A1, cap1, l1, r1⟩, ⟨k2, n2, s2, A2, cap2, l2, r2⟩, xc⟩ := x
        have hlk3 : (Instr.lookup 63 (.map (some M1)) (.iface ty z) false).run Try.prog wr = .ok (.agg #[.int .u8 k1, .int .i64 n1, .string s1, .slice A1 l1.length cap1, .int .i64 r1, .int .u8 k2, .int .i64 n2, .string s2, .slice A2 l2.length cap2, .int .i64 r2, .int .i64 (xc : Int)]) wr := hlk2
        have fa := (Fr.refl No wr).alloc (.cells #[.int .u8 k1, .int .i64 n1, .string s1, .slice A1 l1.length cap1, .int .i64 r1, .int .u8 k2, .int .i64 n2, .string s2, .slice A2 l2.length cap2, .int .i64 r2, .int .i64 (xc : Int)] 132)
        have hs := inv.fr.size
        obtain ⟨fn, tmps, assign, body, hy, hR⟩ := HR.out _ Mj (wr.alloc (.cells #[.int .u8 k1, .int .i64 n1, .string s1, .slice A1 l1.length cap1, .int .i64 r1, .int .u8 k2, .int .i64 n2, .string s2, .slice A2 l2.length cap2, .int .i64 r2, .int .i64 (xc : Int)] 132)) _ #[.agg #[.int .u8 k1, .int .i64 n1, .string s1, .slice A1 l1.length cap1, .int .i64 r1], .agg #[.int .u8 k2, .int .i64 n2, .string s2, .slice A2 l2.length cap2, .int .i64 r2]] _ (HNO.out _ _ _ _ hj1 fa) HPRE.out
          ⟨T.mk k1 n1 s1 A1 cap1 l1 r1, T.mk k2 n2 s2 A2 cap2 l2 r2, W.heap.size, rfl, rfl, rfl, rfl, (HF.out.no fa (Nat.le_refl _)).more (Nat.le_refl _) fa.size⟩ (fun i hi => ⟨(HB.out i hi).1, by have := (HB.out i hi).2.1; have := fa.size; omega, (HB.out i hi).2.2⟩)
        have HRR := hide hR
        have HFA := hide fa
        clear hlk2 hev hel hxm hstep hpre inv hB F hb1 hM1 hO1 he0 hk0 hall0 hbef0 hmk hz hm1 hm2 hdx hj1 hxj hmay hdist fa hR hxc
        gi_wp2_with fail
        refine HRR.out.mono ?_
        rintro e w4 ⟨M', f4, hsub, hres⟩
        have hsa := HFA.out.size
        have fr4 : Fr (fun i => Mp i ∨ ∃ e ∈ l', e.c < k + 1 ∧ (i ∈ e.k.blocks ∨ i ∈ e.v.blocks)) Wc w4 :=
          ((HI.out.fr.mono (S' := fun i => Mp i ∨ ∃ e ∈ l', e.c < k + 1 ∧ (i ∈ e.k.blocks ∨ i ∈ e.v.blocks)) fun i _ h => h.imp id (fun ⟨e, he, hc, hb⟩ => ⟨e, he, by omega, hb⟩)).thenNo HFA.out).trans' f4 fun i hi h => by
            rcases h with h | h
            · exact .inl (HI.out.sub i h hi)
            · exact .inr ⟨_, HXM.out, by have h : xc = k := HX.out; show xc < k + 1; omega, h⟩
        have sub4 : ∀ i, M' i → i < Wc.heap.size → Mp i := fun i h hi => HI.out.sub i (hsub i h (by omega)) hi
        have HF4 := hide fr4
        have HS4 := hide sub4
        rcases hres with ⟨rfl, hj⟩ | ⟨rfl, hj⟩
        · have hn : AI J Mp Wc l' ds (k + 1) M' w4 := ⟨by rw [HST.out]; simpa using hj, HF4.out, HS4.out⟩
          have HN := hide hn
          clear f4 hsub fr4 sub4 hj hn
          gi_wp2_with fail
          refine ⟨⟨k + 1, M', by go_num, by omega, by omega, HN.out⟩, by simp [intOf]; omega⟩
        · have HJX := hide hj
          clear f4 hsub fr4 sub4 hj
          gi_wp2_with fail
          refine bodyPost_ret (results_none rfl _ _ _) rfl ?_
          exact ⟨⟨_, rfl⟩, M', hend.out (k + 1) w4 HF4.out, fun i h1 h2 => HS4.out i h1 (by omega), .inr ⟨_, HPRE.out, HJX.out⟩⟩
      · have hlk1 := run_lookup_num Try.underlying64 wr (zero_mark wr) (k : Int) hO1 none (fun _ e he => by
          obtain ⟨j, hj, rfl⟩ := List.mem_iff_getElem.1 he
          have hj' : j < l'.length := by rw [← HOE.out.1]; exact hj
          have h1 := (HOE.out.2 j _ l'[j] (List.getElem?_eq_getElem hj) (List.getElem?_eq_getElem hj')).1
          exact ⟨_, h1, fun h => hx ⟨j, l'[j], List.getElem?_eq_getElem hj', by omega⟩⟩) nofun
        simp only [Option.bind_none] at hlk1
        have hnone : upTo (k + 1) ds = upTo k ds := srt_none fun d hd h => by
          obtain ⟨e, he, rfl⟩ := List.mem_map.1 (HDS.out.mem_iff.1 hd)
          obtain ⟨j, hj, rfl⟩ := List.mem_iff_getElem.1 he
          exact hx ⟨j, l'[j], List.getElem?_eq_getElem hj, h⟩
        have hnext : AI J Mp Wc l' ds (k + 1) Mj wr := ⟨by rw [hnone]; exact inv.j, inv.fr.mono fun i _ h => h.imp id (fun ⟨e, he, hc, hb⟩ => ⟨e, he, by omega, hb⟩), inv.sub⟩
        have HN := hide hnext
        clear inv hx hb1 hM1 hO1 hmay hdist hnone hnext
        gi_wp2_with fail
        refine ⟨⟨k + 1, Mj, by go_num, by omega, by omega, HN.out⟩, by simp [intOf]; omega⟩
    · have hd1 : decide (k ≤ came) = false := by simp; omega
      have hd2 : decide ((k : Int) ≤ (came : Int)) = false := by simp; omega
      have hd3 : ¬ (k : Int) ≤ (came : Int) := by omega
      have HI := hide inv
      clear inv hb1 hkb
      gi_wp2_with fail
      go_end0
      have hall : upTo k ds = ds := upTo_all fun d hd => by
        obtain ⟨e, he, rfl⟩ := List.mem_map.1 (HDS.out.mem_iff.1 hd)
        have := (HTC.out.cran e he).2
        show e.c < k
        omega
      refine ⟨⟨_, rfl⟩, hend.out k wr HI.out.fr, Mj, fun i h1 h2 => HI.out.sub i h1 (by omega), .inl ?_⟩
      have := HI.out.j
      rwa [hall] at this

end Go.Proofs.Ytihjmipmjogpoaa

/- What the document's answer counts of a value: plain laws. No program in sight. -/
namespace Go.Proofs.Ytihjmipmjogpoaa
open Go.RowKit

/-- The greatest of some numbers, and one more; 0 of none. -/
def top1 : List Nat → Nat
  | [] => 0
  | x :: l => max (x + 1) (top1 l)

/-- How deep its lists of parts go, whatever its kind. -/
def V.ht : V → Nat
  | .mk _ _ _ l _ => top1 (l.map V.ht)
termination_by v => v

theorem V.ht_mk (k n : Int) (s : ByteArray) (l : List V) (r : Int) : (V.mk k n s l r).ht = top1 (l.map V.ht) := by rw [V.ht]

theorem lt_top1 {l : List Nat} {x : Nat} (h : x ∈ l) : x + 1 ≤ top1 l := by
  induction l with
  | nil => simp at h
  | cons y l ih =>
    rcases List.mem_cons.1 h with rfl | h
    · simp [top1]; omega
    · have := ih h; simp [top1]; omega

theorem top1_le {l : List Nat} {n : Nat} (h : ∀ x ∈ l, x + 1 ≤ n) : top1 l ≤ n := by
  induction l with
  | nil => simp [top1]
  | cons y l ih =>
    have h1 := h y (by simp)
    have h2 := ih fun x hx => h x (by simp [hx])
    simp [top1]; omega

theorem ht_child {k n : Int} {s : ByteArray} {l : List V} {r : Int} {x : V} (h : x ∈ l) : x.ht + 1 ≤ (V.mk k n s l r).ht := by
  rw [V.ht_mk]; exact lt_top1 (List.mem_map_of_mem h)

theorem dep_le_ht (v : V) : v.dep ≤ v.ht + 1 := by
  induction v using V.ind with
  | h k n s l r ih =>
    rw [V.dep_mk]
    by_cases h3 : k = 3
    · rw [if_pos h3]
      have : top (l.map V.dep) ≤ (V.mk k n s l r).ht := top_le fun d hd => by
        obtain ⟨x, hx, rfl⟩ := List.mem_map.1 hd
        have h1 := ih x hx
        have h2 := ht_child (k := k) (n := n) (s := s) (r := r) hx
        omega
      omega
    · rw [if_neg h3]; omega

theorem ht_le_dep (v : V) : v.ok = true → v.ht ≤ v.dep := by
  induction v using V.ind with
  | h k n s l r ih =>
    intro h
    rw [V.ok_mk, Bool.and_eq_true] at h
    rw [V.ht_mk, V.dep_mk]
    by_cases h3 : k = 3
    · rw [if_pos h3]
      refine top1_le fun x hx => ?_
      obtain ⟨y, hy, rfl⟩ := List.mem_map.1 hx
      have h1 := ih y hy (List.all_eq_true.1 h.2 y hy)
      have h2 : y.dep ≤ top (l.map V.dep) := le_top (List.mem_map_of_mem hy)
      omega
    · have := List.eq_nil_of_length_eq_zero (fok_len h3 h.1)
      subst this
      simp [top1]

/-- What 'parts' comes to, at the depth d. -/
def PartsIs (v : V) (d z : Nat) : Prop := 1 ≤ z ∧ z ≤ 513 + 512 * (17 - d) ∧ (z ≤ 512 → z = v.size ∧ v.ht + d ≤ 16) ∧ (v.size ≤ 512 → v.ht + d ≤ 16 → z = v.size)

/-- Where the loop of 'parts' stands. -/
structure PInv (l : List V) (d j n : Nat) : Prop where
  pos : 1 ≤ n
  le : n ≤ 513 + 512 * (17 - d)
  few : n ≤ 512 → n = 1 + sizeTo l j ∧ ∀ i (h : i < l.length), i < j → l[i].ht + (d + 1) ≤ 16
  same : 1 + sizeTo l j ≤ 512 → (∀ i (h : i < l.length), i < j → l[i].ht + (d + 1) ≤ 16) → n = 1 + sizeTo l j

theorem PInv.zero (l : List V) (d : Nat) : PInv l d 0 1 :=
  ⟨by omega, by omega, fun _ => ⟨by rw [sizeTo_zero], fun i h hi => absurd hi (by omega)⟩, fun _ _ => by rw [sizeTo_zero]⟩

theorem PInv.succ {l : List V} {d j n z : Nat} (h : PInv l d j n) (hn : n ≤ 512) (hj : j < l.length) (hz : PartsIs l[j] (d + 1) z) (hd : d ≤ 16) : PInv l d (j + 1) (n + z) := by
  obtain ⟨z1, z2, z3, z4⟩ := hz
  have h1 := h.pos
  have h2 := sizeTo_succ l j hj
  refine ⟨by omega, by omega, fun hs => ?_, fun hs ha => ?_⟩
  · obtain ⟨e1, e2⟩ := z3 (by omega)
    obtain ⟨e3, e4⟩ := h.few hn
    refine ⟨by omega, fun i hi hij => ?_⟩
    rcases Nat.lt_or_ge i j with hlt | hge
    · exact e4 i hi hlt
    · obtain rfl : i = j := by omega
      exact e2
  · have e1 := h.same (by omega) fun i hi hij => ha i hi (by omega)
    have e2 := z4 (by omega) (ha j hj (by omega))
    omega

theorem PInv.done {l : List V} {d n : Nat} {k m : Int} {s : ByteArray} {r : Int} (h : PInv l d l.length n) (hd : d ≤ 16) : PartsIs (V.mk k m s l r) d n := by
  have hsz : (V.mk k m s l r).size = 1 + sizeTo l l.length := by rw [V.size_mk, sizeTo_all]
  refine ⟨h.pos, h.le, fun hn => ?_, fun hs ht => ?_⟩
  · obtain ⟨e1, e2⟩ := h.few hn
    refine ⟨by omega, ?_⟩
    have : (V.mk k m s l r).ht ≤ 16 - d := by
      rw [V.ht_mk]
      refine top1_le fun x hx => ?_
      obtain ⟨y, hy, rfl⟩ := List.mem_map.1 hx
      obtain ⟨i, hi, rfl⟩ := List.mem_iff_getElem.1 hy
      have := e2 i hi hi
      omega
    omega
  · rw [hsz]
    refine h.same (by omega) fun i hi _ => ?_
    have := ht_child (k := k) (n := m) (s := s) (r := r) (List.getElem_mem hi)
    omega

theorem PInv.over {l : List V} {d j n : Nat} {k m : Int} {s : ByteArray} {r : Int} (h : PInv l d j n) (hn : 512 < n) : PartsIs (V.mk k m s l r) d n := by
  refine ⟨h.pos, h.le, fun hn' => absurd hn' (by omega), fun hs ht => ?_⟩
  exfalso
  have hsz : (V.mk k m s l r).size = 1 + (l.map V.size).sum := V.size_mk _ _ _ _ _
  have h1 := sizeTo_le l j
  have := h.same (by omega) fun i hi _ => by
    have := ht_child (k := k) (n := m) (s := s) (r := r) (List.getElem_mem hi)
    omega
  omega

theorem PartsIs.deep (v : V) : PartsIs v 17 513 := ⟨by omega, by omega, fun h => absurd h (by omega), fun _ h => absurd h (by omega)⟩

/-- The document's answer to 'may a value be?' is the program's. -/
theorem may_iff {v : V} {z : Nat} (h : PartsIs v 0 z) : v.may = (decide (z ≤ 512) && (decide (v.dep ≤ 16) && v.ok)) := by
  obtain ⟨z1, z2, z3, z4⟩ := h
  rw [Bool.eq_iff_iff]
  simp only [V.may, V.fits, Bool.and_eq_true, decide_eq_true_eq]
  constructor
  · rintro ⟨⟨h1, h2⟩, h3⟩
    have := ht_le_dep v h1
    have := z4 h2 (by omega)
    exact ⟨by omega, h3, h1⟩
  · rintro ⟨h1, h2, h3⟩
    have := z3 h1
    exact ⟨⟨h3, by omega⟩, h2⟩

end Go.Proofs.Ytihjmipmjogpoaa

/- The document's answer: parts, deep, field, fields, May of a value. -/
namespace Go.Proofs.Ytihjmipmjogpoaa
open Go.RowKit

def RParts (v : V) (d : Nat) (w : World) (e : Ending) (w' : World) : Prop := ∃ z : Nat, e = .returned (.int .i64 (z : Int)) ∧ PartsIs v d z ∧ Fr No w w'

set_option maxRecDepth 100000 in
set_option maxHeartbeats 2000000 in
theorem rparts_any (t : T) : ∀ (w : World) (d lo hi : Nat), t.In w lo hi → hi ≤ w.heap.size → d ≤ 17 → Calls Try.prog 85 #[t.val, .int .i64 (d : Int)] w (RParts t.v d w) := by
  induction t using T.ind with
  | h k n s A cap l r ih =>
    intro w d lo hi ht hh hd
    rw [T.val_mk]
    have fit := (T.in_mk.1 ht).1
    have hlen := fit.len1
    have hk0 := fit.k0
    have hk1 := fit.k1
    have fr1 := (Fr.refl No w).alloc (.cells #[.int .u8 k, .int .i64 n, .string s, .slice A l.length cap, .int .i64 r] 27)
    by_cases h17 : d = 17
    · subst h17
      have hPI := PartsIs.deep (T.mk k n s A cap l r).v
      have HF := hide fr1
      clear fr1 ih
      by_cases h3 : k = 3
      · subst h3
        go_enter Try.func85, Try.ntmps85
        go_wp2
        go_ret
        exact ⟨513, rfl, hPI, HF.out⟩
      · have h3' : (k == 3) = false := by simpa using h3
        go_enter Try.func85, Try.ntmps85
        go_wp2
        go_ret
        exact ⟨513, rfl, hPI, HF.out⟩
    · have hgt : ¬ (16 : Int) < (d : Int) := by omega
      have hd16 : d ≤ 16 := by omega
      go_enter Try.func85, Try.ntmps85
      go_wp2_with fail
      go_loopw [5, 6] (fun v i wr => ∃ j m : Nat, j ≤ l.length ∧ i = .int .i64 j ∧ v = .int .i64 (m : Int) ∧ PInv (l.map T.v) d j m ∧ Fr No (w.alloc (.cells #[.int .u8 k, .int .i64 n, .string s, .slice A l.length cap, .int .i64 r] 27)) wr) (fun _ i _ => l.length - (intOf i).toNat)
      case atStart =>
        exact ⟨0, 1, Nat.zero_le _, rfl, rfl, PInv.zero _ _, Fr.refl _ _⟩
      case round =>
        obtain ⟨j, m, hj, rfl, rfl, inv, fr⟩ := hrel
        have hK := (Blk.new' w 27 #[.int .u8 k, .int .i64 n, .string s, .slice A l.length cap, .int .i64 r] rfl).fr fr (fun h => h)
        obtain ⟨c0, c1, c2, c3, c4, cf⟩ := hK.cells5
        have frw := fr1.trans fr
        have hszr := hK.lt
        have hm := inv.le
        have HI := hide inv
        clear inv
        by_cases hlt : j < l.length
        · by_cases hm5 : m ≤ 512
          · obtain ⟨b, o, k1, n1, s1, A1, cap1, l1, r1, rfl, hb0, hb1, hx, hin, e0, e1, e2, e3, e4⟩ := T.elem (ht.no frw hh) hlt
            have IH := ih l[j] (List.getElem_mem hlt)
            rw [hx, T.val_mk] at IH
            have HX := hide hx
            have g0 : b < wr.heap.size := by have := frw.size; omega
            have hm5' : (m : Int) ≤ 512 := by omega
            have HF := hide fr
            have HW := hide frw
            clear hx ih fr frw fr1
            go_wp2_with fail
            have hd1 : ((d : Int) + 1) = ((d + 1 : Nat) : Int) := by omega
            rw [hd1]
            clear hd1
            refine (IH wr (d + 1) lo hi hin (by have := HW.out.size; omega) (by omega)).mono ?_
            rintro e w2 ⟨z, rfl, hz, fr2⟩
            have hz2 := hz.2.1
            have HZ := hide hz
            have HF2 := hide fr2
            clear hz fr2
            go_wp2
            go_roundw
            case rel =>
              refine ⟨j + 1, m + z, hlt, by go_num, by go_num, HI.out.succ hm5 (by simpa using hlt) ?_ hd16, HF.out.trans HF2.out⟩
              rw [List.getElem_map, HX.out]
              exact HZ.out
            case measure => simp [intOf]; omega
          · have hm5' : ¬ (m : Int) ≤ 512 := by omega
            have HW := hide frw
            clear ih
            go_wp2
            go_ret
            refine ⟨m, rfl, ?_, HW.out⟩
            rw [T.v_mk]
            exact HI.out.over (by omega)
        · obtain rfl : l.length = j := by omega
          have HW := hide frw
          clear ih
          go_wp2
          go_ret
          refine ⟨m, rfl, ?_, HW.out⟩
          rw [T.v_mk]
          have h := HI.out
          have hl : l.length = (l.map T.v).length := by simp
          rw [hl] at h
          exact h.done hd16

/-- The deepest of the first j. -/
theorem top_take_succ (l : List Nat) (j : Nat) (h : j < l.length) : top (l.take (j + 1)) = max (top (l.take j)) l[j] := by
  induction l generalizing j with
  | nil => simp at h
  | cons x l ih =>
    cases j with
    | zero => simp [top]
    | succ j =>
      simp only [List.take_succ_cons, top, List.getElem_cons_succ]
      rw [ih j (by simpa using h)]
      omega

set_option maxRecDepth 100000 in
set_option maxHeartbeats 2000000 in
theorem rdeep_any (t : T) : ∀ (w : World) (lo hi : Nat), t.In w lo hi → hi ≤ w.heap.size → t.v.ht ≤ 16 → Calls Try.prog 86 #[t.val] w fun e w' => e = .returned (.int .i64 (t.v.dep : Int)) ∧ Fr No w w' := by
  induction t using T.ind with
  | h k n s A cap l r ih =>
    intro w lo hi ht hh hd
    rw [T.val_mk]
    have fit := (T.in_mk.1 ht).1
    have hlen := fit.len1
    have hk0 := fit.k0
    have hk1 := fit.k1
    have fr1 := (Fr.refl No w).alloc (.cells #[.int .u8 k, .int .i64 n, .string s, .slice A l.length cap, .int .i64 r] 27)
    have hdep := dep_le_ht (T.mk k n s A cap l r).v
    by_cases h3 : k = 3
    case neg =>
      have h3' : (k != 3) = true := by simpa using h3
      have e : (T.mk k n s A cap l r).v.dep = 0 := by rw [T.v_mk, V.dep_mk, if_neg h3]
      rw [e]
      clear ih
      go_enter Try.func86, Try.ntmps86
      go_wp2
      go_ret
      exact ⟨rfl, fr1⟩
    subst h3
    have e : (T.mk 3 n s A cap l r).v.dep = top ((l.map T.v).map V.dep) + 1 := by rw [T.v_mk, V.dep_mk, if_pos rfl]; omega
    have hchild : ∀ x ∈ l, x.v.ht + 1 ≤ (T.mk 3 n s A cap l r).v.ht := by
      intro x hx; rw [T.v_mk]; exact ht_child (List.mem_map_of_mem hx)
    rw [e] at hdep ⊢
    generalize (T.mk 3 n s A cap l r).v.ht = H at *
    clear e
    go_enter Try.func86, Try.ntmps86
    go_wp2_with fail
    go_loopw [3, 4] (fun v i wr => ∃ j m : Nat, j ≤ l.length ∧ i = .int .i64 j ∧ v = .int .i64 (m : Int) ∧ m = top (((l.map T.v).map V.dep).take j) ∧ m ≤ 17 ∧ Fr No (w.alloc (.cells #[.int .u8 3, .int .i64 n, .string s, .slice A l.length cap, .int .i64 r] 27)) wr) (fun _ i _ => l.length - (intOf i).toNat)
    case atStart =>
      exact ⟨0, 0, Nat.zero_le _, rfl, rfl, by simp [top], by omega, Fr.refl _ _⟩
    case round =>
      obtain ⟨j, m, hj, rfl, rfl, hm, hm17, fr⟩ := hrel
      have hK := (Blk.new' w 27 #[.int .u8 3, .int .i64 n, .string s, .slice A l.length cap, .int .i64 r] rfl).fr fr (fun h => h)
      obtain ⟨c0, c1, c2, c3, c4, cf⟩ := hK.cells5
      have frw := fr1.trans fr
      have hszr := hK.lt
      have HM := hide hm
      clear hm
      by_cases hlt : j < l.length
      · obtain ⟨b, o, k1, n1, s1, A1, cap1, l1, r1, rfl, hb0, hb1, hx, hin, e0, e1, e2, e3, e4⟩ := T.elem (ht.no frw hh) hlt
        have IH := ih l[j] (List.getElem_mem hlt)
        have hc := hchild l[j] (List.getElem_mem hlt)
        have hdc := dep_le_ht l[j].v
        have hto := top_take_succ ((l.map T.v).map V.dep) j (by simpa using hlt)
        rw [List.getElem_map, List.getElem_map] at hto
        rw [hx] at IH hc hdc hto
        rw [T.val_mk] at IH
        generalize (T.mk k1 n1 s1 A1 cap1 l1 r1).v = u at *
        have g0 : b < wr.heap.size := by have := frw.size; omega
        have HF := hide fr
        have HW := hide frw
        have HT := hide hto
        clear hx ih fr frw fr1 hto hchild
        go_wp2_with fail
        refine (IH wr lo hi hin (by have := HW.out.size; omega) (by omega)).mono ?_
        rintro e w2 ⟨rfl, fr2⟩
        have HF2 := hide fr2
        clear fr2
        generalize hq : u.dep = q at *
        have HQ := hide hq
        clear hq
        go_wp2
        go_roundw
        case rel =>
          refine ⟨j + 1, max m q, hlt, by go_num, ?_, by rw [HT.out, ← HM.out], by omega, HF.out.trans HF2.out⟩
          refine congrArg (Value.int .i64) ?_
          rcases Nat.lt_or_ge m q with h | h
          · rw [if_pos h, Nat.max_eq_right (by omega)]
          · rw [if_neg (by omega), Nat.max_eq_left h]
        case measure => simp [intOf]; omega
      · obtain rfl : l.length = j := by omega
        have HW := hide frw
        clear ih
        go_wp2
        go_ret
        refine ⟨?_, HW.out⟩
        have h := HM.out
        rw [List.take_of_length_le (by simp)] at h
        rw [← h]
        go_num

end Go.Proofs.Ytihjmipmjogpoaa

/- Chapter 2: constructors; Deep. -/
namespace Go.Proofs.Ytihjmipmjogpoaa
open Go.RowKit

theorem num2_any (n : Int) (w : World) : Calls Try.prog 79 #[.int .i64 n] w fun e w' => e = .returned (.agg #[.int .u8 1, .int .i64 n, .string ⟨#[]⟩, .slice none 0 0, .int .i64 0]) ∧ Fr No w w' := by
  go_enter Try.func79, Try.ntmps79
  go_wp2
  refine bodyPost_ret (v := .agg #[.int .u8 1, .int .i64 n, .string ⟨#[]⟩, .slice none 0 0, .int .i64 0]) (by simp [results, Try.results79, go_sem, *]) rfl ?_
  exact ⟨rfl, (Fr.refl No w).alloc _⟩

theorem ref2_any (r : Int) (w : World) : Calls Try.prog 102 #[.int .i64 r] w fun e w' => e = .returned (.agg #[.int .u8 4, .int .i64 0, .string ⟨#[]⟩, .slice none 0 0, .int .i64 r]) ∧ Fr No w w' := by
  go_enter Try.func102, Try.ntmps102
  go_wp2
  refine bodyPost_ret (v := .agg #[.int .u8 4, .int .i64 0, .string ⟨#[]⟩, .slice none 0 0, .int .i64 r]) (by simp [results, Try.results102, go_sem, *]) rfl ?_
  exact ⟨rfl, (Fr.refl No w).alloc _⟩

theorem list2_any (A : Option Addr) (n c : Nat) (w : World) : Calls Try.prog 101 #[.slice A n c] w fun e w' => e = .returned (.agg #[.int .u8 3, .int .i64 0, .string ⟨#[]⟩, .slice A n c, .int .i64 0]) ∧ Fr No w w' := by
  go_enter Try.func101, Try.ntmps101
  go_wp2
  refine bodyPost_ret (v := .agg #[.int .u8 3, .int .i64 0, .string ⟨#[]⟩, .slice A n c, .int .i64 0]) (by simp [results, Try.results101, go_sem, *]) rfl ?_
  exact ⟨rfl, (Fr.refl No w).alloc _⟩

set_option maxRecDepth 100000 in
set_option maxHeartbeats 2000000 in
/-- value.deep. -/
theorem deep_any (t : T) : ∀ (w : World) (lo hi : Nat), t.In w lo hi → hi ≤ w.heap.size → t.v.dep ≤ 16 → Calls Try.prog 120 #[t.val] w fun e w' => e = .returned (.int .i64 (t.v.dep : Int)) ∧ Fr No w w' := by
  induction t using T.ind with
  | h k n s A cap l r ih =>
    intro w lo hi ht hh hd
    rw [T.val_mk]
    have fit := (T.in_mk.1 ht).1
    have hlen := fit.len1
    have hk0 := fit.k0
    have hk1 := fit.k1
    have fr1 := (Fr.refl No w).alloc (.cells #[.int .u8 k, .int .i64 n, .string s, .slice A l.length cap, .int .i64 r] 27)
    by_cases h3 : k = 3
    case neg =>
      have h3' : (k != 3) = true := by simpa using h3
      have e : (T.mk k n s A cap l r).v.dep = 0 := by rw [T.v_mk, V.dep_mk, if_neg h3]
      rw [e]
      clear ih
      go_enter Try.func120, Try.ntmps120
      go_wp2
      go_ret
      exact ⟨rfl, fr1⟩
    subst h3
    have e : (T.mk 3 n s A cap l r).v.dep = top ((l.map T.v).map V.dep) + 1 := by rw [T.v_mk, V.dep_mk, if_pos rfl]; omega
    rw [e] at hd ⊢
    have hchild : ∀ x ∈ l, x.v.dep ≤ 15 := by
      intro x hx
      have := le_top (List.mem_map_of_mem (f := V.dep) (List.mem_map_of_mem (f := T.v) hx))
      omega
    clear e
    go_enter Try.func120, Try.ntmps120
    go_wp2_with fail
    go_loopw [3, 12] (fun v i wr => ∃ j m : Nat, j ≤ l.length ∧ i = .int .i64 j ∧ v = .int .i64 (m : Int) ∧ m = top (((l.map T.v).map V.dep).take j) ∧ m ≤ 16 ∧ Fr No (w.alloc (.cells #[.int .u8 3, .int .i64 n, .string s, .slice A l.length cap, .int .i64 r] 27)) wr) (fun _ i _ => l.length - (intOf i).toNat)
    case atStart =>
      exact ⟨0, 0, Nat.zero_le _, rfl, rfl, by simp [top], by omega, Fr.refl _ _⟩
    case round =>
      obtain ⟨j, m, hj, rfl, rfl, hm, hm17, fr⟩ := hrel
      have frw := fr1.trans fr
      have HM := hide hm
      clear hm
      by_cases hlt : j < l.length
      · obtain ⟨b, o, k1, n1, s1, A1, cap1, l1, r1, rfl, hb0, hb1, hx, hin, e0, e1, e2, e3, e4⟩ := T.elem (ht.no frw hh) hlt
        have IH := ih l[j] (List.getElem_mem hlt)
        have hc := hchild l[j] (List.getElem_mem hlt)
        have hto := top_take_succ ((l.map T.v).map V.dep) j (by simpa using hlt)
        rw [List.getElem_map, List.getElem_map] at hto
        rw [hx] at IH hc hto
        rw [T.val_mk] at IH
        generalize (T.mk k1 n1 s1 A1 cap1 l1 r1).v = u at *
        have g0 : b < wr.heap.size := by have := frw.size; omega
        have HF := hide fr
        have HW := hide frw
        have HT := hide hto
        have HI := hide (hin.no ((Fr.refl No wr).alloc (.cells #[.int .u8 k1, .int .i64 n1, .string s1, .slice A1 l1.length cap1, .int .i64 r1] 27)) (by have := frw.size; omega))
        have hh2 : hi ≤ (wr.alloc (.cells #[.int .u8 k1, .int .i64 n1, .string s1, .slice A1 l1.length cap1, .int .i64 r1] 27)).heap.size := by have := frw.size; simp; omega
        have HH := hide hh2
        clear hx ih fr frw fr1 hto hchild hin hh2
        go_wp2_with fail
        refine (IH _ lo hi HI.out HH.out (by omega)).mono ?_
        rintro e w2 ⟨rfl, fr2⟩
        have HF2 := hide fr2
        clear fr2
        generalize hq : u.dep = q at *
        have HQ := hide hq
        clear hq
        go_wp2
        go_roundw
        case rel =>
          refine ⟨j + 1, max m q, hlt, by go_num, ?_, by rw [HT.out, ← HM.out], by omega, (HF.out.alloc _).trans HF2.out⟩
          refine congrArg (Value.int .i64) ?_
          rcases Nat.lt_or_ge m q with h | h
          · rw [if_pos h, Nat.max_eq_right (by omega)]
          · rw [if_neg (by omega), Nat.max_eq_left h]
        case measure => simp [intOf]; omega
      · obtain rfl : l.length = j := by omega
        have HW := hide frw
        clear ih
        have hm2 : m = top ((l.map T.v).map V.dep) := by rw [HM.out, List.take_of_length_le (by simp)]
        have HM2 := hide hm2
        clear hm2
        go_wp2
        go_ret
        exact ⟨by rw [← HM2.out]; rfl, HW.out⟩

/-- value.Deep: of what may not be: 0. -/
theorem Deep_any (t : T) (w : World) (lo hi : Nat) (ht : t.In w lo hi) (hh : hi ≤ w.heap.size) : Calls Try.prog 57 #[t.val] w fun e w' => e = .returned (.int .i64 (if t.v.may = true then (t.v.dep : Int) else 0)) ∧ Fr No w w' := by
  have hM := fun w' h h' => may_any t w' lo hi h h'
  have hD := fun w' h h' h'' => deep_any t w' lo hi h h' h''
  cases t with
  | mk k n s A cap l r =>
    rw [T.val_mk] at *
    generalize hu : (T.mk k n s A cap l r).v = u at *
    have fr1 := (Fr.refl No w).alloc (.cells #[.int .u8 k, .int .i64 n, .string s, .slice A l.length cap, .int .i64 r] 27)
    have hK := Blk.new' w 27 #[.int .u8 k, .int .i64 n, .string s, .slice A l.length cap, .int .i64 r] rfl
    have hin1 := ht.no fr1 hh
    have hs1 : hi ≤ (w.alloc (.cells #[.int .u8 k, .int .i64 n, .string s, .slice A l.length cap, .int .i64 r] 27)).heap.size := by simp; omega
    have HU := hide hu
    clear hu ht
    cases hm : u.may with
    | false =>
      rw [hm] at hM
      simp only [Bool.false_eq_true, if_false]
      clear hm
      go_enter Try.func57, Try.ntmps57
      go_wp2_with fail
      refine (hM _ hin1 hs1).mono ?_
      rintro e w2 ⟨rfl, fr2⟩
      go_wp2
      go_ret
      exact ⟨rfl, fr1.trans fr2⟩
    | true =>
      have hd : u.dep ≤ 16 := by simp [V.may, V.fits] at hm; omega
      rw [hm] at hM
      simp only [if_true]
      clear hm
      go_enter Try.func57, Try.ntmps57
      go_wp2_with fail
      generalize World.alloc w _ = W0 at *
      refine (hM _ hin1 hs1).mono ?_
      rintro e w2 ⟨rfl, fr2⟩
      obtain ⟨c0, c1, c2, c3, c4, -⟩ := (hK.fr fr2 fun h => h).cells5
      have hin2 := hin1.no fr2 hs1
      have hs2 := Nat.le_trans hs1 fr2.size
      have HF := hide (fr1.trans fr2)
      clear fr1 fr2 hK
      go_wp2_with fail
      refine (hD _ hin2 hs2 hd).mono ?_
      rintro e w3 ⟨rfl, fr3⟩
      go_wp2
      go_ret
      exact ⟨rfl, HF.out.trans fr3⟩

end Go.Proofs.Ytihjmipmjogpoaa

/- A value that came in, as a tree in memory. -/
namespace Go.Proofs.Ytihjmipmjogpoaa
open Go.Joins Go.ChangeShapes Go.WideShapes Go.RowKit Go.Deep

theorem choose_list {α : Type} {Q : Nat → α → Prop} : ∀ (n : Nat), (∀ i, i < n → ∃ x, Q i x) → ∃ l : List α, l.length = n ∧ ∀ i x, l[i]? = some x → Q i x
  | 0, _ => ⟨[], rfl, fun i x h => by simp at h⟩
  | n + 1, h => by
    obtain ⟨l, hl, hq⟩ := choose_list n fun i hi => h i (by omega)
    obtain ⟨x, hx⟩ := h n (by omega)
    refine ⟨l ++ [x], by simp [hl], fun i y hy => ?_⟩
    rcases Nat.lt_trichotomy i n with hi | rfl | hi
    · rw [List.getElem?_append_left (by omega)] at hy
      exact hq i y hy
    · rw [List.getElem?_append_right (by omega), hl] at hy
      simp at hy; subst hy; exact hx
    · rw [List.getElem?_eq_none (by simp; omega)] at hy; cases hy

theorem cell_lt {w : World} {a : Addr} {v : Value} (h : w.cell? a = some v) : a.block < w.heap.size := by
  rcases Nat.lt_or_ge a.block w.heap.size with hlt | hge
  · exact hlt
  · unfold World.cell? at h
    rw [Array.getElem?_eq_none hge] at h
    simp at h

section
variable {H : Type} {enc : TypeId × Value → H}

theorem wf_u8 {n : Int} (h : (Lit.int .u8 n).wf = true) : 0 ≤ n ∧ n < 256 := by
  obtain ⟨h0, h1⟩ : IntKind.u8.min ≤ n ∧ n ≤ IntKind.u8.max := by simpa [Lit.wf] using h
  have e0 : IntKind.u8.min = 0 := by decide
  have e1 : IntKind.u8.max = 255 := by decide
  omega

theorem wf_i64 {n : Int} (h : (Lit.int .i64 n).wf = true) : -9223372036854775808 ≤ n ∧ n ≤ 9223372036854775807 := by
  obtain ⟨h0, h1⟩ : IntKind.i64.min ≤ n ∧ n ≤ IntKind.i64.max := by simpa [Lit.wf] using h
  have e0 : IntKind.i64.min = -9223372036854775808 := by decide
  have e1 : IntKind.i64.max = 9223372036854775807 := by decide
  omega

theorem reach_eq : reachBytes = 140737488351232 := rfl
theorem cells27 : Try.prog.cellsOf 27 = 5 := by kernel_rfl
theorem bytes27 : Try.prog.bytesOf 27 = 64 := by kernel_rfl
theorem add_at (b o n : Nat) : (⟨b, o, none⟩ : Addr).add n = ⟨b, o + n, none⟩ := by
  unfold Addr.add; split <;> simp_all

theorem weights27 (ds : List (DataW H)) : (DataW.agg ds).weights Try.prog 27 = DataW.weightsEach Try.prog [23, 2, 9, 24, 25] ds := by
  rw [DataW.weights, Try.underlying27]; rfl

theorem weights24 (es rs : List (DataW H)) : (DataW.slice es rs).weights Try.prog 24 = (es.length + rs.length) * 64 :: (DataW.weightsAll Try.prog 27 es ++ DataW.weightsAll Try.prog 27 rs) := by
  rw [DataW.weights, Try.underlying24]; simp only [bytes27]

theorem weights9 (bs : List UInt8) : (DataW.lit (H := H) (.string bs)).weights Try.prog 9 = [bs.length] := by rw [DataW.weights]

theorem mem_weightsAll {P : Program} {e : TypeId} {m : Nat} : ∀ {ds : List (DataW H)} {d : DataW H}, d ∈ ds → m ∈ d.weights P e → m ∈ DataW.weightsAll P e ds
  | [], _, h, _ => by simp at h
  | d0 :: ds, d, h, hm => by
    rw [DataW.weightsAll, List.mem_append]
    rcases List.mem_cons.1 h with rfl | h
    · exact .inl hm
    · exact .inr (mem_weightsAll h hm)

set_option maxRecDepth 100000 in
set_option maxHeartbeats 1000000 in
theorem open_tree (W : World) (fuel : Nat) : ∀ (cs : List Value) (x : DataW H × List MemPlace), DataW.trod enc Try.prog W 0 (fun _ => true) true fuel 27 cs = some x → (∀ m ∈ x.1.weights Try.prog 27, m ≤ reachBytes) →
    ∃ t : T, cs = t.cells ∧ t.In W 0 W.heap.size := by
  induction fuel using Nat.strongRecOn with
  | ind fuel IH =>
    intro cs x h hw
    obtain ⟨xs, n, rfl, rfl, hlen, hxs, hg⟩ := DataW.trod_struct Try.underlying27 h
    rw [cells27] at hlen
    match cs, hlen, xs, hxs with
    | [c0, c1, c2, c3, c4], _, [y0, y1, y2, y3, y4], _ =>
      have g0 : DataW.trod enc Try.prog W 0 (fun _ => true) true n 23 [c0] = some y0 := hg 0 _ rfl
      have g1 : DataW.trod enc Try.prog W 0 (fun _ => true) true n 2 [c1] = some y1 := hg 1 _ rfl
      have g2 : DataW.trod enc Try.prog W 0 (fun _ => true) true n 9 [c2] = some y2 := hg 2 _ rfl
      have g3 : DataW.trod enc Try.prog W 0 (fun _ => true) true n 24 [c3] = some y3 := hg 3 _ rfl
      have g4 : DataW.trod enc Try.prog W 0 (fun _ => true) true n 25 [c4] = some y4 := hg 4 _ rfl
      obtain ⟨k, e0, rfl, wk⟩ := DataW.trod_int Try.underlying23 g0
      obtain ⟨m1, e1, rfl, wn⟩ := DataW.trod_int Try.underlying2 g1
      obtain ⟨s, e2, rfl, ws⟩ := DataW.trod_string Try.underlying9 g2
      obtain ⟨r, e4, rfl, wr⟩ := DataW.trod_int Try.underlying25 g4
      simp only [List.cons.injEq, and_true] at e0 e1 e2 e4
      subst e0 e1 e2 e4
      have hW : ∀ m, m ∈ (y3.1.weights Try.prog 24) ∨ m = s.data.toList.length → m ≤ reachBytes := by
        intro m hm
        refine hw m ?_
        rw [List.map_cons, List.map_cons, List.map_cons, List.map_cons, List.map_cons, weights27, DataW.weightsEach, DataW.weightsEach, DataW.weightsEach, DataW.weightsEach, weights9]
        rcases hm with hm | hm
        · exact List.mem_append_right _ (List.mem_append_right _ (List.mem_append_right _ (List.mem_append_left _ hm)))
        · exact List.mem_append_right _ (List.mem_append_right _ (List.mem_append_left _ (by rw [hm]; exact List.mem_singleton.2 rfl)))
      have hs : s.size ≤ 140737488351232 := by
        have := hW _ (.inr rfl)
        rw [reach_eq, Array.length_toList] at this
        exact this
      obtain ⟨k0, k1⟩ := wf_u8 wk
      obtain ⟨n0, n1⟩ := wf_i64 wn
      obtain ⟨r0, r1⟩ := wf_i64 wr
      rcases DataW.trod_slice Try.underlying24 g3 with ⟨e3, -⟩ | ⟨a, len, cap, elems, rest, n', rfl, e3, rfl, -, hcap, hmax, hel, hat, hsp, -⟩
      · simp only [List.cons.injEq, and_true] at e3
        subst e3
        exact ⟨T.mk k m1 s none 0 [] r, rfl, T.in_mk.2 ⟨⟨k0, k1, n0, n1, hs, by simp, Nat.le_refl _, r0, r1⟩, fun h => absurd rfl h, by simp⟩⟩
      · simp only [List.cons.injEq, and_true] at e3
        subst e3
        have hlen1 : len * 64 ≤ 140737488351232 := by
          have := hW ((elems.length + rest.length) * 64) (.inl (by rw [weights24]; simp))
          rw [reach_eq, hel] at this
          omega
        rw [cells27] at hat
        have hone : ∀ i, i < len → ∃ t : T, (∀ j u, t.cells[j]? = some u → W.cell? ((a.add (i * 5)).add j) = some u) ∧ t.In W 0 W.heap.size := by
          intro i hi
          have h1 := hat i hi
          have h2 : elems[i]? = some (elems[i]'(by omega)) := List.getElem?_eq_getElem (by omega)
          rw [h2] at h1
          obtain ⟨cs', hc, ht'⟩ := Option.bind_eq_some_iff.1 h1
          obtain ⟨t, rfl, hin⟩ := IH n' (by omega) cs' _ ht' (fun m hm => hW m (.inl (by
            rw [weights24]
            refine List.mem_cons_of_mem _ (List.mem_append_left _ ?_)
            exact mem_weightsAll (List.mem_map_of_mem (List.getElem_mem _)) hm)))
          obtain ⟨-, hcl, hcell⟩ := World.cells?_some hc
          refine ⟨t, fun j u hu => ?_, hin⟩
          have hj : j < 5 := by
            rcases Nat.lt_or_ge j 5 with h | h
            · exact h
            · rw [List.getElem?_eq_none (by rw [T.cells_length]; exact h)] at hu; cases hu
          rw [hcell j hj, hu]
        obtain ⟨l, hl, hq⟩ := choose_list len hone
        subst hl
        obtain ⟨b, o, sp⟩ := a
        refine ⟨T.mk k m1 s (some ⟨b, o, sp⟩) cap l r, rfl, T.in_mk.2 ⟨⟨k0, k1, n0, n1, hs, hlen1, hcap, r0, r1⟩, fun hne => ?_, fun x hx => ?_⟩⟩
        · have hlp : 0 < l.length := List.length_pos_iff.2 hne
          obtain ⟨hc0, -⟩ := hq 0 _ (List.getElem?_eq_getElem hlp)
          have hcc := hc0 0 _ (List.getElem?_eq_getElem (by rw [T.cells_length]; omega))
          have hspot : sp = none := by simpa [Addr.add] using World.cell?_spot hcc
          subst hspot
          have hlt := cell_lt hcc
          refine ⟨b, o, rfl, Nat.zero_le _, by simpa [Addr.add] using hlt, fun i x hx j u hu => ?_⟩
          have := (hq i x hx).1 j u hu
          rw [add_at, add_at] at this
          exact this
        · obtain ⟨i, hi, rfl⟩ := List.mem_iff_getElem.1 hx
          exact (hq i _ (List.getElem?_eq_getElem hi)).2

set_option maxRecDepth 100000 in
/-- An argument of the type Value. -/
theorem open_val {W : World} {b0 : Nat} {v : Value} {d : DataW H} {p : List MemPlace} (hv : Value.okWide Try.prog W .any b0 27 v) (h : DataW.Trod enc Try.prog W 0 (fun _ => true) true 27 v d p) (hw : ∀ m ∈ d.weights Try.prog 27, m ≤ reachBytes) :
    ∃ t : T, v = t.val ∧ t.In W 0 W.heap.size := by
  obtain ⟨cs, rfl, hsz⟩ := okWide_struct Try.underlying27 hv
  obtain ⟨fuel, hf⟩ := h
  obtain ⟨t, ht, hin⟩ := open_tree W fuel _ _ hf hw
  refine ⟨t, ?_, hin⟩
  cases t with
  | mk k n s A cap l r =>
    obtain ⟨cs⟩ := cs
    have ht' : cs = (T.mk k n s A cap l r).cells := ht
    rw [ht']
    rfl
end

end Go.Proofs.Ytihjmipmjogpoaa

/- Rows of values in memory: what came in, what was appended. -/
namespace Go.Proofs.Ytihjmipmjogpoaa
open Go.Joins Go.ChangeShapes Go.WideShapes Go.RowKit Go.Deep

/-- Some values that lie one behind the other. -/
def T.row (A : Option Addr) (cap : Nat) (l : List T) : T := .mk 3 0 ⟨#[]⟩ A cap l 0

/-- The cells of some values. -/
def rowCells (l : List T) : List Value := l.flatMap T.cells

theorem rowCells_length (l : List T) : (rowCells l).length = l.length * 5 := by
  induction l with
  | nil => rfl
  | cons x l ih => simp only [rowCells, List.flatMap_cons, List.length_append] at ih ⊢; rw [T.cells_length, ih]; simp only [List.length_cons]; omega

theorem rowCells_get : ∀ (l : List T) (i c : Nat) (x : T) (u : Value), l[i]? = some x → x.cells[c]? = some u → (rowCells l)[i * 5 + c]? = some u
  | [], i, c, x, u, h, _ => by simp at h
  | y :: l, 0, c, x, u, h, hu => by
    simp at h; subst h
    simp only [rowCells, List.flatMap_cons, Nat.zero_mul, Nat.zero_add]
    rw [List.getElem?_append_left]
    · exact hu
    · exact (List.getElem?_eq_some_iff.1 hu).1
  | y :: l, i + 1, c, x, u, h, hu => by
    simp only [List.getElem?_cons_succ] at h
    have := rowCells_get l i c x u h hu
    simp only [rowCells, List.flatMap_cons] at this ⊢
    rw [List.getElem?_append_right (by rw [T.cells_length]; omega), T.cells_length, show (i + 1) * 5 + c - 5 = i * 5 + c by omega]
    exact this

theorem rowCells_snoc (l : List T) (x : T) : rowCells (l ++ [x]) = rowCells l ++ x.cells := by simp [rowCells]

theorem cells_one (x : T) : ∀ u ∈ x.cells, u.oneCell' = true := by
  cases x; simp [T.cells, Value.oneCell']

theorem owns_form {w : World} {base : Nat} {e : TypeId} {size : Nat} {v : Value} {n : Nat} {xs : List Value} (h : w.ownsRow base e size v n xs) : ∃ A cap, v = .slice A n cap := by
  rcases h.2 with ⟨rfl, rfl⟩ | ⟨g, cap, cur, rfl, _⟩
  · exact ⟨_, _, rfl⟩
  · exact ⟨_, _, rfl⟩

/-- A row that the call itself owns, as a row of values. -/
theorem owns_row {w : World} {base : Nat} {A : Option Addr} {cap : Nat} {l : List T} {lo hi : Nat} (h : w.ownsRow base 27 5 (.slice A l.length cap) l.length (rowCells l)) (hl : ∀ x ∈ l, x.In w lo hi) (hlen : l.length * 64 ≤ 140737488351232) (hlo : lo ≤ base) (hhi : hi ≤ w.heap.size) :
    (T.row A cap l).In w lo w.heap.size := by
  rcases h.2 with ⟨hs, h0⟩ | ⟨g, cap', cur, hs, hb, hg, hc, hm, hsz, hx⟩
  · obtain rfl : l = [] := List.eq_nil_of_length_eq_zero h0
    simp at hs
    obtain ⟨rfl, rfl⟩ := hs
    exact T.in_mk.2 ⟨⟨by decide, by decide, by decide, by decide, by decide, by decide, Nat.le_refl _, by decide, by decide⟩, fun h => absurd rfl h, by simp⟩
  · simp at hs
    obtain ⟨rfl, rfl⟩ := hs
    refine T.in_mk.2 ⟨⟨by decide, by decide, by decide, by decide, by decide, hlen, hc, by decide, by decide⟩, fun _ => ⟨g, 0, rfl, by omega, ?_, fun i x hi' c u hu => ?_⟩, fun x hx => T.In.more (Nat.le_refl _) hhi _ (hl x hx)⟩
    · rcases Nat.lt_or_ge g w.heap.size with hlt | hge
      · exact hlt
      · rw [Array.getElem?_eq_none hge] at hg; cases hg
    · have hcell : w.cell? ⟨g, 0 + i * 5 + c, none⟩ = cur[0 + i * 5 + c]? := cell_of_row w g _ cur 27 (0, 0) hg
      rw [hcell, Nat.zero_add]
      have h1 := rowCells_get l i c x u hi' hu
      rw [← hx, List.getElem?_take] at h1
      split at h1
      · simpa using h1
      · cases h1

theorem owns_lt {w : World} {base : Nat} {e : TypeId} {size : Nat} {v : Value} {n : Nat} {xs : List Value} (h : w.ownsRow base e size v n xs) : ∀ g, v.ownBlock = some g → base ≤ g ∧ g < w.heap.size := by
  intro g hg
  rcases h.2 with ⟨rfl, h0⟩ | ⟨g', cap', cur, rfl, hb, hh, _⟩
  · cases hg
  · simp [Value.ownBlock] at hg
    subst hg
    refine ⟨hb, ?_⟩
    rcases Nat.lt_or_ge g' w.heap.size with hlt | hge
    · exact hlt
    · rw [Array.getElem?_eq_none hge] at hh; cases hh

theorem owns_fr {S : Nat → Prop} {a w : World} {base : Nat} {e : TypeId} {size : Nat} {v : Value} {n : Nat} {xs : List Value} (h : a.ownsRow base e size v n xs) (hf : Fr S a w) (hn : ∀ g, v.ownBlock = some g → ¬ S g) : w.ownsRow base e size v n xs := by
  have hl := owns_lt h
  refine ⟨h.1, ?_⟩
  rcases h.2 with h0 | ⟨g, cap, cur, rfl, hb, hg, hr⟩
  · exact .inl h0
  · exact .inr ⟨g, cap, cur, rfl, hb, (hf.block g (hl g rfl).2 (hn g rfl)).trans hg, hr⟩

/-- The cells of one of a row's values. -/
theorem T.cells_at {w : World} {lo hi b o : Nat} {k n : Int} {s : ByteArray} {cap : Nat} {l : List T} {r : Int} (h : (T.mk k n s (some ⟨b, o, none⟩) cap l r).In w lo hi) {j : Nat} (hj : j < l.length) {k1 n1 : Int} {s1 : ByteArray} {A1 : Option Addr} {cap1 : Nat} {l1 : List T} {r1 : Int}
    (hx : l[j] = T.mk k1 n1 s1 A1 cap1 l1 r1) :
    w.cell? ⟨b, o + j * 5, none⟩ = some (.int .u8 k1) ∧ w.cell? ⟨b, o + j * 5 + 1, none⟩ = some (.int .i64 n1) ∧ w.cell? ⟨b, o + j * 5 + 2, none⟩ = some (.string s1) ∧
      w.cell? ⟨b, o + j * 5 + 3, none⟩ = some (.slice A1 l1.length cap1) ∧ w.cell? ⟨b, o + j * 5 + 4, none⟩ = some (.int .i64 r1) := by
  obtain ⟨b', o', k2, n2, s2, A2, cap2, l2, r2, hbb, _, _, hx', _, e0, e1, e2, e3, e4⟩ := T.elem h hj
  simp only [Option.some.injEq, Addr.mk.injEq, and_true] at hbb
  obtain ⟨rfl, rfl⟩ := hbb
  rw [hx] at hx'
  injection hx' with q1 q2 q3 q4 q5 q6 q7
  subst q1 q2 q3 q4 q5 q6 q7
  exact ⟨e0, e1, e2, e3, e4⟩

theorem value_row : (Try.prog.info? 27).map (fun i => (i.zero, i.size, i.bytes)) = some (some (.agg #[.int .u8 0, .int .i64 0, .string ⟨#[]⟩, .slice none 0 0, .int .i64 0]), 5, 64) := by kernel_rfl

section
variable {H : Type} {enc : TypeId × Value → H}

set_option maxRecDepth 100000 in
/-- An argument of the type []Value. -/
theorem open_vals {W : World} {b0 : Nat} {v : Value} {d : DataW H} {p : List MemPlace} (hv : Value.okWide Try.prog W .any b0 24 v) (h : DataW.Trod enc Try.prog W 0 (fun _ => true) true 24 v d p) (hw : ∀ m ∈ d.weights Try.prog 24, m ≤ reachBytes) :
    ∃ A cap l, v = .slice A l.length cap ∧ (T.row A cap l).In W 0 W.heap.size := by
  obtain ⟨A, len, cap, rfl⟩ := okWide_slice Try.underlying24 hv
  obtain ⟨fuel, hf⟩ := h
  have hcs : Value.cells (.slice A len cap) = #[.slice A len cap] := rfl
  rw [hcs] at hf
  rcases DataW.trod_slice Try.underlying24 hf with ⟨e3, -⟩ | ⟨a, len', cap', elems, rest, n', rfl, e3, e5, -, hcap, hmax, hel, hat, hsp, -⟩
  · simp at e3
    obtain ⟨rfl, rfl, rfl⟩ := e3
    exact ⟨none, 0, [], rfl, T.in_mk.2 ⟨⟨by decide, by decide, by decide, by decide, by decide, by decide, Nat.le_refl _, by decide, by decide⟩, fun h => absurd rfl h, by simp⟩⟩
  · simp at e3
    obtain ⟨rfl, rfl, rfl⟩ := e3
    simp only [Prod.mk.injEq] at e5
    obtain ⟨rfl, -⟩ := e5
    have hlen1 : len * 64 ≤ 140737488351232 := by
      have := hw ((elems.length + rest.length) * 64) (by rw [weights24]; simp)
      rw [reach_eq, hel] at this
      omega
    rw [cells27] at hat
    have hone : ∀ i, i < len → ∃ t : T, (∀ j u, t.cells[j]? = some u → W.cell? ((a.add (i * 5)).add j) = some u) ∧ t.In W 0 W.heap.size := by
      intro i hi
      have h1 := hat i hi
      have h2 : elems[i]? = some (elems[i]'(by omega)) := List.getElem?_eq_getElem (by omega)
      rw [h2] at h1
      obtain ⟨cs', hc, ht'⟩ := Option.bind_eq_some_iff.1 h1
      obtain ⟨t, rfl, hin⟩ := open_tree W n' cs' _ ht' (fun m hm => hw m (by
        rw [weights24]
        refine List.mem_cons_of_mem _ (List.mem_append_left _ ?_)
        exact mem_weightsAll (List.mem_map_of_mem (List.getElem_mem _)) hm))
      obtain ⟨-, hcl, hcell⟩ := World.cells?_some hc
      refine ⟨t, fun j u hu => ?_, hin⟩
      have hj : j < 5 := by
        rcases Nat.lt_or_ge j 5 with h | h
        · exact h
        · rw [List.getElem?_eq_none (by rw [T.cells_length]; exact h)] at hu; cases hu
      rw [hcell j hj, hu]
    obtain ⟨l, hl, hq⟩ := choose_list len hone
    subst hl
    obtain ⟨b, o, sp⟩ := a
    refine ⟨some ⟨b, o, sp⟩, cap, l, rfl, T.in_mk.2 ⟨⟨by decide, by decide, by decide, by decide, by decide, hlen1, hcap, by decide, by decide⟩, fun hne => ?_, fun x hx => ?_⟩⟩
    · have hlp : 0 < l.length := List.length_pos_iff.2 hne
      obtain ⟨hc0, -⟩ := hq 0 _ (List.getElem?_eq_getElem hlp)
      have hcc := hc0 0 _ (List.getElem?_eq_getElem (by rw [T.cells_length]; omega))
      have hspot : sp = none := by simpa [Addr.add] using World.cell?_spot hcc
      subst hspot
      have hlt := cell_lt hcc
      refine ⟨b, o, rfl, Nat.zero_le _, by simpa [Addr.add] using hlt, fun i x hx j u hu => ?_⟩
      have := (hq i x hx).1 j u hu
      rw [add_at, add_at] at this
      exact this
    · obtain ⟨i, hi, rfl⟩ := List.mem_iff_getElem.1 hx
      exact (hq i _ (List.getElem?_eq_getElem hi)).2
end

end Go.Proofs.Ytihjmipmjogpoaa
