/- Texts joined: Gq5, Gx, Gc, Gr, Gy, Ge. -/
import Derived.Test.YtlejelbefmkakaaGreatJn1
import Derived.Test.YtlejelbefmkakaaGreatJn2
import Derived.Test.YtlejelbefmkakaaGreatJn10
import Derived.Deep.AppendLies
import Derived.Deep.Upon
import Derived.LoopN
import Derived.Deep.Cut
import Derived.Deep.CutRange
import Derived.Deep.RegionHeld3
set_option maxHeartbeats 8000000
set_option maxRecDepth 100000
namespace Go.Proofs.YtlejelbefmkakaaGreat
open Go.RowKit
section
variable {m:Gm} {lo:Nat} {W:World}
theorem zwv (b:Nat) (home k n:Int) (s:ByteArray) (A:Option Addr) (len cap:Nat) (r0:Int) (VA:Option Addr) (vl vc:Nat) (n1 lost ofr byr set:Int) (full:Bool) (CA:Option Addr) (cl cc:Nat) (NA:Option Addr) (nl nc:Nat) (r kd:Int) (hk:kd≠6/\kd≠7/\kd≠9/\kd≠11/\kd≠13/\kd≠14/\kd≠15/\kd≠16):
 Calls Tryz.prog 158 #[.pointer (some ⟨b,0,none⟩),.int .i64 r,.agg (c16 kd home k n s A len cap r0 VA vl vc n1 lost ofr byr set full CA cl cc NA nl nc)] W λe w'=>e= .returned (.bool true)/\Fr No W w':=by
 obtain⟨h6,h7,h9,a2,a0,a3,a1,a4⟩:=hk;have e6:(kd==6)=false:=by simpa using h6
 have e7:(kd==7)=false:=by simpa using h7
 have e9:(kd==9)=false:=by simpa using h9
 have a8:(kd==11)=false:=by simpa using a2
 have a6:(kd==13)=false:=by simpa using a0
 have a7:(kd==14)=false:=by simpa using a3
 have a5:(kd==15)=false:=by simpa using a1
 have a9:(kd==16)=false:=by simpa using a4
 unfold c16;clear h6 h7 h9 a2 a0 a3 a1 a4;go_enter Tryz.func158,Tryz.ntmps158;go_wp2;go_ret;exact⟨rfl,((Fr.refl No W).alloc _).alloc _⟩
theorem zww (h:m.Ok lo W) (home k n:Int) (s:ByteArray) (A:Option Addr) (len cap:Nat) (r0:Int) (VA:Option Addr) (vl vc:Nat) (n1 lost ofr byr set:Int) (full:Bool) (CA:Option Addr) (cl cc:Nat) (NA:Option Addr) (nl nc:Nat) (r:Int):
 Calls Tryz.prog 158 #[.pointer (some ⟨m.wb,0,none⟩),.int .i64 r,.agg (c16 7 home k n s A len cap r0 VA vl vc n1 lost ofr byr set full CA cl cc NA nl nc)] W λe w'=>e= .returned (.bool (m.hkB ofr 5 home))/\Fr No W w':=by
 have a2:=(Blk.new W 31 #[.pointer (some ⟨m.wb,0,none⟩)]).alloc (.cells (c16 7 home k n s A len cap r0 VA vl vc n1 lost ofr byr set full CA cl cc NA nl nc) 138);have a1:=Blk.new' (W.alloc (.cells #[.pointer (some ⟨m.wb,0,none⟩)] 31)) 138 (c16 7 home k n s A len cap r0 VA vl vc n1 lost ofr byr set full CA cl cc NA nl nc) (g:=W.heap.size+1) s_;have a3:=((Fr.refl No W).alloc (.cells #[.pointer (some ⟨m.wb,0,none⟩)] 31)).alloc (.cells (c16 7 home k n s A len cap r0 VA vl vc n1 lost ofr byr set full CA cl cc NA nl nc) 138);obtain⟨b4,a0⟩:∃q,(m.hkB ofr 5 home)=q:=⟨_,rfl⟩;rw[a0];have HQ:=zaa a0;clear a0;have hc:=zfi (h.no a3) a2 (r:=ofr) (k:=5) d_ (gx:=W.heap.size+1) (a1.cell 1) a1.lt;unfold c16 at hc;have HC:=zaa hc;clear hc;unfold c16 at a2 a1 a3 ⊢;have b3:=zaa a2;have b2:=zaa a1;have a7:=zaa a3;have b5:=zaa h;obtain⟨d0,d1,d2,d3,d4,d5,d6,d7,d8,d9,a6,a8,a9,b0,a4,b1⟩:=a1.cells16;have dq:=a1.lt;have e0:=a2.cell 0;have a5:=a2.lt;simp only[List.getElem?_toArray,List.getElem?_cons_zero]at e0;clear a2 a1 a3 h;go_enter Tryz.func158,Tryz.ntmps158;go_wp2_with fail;generalize World.alloc (World.alloc W _) _=W0 at*;refine HC.out.mono ?_;rintro e w1 ⟨rfl,f1⟩;clear d0 d1 d2 d3 d4 d5 d6 d7 d8 d9 a6 a8 a9 b0 a4 b1 dq e0 a5;go_wp2;go_ret;exact⟨by rw[<-HQ.out];rfl,a7.out.trans f1⟩
theorem zwx (h:m.Ok lo W) (home k n:Int) (s:ByteArray) (A:Option Addr) (len cap:Nat) (r0:Int) (VA:Option Addr) (vl vc:Nat) (n1 lost ofr byr set:Int) (full:Bool) (CA:Option Addr) (cl cc:Nat) (NA:Option Addr) (nl nc:Nat) (r:Int):
 Calls Tryz.prog 158 #[.pointer (some ⟨m.wb,0,none⟩),.int .i64 r,.agg (c16 9 home k n s A len cap r0 VA vl vc n1 lost ofr byr set full CA cl cc NA nl nc)] W λe w'=>e= .returned (.bool (m.hkB ofr 8 home))/\Fr No W w':=by
 have a2:=(Blk.new W 31 #[.pointer (some ⟨m.wb,0,none⟩)]).alloc (.cells (c16 9 home k n s A len cap r0 VA vl vc n1 lost ofr byr set full CA cl cc NA nl nc) 138);have a1:=Blk.new' (W.alloc (.cells #[.pointer (some ⟨m.wb,0,none⟩)] 31)) 138 (c16 9 home k n s A len cap r0 VA vl vc n1 lost ofr byr set full CA cl cc NA nl nc) (g:=W.heap.size+1) s_;have a3:=((Fr.refl No W).alloc (.cells #[.pointer (some ⟨m.wb,0,none⟩)] 31)).alloc (.cells (c16 9 home k n s A len cap r0 VA vl vc n1 lost ofr byr set full CA cl cc NA nl nc) 138);obtain⟨b4,a0⟩:∃q,(m.hkB ofr 8 home)=q:=⟨_,rfl⟩;rw[a0];have HQ:=zaa a0;clear a0;have hc:=zfi (h.no a3) a2 (r:=ofr) (k:=8) d_ (gx:=W.heap.size+1) (a1.cell 1) a1.lt;unfold c16 at hc;have HC:=zaa hc;clear hc;unfold c16 at a2 a1 a3 ⊢;have b3:=zaa a2;have b2:=zaa a1;have a7:=zaa a3;have b5:=zaa h;obtain⟨d0,d1,d2,d3,d4,d5,d6,d7,d8,d9,a6,a8,a9,b0,a4,b1⟩:=a1.cells16;have dq:=a1.lt;have e0:=a2.cell 0;have a5:=a2.lt;simp only[List.getElem?_toArray,List.getElem?_cons_zero]at e0;clear a2 a1 a3 h;go_enter Tryz.func158,Tryz.ntmps158;go_wp2_with fail;generalize World.alloc (World.alloc W _) _=W0 at*;refine HC.out.mono ?_;rintro e w1 ⟨rfl,f1⟩;clear d0 d1 d2 d3 d4 d5 d6 d7 d8 d9 a6 a8 a9 b0 a4 b1 dq e0 a5;go_wp2;go_ret;exact⟨by rw[<-HQ.out];rfl,a7.out.trans f1⟩
theorem zwy (h:m.Ok lo W) (home k n:Int) (s:ByteArray) (A:Option Addr) (len cap:Nat) (r0:Int) (VA:Option Addr) (vl vc:Nat) (n1 lost ofr byr set:Int) (full:Bool) (CA:Option Addr) (cl cc:Nat) (NA:Option Addr) (nl nc:Nat) (r:Int):
 Calls Tryz.prog 158 #[.pointer (some ⟨m.wb,0,none⟩),.int .i64 r,.agg (c16 6 home k n s A len cap r0 VA vl vc n1 lost ofr byr set full CA cl cc NA nl nc)] W λe w'=>e= .returned (.bool (m.hkB ofr 5 home&& !m.othB r 6 ofr))/\Fr No W w':=by
 have a2:=(Blk.new W 31 #[.pointer (some ⟨m.wb,0,none⟩)]).alloc (.cells (c16 6 home k n s A len cap r0 VA vl vc n1 lost ofr byr set full CA cl cc NA nl nc) 138);have a1:=Blk.new' (W.alloc (.cells #[.pointer (some ⟨m.wb,0,none⟩)] 31)) 138 (c16 6 home k n s A len cap r0 VA vl vc n1 lost ofr byr set full CA cl cc NA nl nc) (g:=W.heap.size+1) s_;have a3:=((Fr.refl No W).alloc (.cells #[.pointer (some ⟨m.wb,0,none⟩)] 31)).alloc (.cells (c16 6 home k n s A len cap r0 VA vl vc n1 lost ofr byr set full CA cl cc NA nl nc) 138);obtain⟨b6,a0⟩:∃q,(m.hkB ofr 5 home&& !m.othB r 6 ofr)=q:=⟨_,rfl⟩;rw[a0];have HQ:=zaa a0;clear a0;have hc:=zfi (h.no a3) a2 (r:=ofr) (k:=5) d_ (gx:=W.heap.size+1) (a1.cell 1) a1.lt;have HN:=zaa λW' (f:Fr No W W')=>zls (h.no f) r 6 ofr;unfold c16 at hc;have HC:=zaa hc;clear hc;unfold c16 at a2 a1 a3 ⊢;have b4:=zaa a2;have b3:=zaa a1;have b5:=zaa a3;have b7:=zaa h;obtain⟨d0,d1,d2,d3,d4,d5,d6,d7,d8,d9,a6,a8,a9,b0,a4,b2⟩:=a1.cells16;have dq:=a1.lt;have e0:=a2.cell 0;have a5:=a2.lt;simp only[List.getElem?_toArray,List.getElem?_cons_zero]at e0;clear a2 a1 a3 h;go_enter Tryz.func158,Tryz.ntmps158;go_wp2_with fail;generalize World.alloc (World.alloc W _) _=W0 at*;refine HC.out.mono ?_;rintro e w1 ⟨rfl,f1⟩;have hb:=b3.out.fr f1 λh=>h;have b1:=b4.out.fr f1 λh=>h;clear d0 d1 d2 d3 d4 d5 d6 d7 d8 d9 a6 a8 a9 b0 a4 b2 dq e0 a5;obtain⟨d0,d1,d2,d3,d4,d5,d6,d7,d8,d9,a6,a8,a9,b0,a4,b2⟩:=hb.cells16;have dq:=hb.lt;have e0:w1.cell? ⟨W.heap.size,0,none⟩=some (.pointer (some ⟨m.wb,0,none⟩)):=b1.cell 0;have a5:=b1.lt;clear hb b1;have a7:=zaa (b5.out.trans f1);generalize m.hkB ofr 5 home=q1 at*;generalize m.othB r 6 ofr=q2 at*;clear f1;cases q1
 .go_wp2;go_ret;exact⟨by rw[<-HQ.out];simp,a7.out⟩
 .go_wp2_with fail;refine(HN.out w1 a7.out).mono ?_;rintro e w2 ⟨rfl,f2⟩;clear d0 d1 d2 d3 d4 d5 d6 d7 d8 d9 a6 a8 a9 b0 a4 b2 dq e0 a5;go_wp2;go_ret;exact⟨by rw[<-HQ.out];simp,a7.out.trans f2⟩
theorem zur (h:m.Ok lo W) (home k n:Int) (s:ByteArray) (A:Option Addr) (len cap:Nat) (r0:Int) (VA:Option Addr) (vl vc:Nat) (n1 lost ofr byr set:Int) (full:Bool) (CA:Option Addr) (cl cc:Nat) (NA:Option Addr) (nl nc:Nat) (r:Int):
 Calls Tryz.prog 158 #[.pointer (some ⟨m.wb,0,none⟩),.int .i64 r,.agg (c16 11 home k n s A len cap r0 VA vl vc n1 lost ofr byr set full CA cl cc NA nl nc)] W λe w'=>e= .returned (.bool (m.hkB ofr 10 home&& !m.othB r 11 ofr))/\Fr No W w':=by
 have a2:=(Blk.new W 31 #[.pointer (some ⟨m.wb,0,none⟩)]).alloc (.cells (c16 11 home k n s A len cap r0 VA vl vc n1 lost ofr byr set full CA cl cc NA nl nc) 138);have a1:=Blk.new' (W.alloc (.cells #[.pointer (some ⟨m.wb,0,none⟩)] 31)) 138 (c16 11 home k n s A len cap r0 VA vl vc n1 lost ofr byr set full CA cl cc NA nl nc) (g:=W.heap.size+1) s_;have a3:=((Fr.refl No W).alloc (.cells #[.pointer (some ⟨m.wb,0,none⟩)] 31)).alloc (.cells (c16 11 home k n s A len cap r0 VA vl vc n1 lost ofr byr set full CA cl cc NA nl nc) 138);obtain⟨b6,a0⟩:∃q,(m.hkB ofr 10 home&& !m.othB r 11 ofr)=q:=⟨_,rfl⟩;rw[a0];have HQ:=zaa a0;clear a0;have hc:=zfi (h.no a3) a2 (r:=ofr) (k:=10) d_ (gx:=W.heap.size+1) (a1.cell 1) a1.lt;have HN:=zaa λW' (f:Fr No W W')=>zls (h.no f) r 11 ofr;unfold c16 at hc;have HC:=zaa hc;clear hc;unfold c16 at a2 a1 a3 ⊢;have b4:=zaa a2;have b3:=zaa a1;have b5:=zaa a3;have b7:=zaa h;obtain⟨d0,d1,d2,d3,d4,d5,d6,d7,d8,d9,a6,a8,a9,b0,a4,b2⟩:=a1.cells16;have dq:=a1.lt;have e0:=a2.cell 0;have a5:=a2.lt;simp only[List.getElem?_toArray,List.getElem?_cons_zero]at e0;clear a2 a1 a3 h;go_enter Tryz.func158,Tryz.ntmps158;go_wp2_with fail;generalize World.alloc (World.alloc W _) _=W0 at*;refine HC.out.mono ?_;rintro e w1 ⟨rfl,f1⟩;have hb:=b3.out.fr f1 λh=>h;have b1:=b4.out.fr f1 λh=>h;clear d0 d1 d2 d3 d4 d5 d6 d7 d8 d9 a6 a8 a9 b0 a4 b2 dq e0 a5;obtain⟨d0,d1,d2,d3,d4,d5,d6,d7,d8,d9,a6,a8,a9,b0,a4,b2⟩:=hb.cells16;have dq:=hb.lt;have e0:w1.cell? ⟨W.heap.size,0,none⟩=some (.pointer (some ⟨m.wb,0,none⟩)):=b1.cell 0;have a5:=b1.lt;clear hb b1;have a7:=zaa (b5.out.trans f1);generalize m.hkB ofr 10 home=q1 at*;generalize m.othB r 11 ofr=q2 at*;clear f1;cases q1
 .go_wp2;go_ret;exact⟨by rw[<-HQ.out];simp,a7.out⟩
 .go_wp2_with fail;refine(HN.out w1 a7.out).mono ?_;rintro e w2 ⟨rfl,f2⟩;clear d0 d1 d2 d3 d4 d5 d6 d7 d8 d9 a6 a8 a9 b0 a4 b2 dq e0 a5;go_wp2;go_ret;exact⟨by rw[<-HQ.out];simp,a7.out.trans f2⟩
theorem zus (h:m.Ok lo W) (home k n:Int) (s:ByteArray) (A:Option Addr) (len cap:Nat) (r0:Int) (VA:Option Addr) (vl vc:Nat) (n1 lost ofr byr set:Int) (full:Bool) (CA:Option Addr) (cl cc:Nat) (NA:Option Addr) (nl nc:Nat) (r:Int):
 Calls Tryz.prog 158 #[.pointer (some ⟨m.wb,0,none⟩),.int .i64 r,.agg (c16 16 home k n s A len cap r0 VA vl vc n1 lost ofr byr set full CA cl cc NA nl nc)] W λe w'=>e= .returned (.bool (m.hkB byr 3 home&&(m.get ofr).isSome))/\Fr No W w':=by
 have a2:=(Blk.new W 31 #[.pointer (some ⟨m.wb,0,none⟩)]).alloc (.cells (c16 16 home k n s A len cap r0 VA vl vc n1 lost ofr byr set full CA cl cc NA nl nc) 138);have a1:=Blk.new' (W.alloc (.cells #[.pointer (some ⟨m.wb,0,none⟩)] 31)) 138 (c16 16 home k n s A len cap r0 VA vl vc n1 lost ofr byr set full CA cl cc NA nl nc) (g:=W.heap.size+1) s_;have a3:=((Fr.refl No W).alloc (.cells #[.pointer (some ⟨m.wb,0,none⟩)] 31)).alloc (.cells (c16 16 home k n s A len cap r0 VA vl vc n1 lost ofr byr set full CA cl cc NA nl nc) 138);obtain⟨b6,a0⟩:∃q,(m.hkB byr 3 home&&(m.get ofr).isSome)=q:=⟨_,rfl⟩;rw[a0];have HQ:=zaa a0;clear a0;have hc:=zfi (h.no a3) a2 (r:=byr) (k:=3) d_ (gx:=W.heap.size+1) (a1.cell 1) a1.lt;have HN:=zaa λW' (f:Fr No W W')=>zf9 (h.no f) ofr;unfold c16 at hc;have HC:=zaa hc;clear hc;unfold c16 at a2 a1 a3 ⊢;have b4:=zaa a2;have b3:=zaa a1;have b5:=zaa a3;have b7:=zaa h;obtain⟨d0,d1,d2,d3,d4,d5,d6,d7,d8,d9,a6,a8,a9,b0,a4,b2⟩:=a1.cells16;have dq:=a1.lt;have e0:=a2.cell 0;have a5:=a2.lt;simp only[List.getElem?_toArray,List.getElem?_cons_zero]at e0;clear a2 a1 a3 h;go_enter Tryz.func158,Tryz.ntmps158;go_wp2_with fail;generalize World.alloc (World.alloc W _) _=W0 at*;refine HC.out.mono ?_;rintro e w1 ⟨rfl,f1⟩;have hb:=b3.out.fr f1 λh=>h;have b1:=b4.out.fr f1 λh=>h;clear d0 d1 d2 d3 d4 d5 d6 d7 d8 d9 a6 a8 a9 b0 a4 b2 dq e0 a5;obtain⟨d0,d1,d2,d3,d4,d5,d6,d7,d8,d9,a6,a8,a9,b0,a4,b2⟩:=hb.cells16;have dq:=hb.lt;have e0:w1.cell? ⟨W.heap.size,0,none⟩=some (.pointer (some ⟨m.wb,0,none⟩)):=b1.cell 0;have a5:=b1.lt;clear hb b1;have a7:=zaa (b5.out.trans f1);generalize m.hkB byr 3 home=q1 at*;generalize (m.get ofr).isSome=q2 at*;clear f1;cases q1
 .go_wp2;go_ret;exact⟨by rw[<-HQ.out];simp,a7.out⟩
 .go_wp2_with fail;refine(HN.out w1 a7.out).mono ?_;rintro e w2 ⟨rfl,rfl⟩;clear d0 d1 d2 d3 d4 d5 d6 d7 d8 d9 a6 a8 a9 b0 a4 b2 dq e0 a5;go_wp2;go_ret;exact⟨by rw[<-HQ.out];simp,a7.out⟩
theorem zut (h:m.Ok lo W) (home k n:Int) (s:ByteArray) (A:Option Addr) (len cap:Nat) (r0:Int) (VA:Option Addr) (vl vc:Nat) (n1 lost ofr byr set:Int) (full:Bool) (CA:Option Addr) (cl cc:Nat) (NA:Option Addr) (nl nc:Nat) (r:Int):
 Calls Tryz.prog 158 #[.pointer (some ⟨m.wb,0,none⟩),.int .i64 r,.agg (c16 15 home k n s A len cap r0 VA vl vc n1 lost ofr byr set full CA cl cc NA nl nc)] W λe w'=>e= .returned (.bool (m.hkB byr 13 home&&(m.get ofr).isSome&&(match m.get byr with|some y=>y.2.ofr==r|none=>false)))/\Fr No W w':=by
 have a7:=(Blk.new W 31 #[.pointer (some ⟨m.wb,0,none⟩)]).alloc (.cells (c16 15 home k n s A len cap r0 VA vl vc n1 lost ofr byr set full CA cl cc NA nl nc) 138);have a8:=Blk.new' (W.alloc (.cells #[.pointer (some ⟨m.wb,0,none⟩)] 31)) 138 (c16 15 home k n s A len cap r0 VA vl vc n1 lost ofr byr set full CA cl cc NA nl nc) (g:=W.heap.size+1) s_;have b3:=((Fr.refl No W).alloc (.cells #[.pointer (some ⟨m.wb,0,none⟩)] 31)).alloc (.cells (c16 15 home k n s A len cap r0 VA vl vc n1 lost ofr byr set full CA cl cc NA nl nc) 138);obtain⟨c0,a2⟩:∃q,(m.hkB byr 13 home&&(m.get ofr).isSome&&(match m.get byr with|some y=>y.2.ofr==r|none=>false))=q:=⟨_,rfl⟩;rw[a2];have HQ:=zaa a2;clear a2;unfold c16 at a7 a8 b3 ⊢;have b2:=zaa a7;have a3:=zaa a8;have b1:=zaa b3;have b7:=zaa h;obtain⟨d0,d1,d2,d3,d4,d5,d6,d7,d8,d9,a6,a9,b0,b8,b6,b9⟩:=a8.cells16;have dq:=a8.lt;have e0:=a7.cell 0;have a5:=a7.lt;simp only[List.getElem?_toArray,List.getElem?_cons_zero]at e0;clear a7 a8 b3 h;go_enter Tryz.func158,Tryz.ntmps158;go_wp2_with fail;generalize World.alloc (World.alloc W _) _=W0 at*;have a0:=b7.out.no b1.out;clear d0 d1 d2 d3 d4 d5 d6 d7 d8 d9 a6 a9 b0 b8 b6 b9 dq e0 a5;have a6:∀q:ClN W0,q.w.cell? ⟨W.heap.size+1,10,none⟩=some (.int .i64 ofr):=λq=>(a3.out.fr q.fr λh=>h).cell 10;have a9:∀q:ClN W0,q.w.cell? ⟨W.heap.size+1,11,none⟩=some (.int .i64 byr):=λq=>(a3.out.fr q.fr λh=>h).cell 11;have b0:∀q:ClN W0,q.w.cell? ⟨W.heap.size+1,12,none⟩=some (.int .u8 set):=λq=>(a3.out.fr q.fr λh=>h).cell 12;have dq:∀q:ClN W0,W.heap.size+1<q.w.heap.size:=λq=>(a3.out.fr q.fr λh=>h).lt;have e0:∀q:ClN W0,q.w.cell? ⟨W.heap.size,0,none⟩=some (.pointer (some ⟨m.wb,0,none⟩)):=λq=>(b2.out.fr q.fr λh=>h).cell 0;have a5:∀q:ClN W0,W.heap.size<q.w.heap.size:=λq=>(b2.out.fr q.fr λh=>h).lt;have x2:∀q:ClN W0,q.w.cell? ⟨m.wb,2,none⟩=some (.map (some m.M)):=λq=>zba (a0.no q.fr);have b4:∀q:ClN W0,m.wb<q.w.heap.size:=λq=>(a0.no q.fr).blk.lt;have a1:Nonempty (ClN W0):=⟨⟨W0,Fr.refl No W0⟩⟩;have HC:Hid (∀q:ClN W0,Calls Tryz.prog 214 #[.int .i64 byr,.int .u8 13,.pointer (some ⟨W.heap.size,0,none⟩),.pointer (some ⟨W.heap.size+1,0,none⟩)] q.w λe a4=>e= .returned (.bool (m.hkB byr 13 home))/\∃q':ClN W0,a4=q'.w):=zaa λq=>by
  refine(zfi (a0.no q.fr) (b2.out.fr q.fr λh=>h) d_ (gx:=W.heap.size+1) ((a3.out.fr q.fr λh=>h).cell 1) (a3.out.fr q.fr λh=>h).lt).mono ?_;rintro e a4 ⟨rfl,f⟩;exact⟨rfl,⟨a4,q.fr.trans f⟩,rfl⟩
 have HI:Hid (∀q:ClN W0,Calls Tryz.prog 58 #[.pointer (some ⟨m.wb,0,none⟩),.int .i64 ofr] q.w λe a4=>e= .returned (.bool (m.get ofr).isSome)/\∃q':ClN W0,a4=q'.w):=zaa λq=>by
  refine(zf9 (a0.no q.fr) ofr).mono ?_;rintro e a4 ⟨rfl,rfl⟩;exact⟨rfl,q,rfl⟩
 cases hq1:m.hkB byr 13 home with
 |false=>
  rw[hq1]at HC HQ;generalize (m.get ofr).isSome=q2 at*;clear a0 hq1;refine zab (λW'=>∃q:ClN W0,W'=q.w) k_ k_ ⟨⟨_,(Fr.refl No W0).drew⟩,rfl⟩ ?_;repeat(go_big_quiet_step (first|(go_at_call 214;exact HC.out _)|(go_at_call 58;exact HI.out _)))
  refine wpQuiet_nil ?_;rintro w1 ⟨⟨_,f3⟩,rfl⟩;clear a6 a9 b0 dq e0 a5 x2 b4 a1 HC HI;go_wp2_with fail;go_ret;exact⟨by rw[<-HQ.out];simp,b1.out.trans f3⟩
 |true=>
  obtain⟨y,hy⟩:∃y,m.get byr=some y:=by
   unfold Gm.hkB at hq1;cases hg:m.get byr with
   |none=>rw[hg]at hq1;cases hq1
   |some y=>exact⟨y,rfl⟩
  have hl:∀q:ClN W0,(Instr.lookup 34 (.map (some m.M)) (.int .i64 byr) false).run Tryz.prog q.w= .ok (.pointer (some ⟨y.1,0,none⟩)) q.w:=λq=>by
   have:=zbt (a0.no q.fr) byr;rw[hy]at this;exact this
  have b5:∀q:ClN W0,q.w.cell? ⟨y.1,10,none⟩=some (.int .i64 y.2.ofr):=λq=>(zct ((a0.no q.fr).box _ (Gm.get_mem hy))).2.2.1;have xq:∀q:ClN W0,y.1<q.w.heap.size:=λq=>((a0.no q.fr).box _ (Gm.get_mem hy)).lt;rw[hq1]at HC;have hq:=HQ.out;rw[hq1,hy]at hq;simp only at hq;clear HQ;have HQ:=zaa hq;clear hq;generalize (m.get ofr).isSome=q2 at*;generalize y.2.ofr=yo at*;clear a0 hq1 hy;cases q2
  .refine zab (λW'=>∃q:ClN W0,W'=q.w) k_ k_ ⟨⟨_,(Fr.refl No W0).drew⟩,rfl⟩ ?_;repeat(go_big_quiet_step (first|(go_at_call 214;exact HC.out _)|(go_at_call 58;exact HI.out _)))
   refine wpQuiet_nil ?_;rintro w1 ⟨⟨_,f3⟩,rfl⟩;clear a6 a9 b0 dq e0 a5 x2 b4 a1 HC HI hl b5 xq;go_wp2_with fail;go_ret;exact⟨by rw[<-HQ.out];simp,b1.out.trans f3⟩
  .refine zab (λW'=>∃q:ClN W0,W'=q.w) k_ k_ ⟨⟨_,(Fr.refl No W0).drew⟩,rfl⟩ ?_;repeat(go_big_quiet_step (first|(go_at_call 214;exact HC.out _)|(go_at_call 58;exact HI.out _)))
   refine wpQuiet_nil ?_;rintro w1 ⟨⟨_,f3⟩,rfl⟩;clear a6 a9 b0 dq e0 a5 x2 b4 a1 HC HI hl b5 xq;go_wp2_with fail;go_ret;exact⟨by rw[<-HQ.out];simp,b1.out.trans f3⟩
theorem zuu (h:m.Ok lo W) (home k n:Int) (s:ByteArray) (A:Option Addr) (len cap:Nat) (r0:Int) (VA:Option Addr) (vl vc:Nat) (n1 lost ofr byr set:Int) (full:Bool) (CA:Option Addr) (cl cc:Nat) (NA:Option Addr) (nl nc:Nat) (r:Int):
 Calls Tryz.prog 158 #[.pointer (some ⟨m.wb,0,none⟩),.int .i64 r,.agg (c16 13 home k n s A len cap r0 VA vl vc n1 lost ofr byr set full CA cl cc NA nl nc)] W λe w'=>e= .returned (.bool (ofr==0||(m.kind ofr==15&&(match m.get ofr with|some y=>y.2.byr==r|none=>false))))/\Fr No W w':=by
 have a5:=(Blk.new W 31 #[.pointer (some ⟨m.wb,0,none⟩)]).alloc (.cells (c16 13 home k n s A len cap r0 VA vl vc n1 lost ofr byr set full CA cl cc NA nl nc) 138);have a6:=Blk.new' (W.alloc (.cells #[.pointer (some ⟨m.wb,0,none⟩)] 31)) 138 (c16 13 home k n s A len cap r0 VA vl vc n1 lost ofr byr set full CA cl cc NA nl nc) (g:=W.heap.size+1) s_;have b1:=((Fr.refl No W).alloc (.cells #[.pointer (some ⟨m.wb,0,none⟩)] 31)).alloc (.cells (c16 13 home k n s A len cap r0 VA vl vc n1 lost ofr byr set full CA cl cc NA nl nc) 138);obtain⟨c0,a2⟩:∃q,(ofr==0||(m.kind ofr==15&&(match m.get ofr with|some y=>y.2.byr==r|none=>false)))=q:=⟨_,rfl⟩;rw[a2];have HQ:=zaa a2;clear a2;unfold c16 at a5 a6 b1 ⊢;have b4:=zaa a5;have a9:=zaa a6;have b0:=zaa b1;have b6:=zaa h;obtain⟨d0,d1,d2,d3,d4,d5,d6,d7,d8,d9,a4,a7,a8,b7,b5,b9⟩:=a6.cells16;have dq:=a6.lt;have e0:=a5.cell 0;have a3:=a5.lt;simp only[List.getElem?_toArray,List.getElem?_cons_zero]at e0;clear a5 a6 b1 h;go_enter Tryz.func158,Tryz.ntmps158;go_wp2_with fail;generalize World.alloc (World.alloc W _) _=W0 at*;have a0:=b6.out.no b0.out;clear d0 d1 d2 d3 d4 d5 d6 d7 d8 d9 a4 a7 a8 b7 b5 b9 dq e0 a3;have a4:∀q:ClN W0,q.w.cell? ⟨W.heap.size+1,10,none⟩=some (.int .i64 ofr):=λq=>(a9.out.fr q.fr λh=>h).cell 10;have a7:∀q:ClN W0,q.w.cell? ⟨W.heap.size+1,11,none⟩=some (.int .i64 byr):=λq=>(a9.out.fr q.fr λh=>h).cell 11;have a8:∀q:ClN W0,q.w.cell? ⟨W.heap.size+1,12,none⟩=some (.int .u8 set):=λq=>(a9.out.fr q.fr λh=>h).cell 12;have dq:∀q:ClN W0,W.heap.size+1<q.w.heap.size:=λq=>(a9.out.fr q.fr λh=>h).lt;have e0:∀q:ClN W0,q.w.cell? ⟨W.heap.size,0,none⟩=some (.pointer (some ⟨m.wb,0,none⟩)):=λq=>(b4.out.fr q.fr λh=>h).cell 0;have a3:∀q:ClN W0,W.heap.size<q.w.heap.size:=λq=>(b4.out.fr q.fr λh=>h).lt;have x2:∀q:ClN W0,q.w.cell? ⟨m.wb,2,none⟩=some (.map (some m.M)):=λq=>zba (a0.no q.fr);have b2:∀q:ClN W0,m.wb<q.w.heap.size:=λq=>(a0.no q.fr).blk.lt;have a1:Nonempty (ClN W0):=⟨⟨W0,Fr.refl No W0⟩⟩;have HC:Hid (∀q:ClN W0,Calls Tryz.prog 44 #[.pointer (some ⟨m.wb,0,none⟩),.int .i64 ofr] q.w λe b3=>e= .returned (.int .u8 (m.kind ofr))/\∃q':ClN W0,b3=q'.w):=zaa λq=>by
  refine(zd9 (a0.no q.fr) ofr).mono ?_;rintro e b3 ⟨rfl,rfl⟩;exact⟨rfl,q,rfl⟩
 cases hq0:(ofr==0)with
 |true=>
  rw[hq0]at HQ;clear a0;refine zab (λW'=>∃q:ClN W0,W'=q.w) k_ k_ ⟨⟨_,(Fr.refl No W0).drew⟩,rfl⟩ ?_;repeat(go_big_quiet_step ((go_at_call 44;exact HC.out _)))
  refine wpQuiet_nil ?_;rintro w1 ⟨⟨_,f3⟩,rfl⟩;clear a4 a7 a8 dq e0 a3 x2 b2 a1 HC;go_wp2_with fail;go_ret;exact⟨by rw[<-HQ.out];simp,b0.out.trans f3⟩
 |false=>
  cases hq1:(m.kind ofr==15)with
  |false=>
   rw[hq0,hq1]at HQ;clear a0;generalize m.kind ofr=kd at*;refine zab (λW'=>∃q:ClN W0,W'=q.w) k_ k_ ⟨⟨_,(Fr.refl No W0).drew⟩,rfl⟩ ?_;repeat(go_big_quiet_step ((go_at_call 44;exact HC.out _)))
   refine wpQuiet_nil ?_;rintro w1 ⟨⟨_,f3⟩,rfl⟩;clear a4 a7 a8 dq e0 a3 x2 b2 a1 HC;go_wp2_with fail;go_ret;exact⟨by rw[<-HQ.out];simp,b0.out.trans f3⟩
  |true=>
   obtain⟨y,hy⟩:∃y,m.get ofr=some y:=by
    cases hg:m.get ofr with
    |none=>unfold Gm.kind at hq1;rw[hg]at hq1;simp at hq1
    |some y=>exact⟨y,rfl⟩
   have hl:∀q:ClN W0,(Instr.lookup 34 (.map (some m.M)) (.int .i64 ofr) false).run Tryz.prog q.w= .ok (.pointer (some ⟨y.1,0,none⟩)) q.w:=λq=>by
    have:=zbt (a0.no q.fr) ofr;rw[hy]at this;exact this
   have b8:∀q:ClN W0,q.w.cell? ⟨y.1,11,none⟩=some (.int .i64 y.2.byr):=λq=>(zct ((a0.no q.fr).box _ (Gm.get_mem hy))).2.2.2.1;have xq:∀q:ClN W0,y.1<q.w.heap.size:=λq=>((a0.no q.fr).box _ (Gm.get_mem hy)).lt;have hq:=HQ.out;rw[hq0,hq1,hy]at hq;simp only at hq;clear HQ;have HQ:=zaa hq;clear hq;generalize m.kind ofr=kd at*;generalize y.2.byr=yo at*;clear a0 hy;refine zab (λW'=>∃q:ClN W0,W'=q.w) k_ k_ ⟨⟨_,(Fr.refl No W0).drew⟩,rfl⟩ ?_;repeat(go_big_quiet_step ((go_at_call 44;exact HC.out _)))
   refine wpQuiet_nil ?_;rintro w1 ⟨⟨_,f3⟩,rfl⟩;clear a4 a7 a8 dq e0 a3 x2 b2 a1 HC hl b8 xq;go_wp2_with fail;go_ret;exact⟨by rw[<-HQ.out];simp,b0.out.trans f3⟩
theorem zuv (h:m.Ok lo W) (home k n:Int) (s:ByteArray) (A:Option Addr) (len cap:Nat) (r0:Int) (VA:Option Addr) (vl vc:Nat) (n1 lost ofr byr set:Int) (full:Bool) (CA:Option Addr) (cl cc:Nat) (NA:Option Addr) (nl nc:Nat) (r:Int) {a:Nat} (ha:m.Abl ofr a):
 Calls Tryz.prog 158 #[.pointer (some ⟨m.wb,0,none⟩),.int .i64 r,.agg (c16 14 home k n s A len cap r0 VA vl vc n1 lost ofr byr set full CA cl cc NA nl nc)] W λe w'=>e= .returned (.bool ((m.get ofr).isSome&&m.kind ofr !=14&&set !=(a:Int)&&bits .andNot .u8 set (a:Int)==0&&(match m.fget ofr set with|some f=>f==r|none=>true)))/\Fr No W w':=by
 have b0:=(Blk.new W 31 #[.pointer (some ⟨m.wb,0,none⟩)]).alloc (.cells (c16 14 home k n s A len cap r0 VA vl vc n1 lost ofr byr set full CA cl cc NA nl nc) 138);have b2:=Blk.new' (W.alloc (.cells #[.pointer (some ⟨m.wb,0,none⟩)] 31)) 138 (c16 14 home k n s A len cap r0 VA vl vc n1 lost ofr byr set full CA cl cc NA nl nc) (g:=W.heap.size+1) s_;have b3:=((Fr.refl No W).alloc (.cells #[.pointer (some ⟨m.wb,0,none⟩)] 31)).alloc (.cells (c16 14 home k n s A len cap r0 VA vl vc n1 lost ofr byr set full CA cl cc NA nl nc) 138);obtain⟨e1,a4⟩:∃q,((m.get ofr).isSome&&m.kind ofr !=14&&set !=(a:Int)&&bits .andNot .u8 set (a:Int)==0&&(match m.fget ofr set with|some f=>f==r|none=>true))=q:=⟨_,rfl⟩;rw[a4];have HQ:=zaa a4;clear a4;have HA:=zaa (ztg (h.no b3) ha);unfold c16 at HA;clear ha;unfold c16 at b0 b2 b3 ⊢;have c7:=zaa b0;have c6:=zaa b2;have c8:=zaa b3;have c9:=zaa h;obtain⟨d0,d1,d2,d3,d4,d5,d6,d7,d8,d9,a7,b9,a8,c1,b6,c2⟩:=b2.cells16;have dq:=b2.lt;have e0:=b0.cell 0;have a6:=b0.lt;simp only[List.getElem?_toArray,List.getElem?_cons_zero]at e0;clear b0 b2 b3 h;go_enter Tryz.func158,Tryz.ntmps158;go_wp2_with fail;generalize World.alloc (World.alloc W _) _=W0 at*;refine HA.out.mono ?_;rintro e wA ⟨rfl,fA⟩;have b8:=c8.out.trans fA;have a0:=c9.out.no b8;have a9:=c6.out.fr fA λh=>h;have a2:=c7.out.fr fA λh=>h;have b5:=zaa λW' (f:Fr No wA W')=>zf9 (a0.no f) ofr;have b4:=zaa λW' (f:Fr No wA W')=>zd9 (a0.no f) ofr;clear d0 d1 d2 d3 d4 d5 d6 d7 d8 d9 a7 b9 a8 c1 b6 c2 dq e0 a6;have a7:∀q:ClN wA,q.w.cell? ⟨W.heap.size+1,10,none⟩=some (.int .i64 ofr):=λq=>(a9.fr q.fr λh=>h).cell 10;have a8:∀q:ClN wA,q.w.cell? ⟨W.heap.size+1,12,none⟩=some (.int .u8 set):=λq=>(a9.fr q.fr λh=>h).cell 12;have dq:∀q:ClN wA,W.heap.size+1<q.w.heap.size:=λq=>(a9.fr q.fr λh=>h).lt;have e0:∀q:ClN wA,q.w.cell? ⟨W.heap.size,0,none⟩=some (.pointer (some ⟨m.wb,0,none⟩)):=λq=>(a2.fr q.fr λh=>h).cell 0;have a6:∀q:ClN wA,W.heap.size<q.w.heap.size:=λq=>(a2.fr q.fr λh=>h).lt;have x3:∀q:ClN wA,q.w.cell? ⟨m.wb,3,none⟩=some (.map (some m.F)):=λq=>zgv (a0.no q.fr);have c5:∀q:ClN wA,m.wb<q.w.heap.size:=λq=>(a0.no q.fr).blk.lt;have a3:Nonempty (ClN wA):=⟨⟨wA,Fr.refl No wA⟩⟩;have hl:∀q:ClN wA,(Instr.lookup 35 (.map (some m.F)) (.agg #[.int .i64 ofr,.int .u8 set]) true).run Tryz.prog q.w= .ok (m.findV ofr set) q.w:=λq=>zlk (a0.no q.fr) ofr set;have c4:=zaa a9;have b1:=zaa a2;have c3:=zaa b8;clear a0 a9 a2 fA b8 HA;unfold Gm.findV at hl;generalize (m.get ofr).isSome=q1 at*;generalize m.kind ofr=kd at*;cases hf:m.fget ofr set with
 |none=>
  rw[hf]at hl HQ;simp only at hl;go_wp2_with fail;refine zab (λW'=>∃q:ClN wA,W'=q.w) k_ k_ ⟨⟨_,(Fr.refl No wA).drew⟩,rfl⟩ ?_;repeat(go_big_quiet_step (fail))
  refine wpQuiet_nil ?_;rintro w1 ⟨⟨_,f3⟩,rfl⟩;clear a7 a8 dq e0 a6 x3 c5 a3 hl;have hb:=c4.out.fr f3 λh=>h;have a5:=b1.out.fr f3 λh=>h;obtain⟨d0,d1,d2,d3,d4,d5,d6,d7,d8,d9,a7,b9,a8,c1,b6,c2⟩:=hb.cells16;have dq:=hb.lt;have e0:=a5.cell 0;simp only[List.getElem?_toArray,List.getElem?_cons_zero]at e0;have a6:=a5.lt;have a1:=zaa (c3.out.trans f3);have b7:=zaa (b5.out _ f3);have c0:=zaa (b4.out _ f3);clear hb a5 f3 b5 b4 hf;go_wp2_with fail;refine b7.out.mono ?_;rintro e w' ⟨rfl,rfl⟩;cases q1
  .go_wp2_with fail;go_ret;exact⟨by rw[<-HQ.out];simp,a1.out⟩
  .go_wp2_with fail;refine c0.out.mono ?_;rintro e w' ⟨rfl,rfl⟩;cases hk14:(kd !=14)
   .go_wp2_with fail;go_ret;exact⟨by rw[<-HQ.out];simp[*],a1.out⟩
   .cases hsa:(set !=(a:Int))
    .go_wp2_with fail;go_ret;exact⟨by rw[<-HQ.out];simp[*],a1.out⟩
    .cases han:(bits .andNot .u8 set (a:Int)==0)
     .go_wp2_with fail;go_ret;exact⟨by rw[<-HQ.out];simp[*],a1.out⟩
     .go_wp2_with fail;go_ret;exact⟨by rw[<-HQ.out];simp[*],a1.out⟩
 |some f=>
  rw[hf]at hl HQ;simp only at hl;go_wp2_with fail;refine zab (λW'=>∃q:ClN wA,W'=q.w) k_ k_ ⟨⟨_,(Fr.refl No wA).drew⟩,rfl⟩ ?_;repeat(go_big_quiet_step (fail))
  refine wpQuiet_nil ?_;rintro w1 ⟨⟨_,f3⟩,rfl⟩;clear a7 a8 dq e0 a6 x3 c5 a3 hl;have hb:=c4.out.fr f3 λh=>h;have a5:=b1.out.fr f3 λh=>h;obtain⟨d0,d1,d2,d3,d4,d5,d6,d7,d8,d9,a7,b9,a8,c1,b6,c2⟩:=hb.cells16;have dq:=hb.lt;have e0:=a5.cell 0;simp only[List.getElem?_toArray,List.getElem?_cons_zero]at e0;have a6:=a5.lt;have a1:=zaa (c3.out.trans f3);have b7:=zaa (b5.out _ f3);have c0:=zaa (b4.out _ f3);clear hb a5 f3 b5 b4 hf;go_wp2_with fail;refine b7.out.mono ?_;rintro e w' ⟨rfl,rfl⟩;cases q1
  .go_wp2_with fail;go_ret;exact⟨by rw[<-HQ.out];simp,a1.out⟩
  .go_wp2_with fail;refine c0.out.mono ?_;rintro e w' ⟨rfl,rfl⟩;cases hk14:(kd !=14)
   .go_wp2_with fail;go_ret;exact⟨by rw[<-HQ.out];simp[*],a1.out⟩
   .cases hsa:(set !=(a:Int))
    .go_wp2_with fail;go_ret;exact⟨by rw[<-HQ.out];simp[*],a1.out⟩
    .cases han:(bits .andNot .u8 set (a:Int)==0)
     .go_wp2_with fail;go_ret;exact⟨by rw[<-HQ.out];simp[*],a1.out⟩
     .go_wp2_with fail;go_ret;exact⟨by rw[<-HQ.out];simp[*],a1.out⟩
end
def G.esz:G->Nat
 | .mk _ subs=>1+(subs.attach.map λs=>(s.1.2.attach.map λx=>G.esz x.1).sum).sum
termination_by g=>g
decreasing_by
 have h1:=List.sizeOf_lt_of_mem s.2
 have h2:=List.sizeOf_lt_of_mem x.2
 obtain⟨⟨A,l⟩,hs⟩:=s
 simp at h1 h2 ⊢
 omega
theorem G.esz_one (c:List Value) (A:Option Addr) (l:List G):(G.mk c [(A,l)]).esz=1+(l.map G.esz).sum:=by
 rw[G.esz];simp
def ztl:List Value->Int
 | .int _ k::_=>k
 |_=>0
def G.edp:G->Nat
 | .mk c subs=>if ztl c≠3/\subs.all (λs=>s.2.isEmpty)=true then 0 else 1+top (subs.attach.flatMap λs=>s.1.2.attach.map λx=>G.edp x.1)
termination_by g=>g
decreasing_by
 have h1:=List.sizeOf_lt_of_mem s.2
 have h2:=List.sizeOf_lt_of_mem x.2
 obtain⟨⟨A,l⟩,hs⟩:=s
 simp at h1 h2 ⊢
 omega
theorem G.edp_one (k:Int) (c:List Value) (A:Option Addr) (l:List G):(G.mk (.int .u8 k::c) [(A,l)]).edp=if k≠3/\l=[]then 0 else 1+top (l.map G.edp):=by
 rw[G.edp];simp[ztl]
def G.eok (g:G) (p d:Nat):Bool:=decide (g.esz<=p)&&decide (g.edp<=d)
def G.ssz:G->Nat
 | .mk _ subs=>1+((subs.attach.zipIdx).map λs=>if 2<=s.2/\s.2<=4 then(s.1.1.2.attach.map λx=>G.ssz x.1).sum else 0).sum
termination_by g=>g
decreasing_by
 have h1:=List.sizeOf_lt_of_mem s.1.2
 have h2:=List.sizeOf_lt_of_mem x.2
 obtain⟨⟨⟨A,l⟩,hs⟩,i⟩:=s
 simp at h1 h2 ⊢
 omega
theorem G.ssz_six (c:List Value) (A1 A2 A3 A4 A5 A6:Option Addr) (l1 l2 l3 l4 l5 l6:List G):
 (G.mk c [(A1,l1),(A2,l2),(A3,l3),(A4,l4),(A5,l5),(A6,l6)]).ssz=1+((l3.map G.ssz).sum+((l4.map G.ssz).sum+(l5.map G.ssz).sum)):=by
 rw[G.ssz];simp
def zzh (c:List Value) (subs:List (Option Addr×List G)):Bool:=
 match c,subs with
 |[_,_,_,_,_,k1,n1,s1,x1,k2,n2,s2,x2,_,_,_,_],[(A1,l1),(A2,l2),_,_,_,(_,l6)]=>decide (l6.length<=64)&&((G.mk [k1,n1,s1,x1] [(A1,l1)]).eok 512 16&&(G.mk [k2,n2,s2,x2] [(A2,l2)]).eok 512 16)
 |_,_=>false
def G.sok:G->Bool
 | .mk c subs=>zzh c subs&&((subs.attach.zipIdx).all λs=>if 2<=s.2/\s.2<=4 then s.1.1.2.attach.all (λx=>G.sok x.1)else true)
termination_by g=>g
decreasing_by
 have h1:=List.sizeOf_lt_of_mem s.1.2
 have h2:=List.sizeOf_lt_of_mem x.2
 obtain⟨⟨⟨A,l⟩,hs⟩,i⟩:=s
 simp at h1 h2 ⊢
 omega
theorem G.sok_six (op:Int) (nm sc:ByteArray) (ab wh:Int) (k1 n1:Int) (s1:ByteArray) (A1:Option Addr) (m1 z1:Nat) (k2 n2:Int) (s2:ByteArray) (A2:Option Addr) (m2 z2:Nat) (A3:Option Addr) (m3 z3:Nat) (A4:Option Addr) (m4 z4:Nat) (A5:Option Addr) (m5 z5:Nat) (A6:Option Addr) (m6 z6:Nat) (l1 l2 l3 l4 l5 l6:List G):
 (G.mk (stC op nm sc ab wh k1 n1 s1 A1 m1 z1 k2 n2 s2 A2 m2 z2 A3 m3 z3 A4 m4 z4 A5 m5 z5 A6 m6 z6) [(A1,l1),(A2,l2),(A3,l3),(A4,l4),(A5,l5),(A6,l6)]).sok=
  (decide (l6.length<=64)&&((G.mk [.int .u8 k1,.int .i64 n1,.string s1,.slice A1 m1 z1] [(A1,l1)]).eok 512 16&&(G.mk [.int .u8 k2,.int .i64 n2,.string s2,.slice A2 m2 z2] [(A2,l2)]).eok 512 16)&&(l3.all G.sok&&(l4.all G.sok&&l5.all G.sok))):=by
 rw[G.sok];have h:∀l:List G,(l.attach.all λx=>G.sok x.1)=l.all G.sok:=λl=>by simp
 simp only[stC,zzh,List.attach_cons,List.attach_nil,List.map_cons,List.map_nil,List.zipIdx_cons,List.zipIdx_nil,List.all_cons,List.all_nil,h];simp
def esT (l:List G) (j:Nat):Nat:=((l.map G.esz).take j).sum
def ssT (l:List G) (j:Nat):Nat:=((l.map G.ssz).take j).sum
theorem zrz (l:List G) (j:Nat) (h:j<l.length):esT l (j+1)=esT l j+l[j].esz:=by
 unfold esT;rw[zb6 _ _ (by simpa using h)];simp
theorem zvb (l:List G):esT l l.length=(l.map G.esz).sum:=by
 unfold esT;rw[List.take_of_length_le s_]
theorem zw2 (l:List G) (j:Nat):esT l j<=(l.map G.esz).sum:=zcc _ _
theorem zlw (l:List G) (j:Nat) (h:j<l.length):ssT l (j+1)=ssT l j+l[j].ssz:=by
 unfold ssT;rw[zb6 _ _ (by simpa using h)];simp
theorem zon (l:List G):ssT l l.length=(l.map G.ssz).sum:=by
 unfold ssT;rw[List.take_of_length_le s_]
theorem zlx (l:List G) (j:Nat):ssT l j<=(l.map G.ssz).sum:=zcc _ _
def zx8 (L p d:Nat) (g:G) (w:World) (e:Ending) (w':World):Prop:=
 e= .returned (.bool (g.eok (512 - p) d))/\Fr (· =L) w w'/\(g.eok (512 - p) d=true->w'.cell? ⟨L,0,none⟩=some (.int .i64 ((p+g.esz:Nat):Int))/\w'.frozen? ⟨L,0,none⟩=false)
structure Lies (w:World) (lo hi:Nat) (A:Option Addr) (n size:Nat) (xs:List Value):Prop where
 len:xs.length=n*size
 one:∀u∈xs,u.oneCell'=true
 at_:n≠0->∃b o,A=some ⟨b,o,none⟩/\lo<=b/\b<hi/\∀j u,xs[j]? =some u->w.cell? ⟨b,o+j,none⟩=some u
theorem zja {w w':World} {row:Option Nat} (h:w.grownBy w' row):Fr (λi=>some i=row) w w':=(Fr.refl _ w).grown h λ_k hk _=>hk.symm
def zfz (e:TypeId) (size n:Nat) (xs:List Value) (w:World) (en:Ending) (w':World):Prop:=
 ∃A c,en= .returned (.slice A n c)/\w'.ownsRow w.heap.size e size (.slice A n c) n xs/\Fr No w w'
theorem zbe {P:Program} (t e ty:TypeId) (i0:TypeInfo) (z:Value) (size bytes:Nat) (ht:P.underlying t=some (.slice e)) (hi:P.info? e=some i0) (hz:i0.zero=some z)
 (hsize:i0.size=size) (hby:i0.bytes=bytes) (hzs:z.cells.size=size) (hsz:0<size) (w:World) (lo hi':Nat) (a:Addr) (n cap:Nat) (xs:List Value) (h:Lies w lo hi' (some a) n size xs) (hh:hi'<=w.heap.size) (hm:n<=maxLen) (hb:n*bytes<=140737488355328):
 ∃A c w',(Builtin.append_ #[t,t] ty #[.slice (some ⟨w.heap.size,0,none⟩) 0 0,.slice (some a) n cap]).run P (w.alloc (.cells #[] e))= .ok (.slice A n c) w'/\w'.ownsRow w.heap.size e size (.slice A n c) n xs/\Fr No w w':=by
 have fr:=(Fr.refl No w).alloc (.cells #[] e);have a1:(w.alloc (.cells #[] e)).ownsRow w.heap.size e size (.slice (some ⟨w.heap.size,0,none⟩) 0 0) 0 []:=
  ⟨by simp,.inr ⟨w.heap.size,0,#[],rfl,Nat.le_refl _,heap_alloc_new w _,Nat.le_refl _,by unfold maxLen;omega,by simp,by simp⟩⟩
 by_cases h0:n=0
 .subst h0;obtain rfl:xs=[]:=List.eq_nil_of_length_eq_zero (by have:=h.len;simpa using this);exact⟨some ⟨w.heap.size,0,none⟩,0,_,run_append_nothing (P:=P) _ t t ty e i0 ht hi (some ⟨w.heap.size,0,none⟩) 0 0 (Nat.le_refl _) _ (Src.ofSlice _ ht a 0 cap [] s_ s_ s_),a1,fr⟩
 .obtain⟨b,o,hA,a5,a4,hc⟩:=h.at_ h0;injection hA with hA
  subst hA;obtain⟨g,c,w',a2,a0,a3,a6,hlt⟩:=run_append_lies (P:=P) (w.alloc (.cells #[] e)) t ty w.heap.size e i0 z size bytes ht hi hz hsize hby hzs hsz (.slice (some ⟨w.heap.size,0,none⟩) 0 0) 0 [] a1 ⟨b,o,none⟩ n cap xs h.len (λj u hu=>by
   rw[zbi,fr.cell (b:=b) o_ (λh=>h)];exact hc j u hu) h.one o_ o_ (by simpa using hb) s_ _ rfl
  refine⟨some ⟨g,0,none⟩,c,w',by simpa using a2,by simpa using a0,fr.trans' (zja a3) (λi hi h=>by simp[Value.ownBlock]at h;omega)⟩
theorem zq6:(Tryz.prog.info? 23).map (λi=>(i.zero,i.size,i.bytes))=some (some (.int .i64 0),1,8):=k_
theorem zn1 (A:Option Addr) (n cap:Nat) (xs:List Value) (w:World) (lo hi:Nat) (h:Lies w lo hi A n 1 xs) (hh:hi<=w.heap.size) (hb:n*8<=140737488351232):
 Calls Tryz.prog 148 #[.slice A n cap] w (zfz 23 1 n xs w):=by
 have a5:=λ(w:World) (A:Option Addr) (n c:Nat)=>Lib.run_eql_slice_nil (P:=Tryz.prog) w 32 23 A n c 0 0 Tryz.underlying32;cases A with
 |none=>
  obtain rfl:n=0:=by
   by_cases hn:n=0
   .exact hn
   .obtain⟨b,o,hA,-⟩:=h.at_ hn;cases hA
  obtain rfl:xs=[]:=List.eq_nil_of_length_eq_zero (by have:=h.len;simpa using this);go_enter Tryz.func148,Tryz.ntmps148;go_wp2;go_ret;exact⟨none,0,rfl,World.ownsRow_nil _ _ _ _,Fr.refl _ _⟩
 |some a=>
  obtain⟨i0,a4,a3,a2,a1⟩:=info_parts zq6;obtain⟨A,c,w',a0,ho,hf⟩:=zbe (P:=Tryz.prog) 32 23 32 i0 _ 1 8 Tryz.underlying32 a4 a3 a2 a1 rfl o_ w lo hi a n cap xs h hh (by unfold maxLen;omega) o_;have HO:=zaa ho;have HF:=zaa hf;clear ho hf h a4 a3 a2 a1;go_enter Tryz.func148,Tryz.ntmps148;go_wp2_with (at_builtin;(refine wpList_plain rfl λK hK=>?_);unfold Oper.wp;simp[execOp,resolve,invoke,builtin,a0,Result.andThen,Act.eval];refine hK _ _ ?_);go_ret;exact⟨A,c,rfl,HO.out,HF.out⟩
theorem zuc:(Tryz.prog.info? 3).map (λi=>(i.zero,i.size,i.bytes))=some (some (.int .i64 0),1,8):=k_
theorem zra (A:Option Addr) (n cap:Nat) (xs:List Value) (w:World) (lo hi:Nat) (h:Lies w lo hi A n 1 xs) (hh:hi<=w.heap.size) (hb:n*8<=140737488351232):
 Calls Tryz.prog 149 #[.slice A n cap] w (zfz 3 1 n xs w):=by
 have a5:=λ(w:World) (A:Option Addr) (n c:Nat)=>Lib.run_eql_slice_nil (P:=Tryz.prog) w 36 3 A n c 0 0 Tryz.underlying36;cases A with
 |none=>
  obtain rfl:n=0:=by
   by_cases hn:n=0
   .exact hn
   .obtain⟨b,o,hA,-⟩:=h.at_ hn;cases hA
  obtain rfl:xs=[]:=List.eq_nil_of_length_eq_zero (by have:=h.len;simpa using this);go_enter Tryz.func149,Tryz.ntmps149;go_wp2;go_ret;exact⟨none,0,rfl,World.ownsRow_nil _ _ _ _,Fr.refl _ _⟩
 |some a=>
  obtain⟨i0,a4,a3,a2,a1⟩:=info_parts zuc;obtain⟨A,c,w',a0,ho,hf⟩:=zbe (P:=Tryz.prog) 36 3 36 i0 _ 1 8 Tryz.underlying36 a4 a3 a2 a1 rfl o_ w lo hi a n cap xs h hh (by unfold maxLen;omega) o_;have HO:=zaa ho;have HF:=zaa hf;clear ho hf h a4 a3 a2 a1;go_enter Tryz.func149,Tryz.ntmps149;go_wp2_with (at_builtin;(refine wpList_plain rfl λK hK=>?_);unfold Oper.wp;simp[execOp,resolve,invoke,builtin,a0,Result.andThen,Act.eval];refine hK _ _ ?_);go_ret;exact⟨A,c,rfl,HO.out,HF.out⟩
theorem zud:(Tryz.prog.info? 28).map (λi=>(i.zero,i.size,i.bytes))=some (some (.agg #[.int .u8 0,.int .i64 0,.string ⟨#[]⟩,.slice none 0 0,.int .i64 0]),5,64):=k_
theorem zrb (A:Option Addr) (n cap:Nat) (xs:List Value) (w:World) (lo hi:Nat) (h:Lies w lo hi A n 5 xs) (hh:hi<=w.heap.size) (hb:n*64<=140737488351232):
 Calls Tryz.prog 200 #[.slice A n cap] w (zfz 28 5 n xs w):=by
 have a5:=λ(w:World) (A:Option Addr) (n c:Nat)=>Lib.run_eql_slice_nil (P:=Tryz.prog) w 26 28 A n c 0 0 Tryz.underlying26;cases A with
 |none=>
  obtain rfl:n=0:=by
   by_cases hn:n=0
   .exact hn
   .obtain⟨b,o,hA,-⟩:=h.at_ hn;cases hA
  obtain rfl:xs=[]:=List.eq_nil_of_length_eq_zero (by have:=h.len;simpa using this);go_enter Tryz.func200,Tryz.ntmps200;go_wp2;go_ret;exact⟨none,0,rfl,World.ownsRow_nil _ _ _ _,Fr.refl _ _⟩
 |some a=>
  obtain⟨i0,a4,a3,a2,a1⟩:=info_parts zud;obtain⟨A,c,w',a0,ho,hf⟩:=zbe (P:=Tryz.prog) 26 28 26 i0 _ 5 64 Tryz.underlying26 a4 a3 a2 a1 rfl o_ w lo hi a n cap xs h hh (by unfold maxLen;omega) o_;have HO:=zaa ho;have HF:=zaa hf;clear ho hf h a4 a3 a2 a1;go_enter Tryz.func200,Tryz.ntmps200;go_wp2_with (at_builtin;(refine wpList_plain rfl λK hK=>?_);unfold Oper.wp;simp[execOp,resolve,invoke,builtin,a0,Result.andThen,Act.eval];refine hK _ _ ?_);go_ret;exact⟨A,c,rfl,HO.out,HF.out⟩
theorem zue:(Tryz.prog.info? 260).map (λi=>(i.zero,i.size,i.bytes))=some (some (.agg #[.string ⟨#[]⟩,.int .u8 0,.int .i64 0,.string ⟨#[]⟩,.slice none 0 0,.int .i64 0]),6,80):=k_
theorem zrc (A:Option Addr) (n cap:Nat) (xs:List Value) (w:World) (lo hi:Nat) (h:Lies w lo hi A n 6 xs) (hh:hi<=w.heap.size) (hb:n*80<=140737488351232):
 Calls Tryz.prog 201 #[.slice A n cap] w (zfz 260 6 n xs w):=by
 have a5:=λ(w:World) (A:Option Addr) (n c:Nat)=>Lib.run_eql_slice_nil (P:=Tryz.prog) w 136 260 A n c 0 0 Tryz.underlying136;cases A with
 |none=>
  obtain rfl:n=0:=by
   by_cases hn:n=0
   .exact hn
   .obtain⟨b,o,hA,-⟩:=h.at_ hn;cases hA
  obtain rfl:xs=[]:=List.eq_nil_of_length_eq_zero (by have:=h.len;simpa using this);go_enter Tryz.func201,Tryz.ntmps201;go_wp2;go_ret;exact⟨none,0,rfl,World.ownsRow_nil _ _ _ _,Fr.refl _ _⟩
 |some a=>
  obtain⟨i0,a4,a3,a2,a1⟩:=info_parts zue;obtain⟨A,c,w',a0,ho,hf⟩:=zbe (P:=Tryz.prog) 136 260 136 i0 _ 6 80 Tryz.underlying136 a4 a3 a2 a1 rfl o_ w lo hi a n cap xs h hh (by unfold maxLen;omega) o_;have HO:=zaa ho;have HF:=zaa hf;clear ho hf h a4 a3 a2 a1;go_enter Tryz.func201,Tryz.ntmps201;go_wp2_with (at_builtin;(refine wpList_plain rfl λK hK=>?_);unfold Oper.wp;simp[execOp,resolve,invoke,builtin,a0,Result.andThen,Act.eval];refine hK _ _ ?_);go_ret;exact⟨A,c,rfl,HO.out,HF.out⟩
theorem zuf:(Tryz.prog.info? 308).map (λi=>(i.zero,i.size,i.bytes))=some (some (.agg #[.int .u8 0,.int .i64 0,.string ⟨#[]⟩,.slice none 0 0]),4,56):=k_
theorem zrd (A:Option Addr) (n cap:Nat) (xs:List Value) (w:World) (lo hi:Nat) (h:Lies w lo hi A n 4 xs) (hh:hi<=w.heap.size) (hb:n*56<=140737488351232):
 Calls Tryz.prog 273 #[.slice A n cap] w (zfz 308 4 n xs w):=by
 have a5:=λ(w:World) (A:Option Addr) (n c:Nat)=>Lib.run_eql_slice_nil (P:=Tryz.prog) w 306 308 A n c 0 0 Tryz.underlying306;cases A with
 |none=>
  obtain rfl:n=0:=by
   by_cases hn:n=0
   .exact hn
   .obtain⟨b,o,hA,-⟩:=h.at_ hn;cases hA
  obtain rfl:xs=[]:=List.eq_nil_of_length_eq_zero (by have:=h.len;simpa using this);go_enter Tryz.func273,Tryz.ntmps273;go_wp2;go_ret;exact⟨none,0,rfl,World.ownsRow_nil _ _ _ _,Fr.refl _ _⟩
 |some a=>
  obtain⟨i0,a4,a3,a2,a1⟩:=info_parts zuf;obtain⟨A,c,w',a0,ho,hf⟩:=zbe (P:=Tryz.prog) 306 308 306 i0 _ 4 56 Tryz.underlying306 a4 a3 a2 a1 rfl o_ w lo hi a n cap xs h hh (by unfold maxLen;omega) o_;have HO:=zaa ho;have HF:=zaa hf;clear ho hf h a4 a3 a2 a1;go_enter Tryz.func273,Tryz.ntmps273;go_wp2_with (at_builtin;(refine wpList_plain rfl λK hK=>?_);unfold Oper.wp;simp[execOp,resolve,invoke,builtin,a0,Result.andThen,Act.eval];refine hK _ _ ?_);go_ret;exact⟨A,c,rfl,HO.out,HF.out⟩
theorem zug:(Tryz.prog.info? 9).map (λi=>(i.zero,i.size,i.bytes))=some (some (.string ⟨#[]⟩),1,16):=k_
theorem zre (A:Option Addr) (n cap:Nat) (xs:List Value) (w:World) (lo hi:Nat) (h:Lies w lo hi A n 1 xs) (hh:hi<=w.heap.size) (hb:n*16<=140737488351232):
 Calls Tryz.prog 253 #[.slice A n cap] w (zfz 9 1 n xs w):=by
 have a5:=λ(w:World) (A:Option Addr) (n c:Nat)=>Lib.run_eql_slice_nil (P:=Tryz.prog) w 309 9 A n c 0 0 Tryz.underlying309;cases A with
 |none=>
  obtain rfl:n=0:=by
   by_cases hn:n=0
   .exact hn
   .obtain⟨b,o,hA,-⟩:=h.at_ hn;cases hA
  obtain rfl:xs=[]:=List.eq_nil_of_length_eq_zero (by have:=h.len;simpa using this);go_enter Tryz.func253,Tryz.ntmps253;go_wp2;go_ret;exact⟨none,0,rfl,World.ownsRow_nil _ _ _ _,Fr.refl _ _⟩
 |some a=>
  obtain⟨i0,a4,a3,a2,a1⟩:=info_parts zug;obtain⟨A,c,w',a0,ho,hf⟩:=zbe (P:=Tryz.prog) 309 9 309 i0 _ 1 16 Tryz.underlying309 a4 a3 a2 a1 rfl o_ w lo hi a n cap xs h hh (by unfold maxLen;omega) o_;have HO:=zaa ho;have HF:=zaa hf;clear ho hf h a4 a3 a2 a1;go_enter Tryz.func253,Tryz.ntmps253;go_wp2_with (at_builtin;(refine wpList_plain rfl λK hK=>?_);unfold Oper.wp;simp[execOp,resolve,invoke,builtin,a0,Result.andThen,Act.eval];refine hK _ _ ?_);go_ret;exact⟨A,c,rfl,HO.out,HF.out⟩
theorem zuh:(Tryz.prog.info? 311).map (λi=>(i.zero,i.size,i.bytes))=some (some (.agg #[.int .u8 0,.string ⟨#[]⟩,.string ⟨#[]⟩,.int .u8 0,.int .u8 0,.int .u8 0,.int .i64 0,.string ⟨#[]⟩,.slice none 0 0,.int .u8 0,.int .i64 0,.string ⟨#[]⟩,.slice none 0 0,.slice none 0 0,.slice none 0 0,.slice none 0 0,.slice none 0 0]),17,256):=k_
theorem zrf (A:Option Addr) (n cap:Nat) (xs:List Value) (w:World) (lo hi:Nat) (h:Lies w lo hi A n 17 xs) (hh:hi<=w.heap.size) (hb:n*256<=140737488351232):
 Calls Tryz.prog 251 #[.slice A n cap] w (zfz 311 17 n xs w):=by
 have a5:=λ(w:World) (A:Option Addr) (n c:Nat)=>Lib.run_eql_slice_nil (P:=Tryz.prog) w 135 311 A n c 0 0 Tryz.underlying135;cases A with
 |none=>
  obtain rfl:n=0:=by
   by_cases hn:n=0
   .exact hn
   .obtain⟨b,o,hA,-⟩:=h.at_ hn;cases hA
  obtain rfl:xs=[]:=List.eq_nil_of_length_eq_zero (by have:=h.len;simpa using this);go_enter Tryz.func251,Tryz.ntmps251;go_wp2;go_ret;exact⟨none,0,rfl,World.ownsRow_nil _ _ _ _,Fr.refl _ _⟩
 |some a=>
  obtain⟨i0,a4,a3,a2,a1⟩:=info_parts zuh;obtain⟨A,c,w',a0,ho,hf⟩:=zbe (P:=Tryz.prog) 135 311 135 i0 _ 17 256 Tryz.underlying135 a4 a3 a2 a1 rfl o_ w lo hi a n cap xs h hh (by unfold maxLen;omega) o_;have HO:=zaa ho;have HF:=zaa hf;clear ho hf h a4 a3 a2 a1;go_enter Tryz.func251,Tryz.ntmps251;go_wp2_with (at_builtin;(refine wpList_plain rfl λK hK=>?_);unfold Oper.wp;simp[execOp,resolve,invoke,builtin,a0,Result.andThen,Act.eval];refine hK _ _ ?_);go_ret;exact⟨A,c,rfl,HO.out,HF.out⟩
def setRow (w:World) (g:Nat):Nat->List Value->World
 |_,[]=>w
 |o,u::us=>setRow (w.setCell ⟨g,o,none⟩ u) g (o+1) us
theorem zbp {S:Nat->Prop} {a:World} {g:Nat} (hg:g<a.heap.size->S g):∀(us:List Value) (o:Nat) (w:World),Fr S a w->Fr S a (setRow w g o us)
 |[],_,_,h=>h
 |u::us,o,_w,h=>zbp hg us (o+1) _ (h.set hg u)
theorem setRow_size (g:Nat):∀(us:List Value) (o:Nat) (w:World),(setRow w g o us).heap.size=w.heap.size
 |[],_,_=>rfl
 |u::us,o,w=>(setRow_size g us (o+1) _).trans (by simp[World.setCell])
theorem zm4 {u:Value} {us xs:List Value} {o:Nat} (h:o+(us.length+1)<=xs.length):(xs.set o u).take (o+1)++us++(xs.set o u).drop (o+1+us.length)=xs.take o++(u::us)++xs.drop (o+(us.length+1)):=by
 have h1:(xs.set o u).take (o+1)=xs.take o++[u]:=by
  rw[List.take_succ_eq_append_getElem so_];simp[List.take_set_of_le]
 have h2:(xs.set o u).drop (o+1+us.length)=xs.drop (o+(us.length+1)):=by
  rw[List.drop_set_of_lt o_];congr 1
  omega
 rw[h1,h2];simp
theorem zet {w:World} {base e size g n cap i:Nat} {xs:List Value} {u:Value} (h:w.ownsRow base e size (.slice (some ⟨g,0,none⟩) n cap) n xs):(w.setCell ⟨g,i,none⟩ u).ownsRow base e size (.slice (some ⟨g,0,none⟩) n cap) n (xs.set i u):=by
 refine⟨by simp[h.1],?_⟩;rcases h.2 with⟨h1,_⟩|⟨g',a1,a0,h1,hb,hg,hc,hm,a2,hx⟩
 .cases h1
 .simp only[Value.slice.injEq,Option.some.injEq,Addr.mk.injEq,and_true,true_and]at h1;obtain⟨rfl,rfl⟩:=h1;refine .inr ⟨g,cap,a0.setIfInBounds i u,rfl,hb,?_,hc,hm,by simp[a2],?_⟩
  .have:Blk (w.setCell ⟨g,i,none⟩ u) g e (a0.setIfInBounds i u):=Blk.set_ hg i u;exact this
  .rw[<-hx,Array.toList_setIfInBounds,List.take_set]
theorem zdy {base:Nat} {e:TypeId} {size g n cap:Nat}:∀(us:List Value) (o:Nat) (w:World) (xs:List Value),w.ownsRow base e size (.slice (some ⟨g,0,none⟩) n cap) n xs->o+us.length<=xs.length->
 (setRow w g o us).ownsRow base e size (.slice (some ⟨g,0,none⟩) n cap) n (xs.take o++us++xs.drop (o+us.length))
 |[],o,w,xs,h,_=>by simpa[setRow]using h
 |u::us,o,w,xs,h,hl=>by
  have h1:=zet (i:=o) (u:=u) h;have h2:=zdy us (o+1) _ _ h1 (by simp at hl ⊢;omega);rw[setRow];rw[zm4 (by simpa using hl)]at h2;exact h2
theorem zdd {w:World} {base lo hi:Nat} {e:TypeId} {size:Nat} {A:Option Addr} {cap:Nat} {l:List G} (_hs:0<size) (h:w.ownsRow base e size (.slice A l.length cap) l.length (za6 l)) (hc:∀x∈l,x.c.length=size) (hin:∀x∈l,x.In w lo hi) (hb:lo<=base) (hh:w.heap.size<=hi):(G.row A l).In w lo hi:=by
 refine G.row_in.2 ⟨λhne=>?_,hin⟩;obtain⟨g,c,hA,a1,a2⟩:=h.form (List.length_pos_iff.2 hne);simp only[Value.slice.injEq,true_and]at hA;obtain⟨rfl,rfl⟩:=hA;refine⟨g,0,rfl,by omega,by omega,λi x hx j u hu=>?_⟩;have a0:=hc x (List.mem_of_getElem? hx);have:=World.ownsRow.cells h (g:=g) rfl _ _ (zdw hc hx hu);rw[zbi,<-Nat.add_assoc]at this;rw[a0];exact this
theorem row_td {w:World} {base:Nat} {e:TypeId} {size:Nat} {A:Option Addr} {cap n:Nat} {xs:List Value} {l:List G} (he:e=28\/e=308\/e=311\/e=260\/e=9) (h:w.ownsRow base e size (.slice A n cap) n xs) (hn:n=l.length) (ht:∀x∈l,x.Td w):(G.row A l).Td w:=by
 subst hn;intro b hb;rcases G.row_has hb with⟨a,rfl,hl,rfl⟩|⟨x,hx,hh⟩
 .rcases h.2 with⟨h0,-⟩|⟨g,a0,a1,h1,-,hg,-⟩
  .cases h0
  .simp only[Value.slice.injEq,Option.some.injEq,true_and]at h1;obtain⟨rfl,rfl⟩:=h1;exact⟨e,a1,he,hg⟩
 .exact ht x hx b hh
theorem zjg {l1 l2:List G} {x y:G} {size:Nat} (h1:∀z∈l1,z.c.length=size) (hx:x.c.length=size) (hy:y.c.length=size):
 (za6 (l1++x::l2)).take (l1.length*size)++y.c++(za6 (l1++x::l2)).drop (l1.length*size+y.c.length)=za6 ((l1++[y])++l2):=by
 have e1:(za6 l1).length=l1.length*size:=zdc h1;have e2:za6 (l1++x::l2)=za6 l1++(x.c++za6 l2):=by simp[za6]
 rw[e2,<-e1,List.take_left,hy,<-List.drop_drop,List.drop_left,<-hx,List.drop_left];simp[za6]
theorem zgd {w:World} {lo hi:Nat} {A:Option Addr} {l:List G} {size:Nat} (h:(G.row A l).In w lo hi) (hc:∀x∈l,x.c.length=size) (h1:∀x∈l,∀u∈x.c,u.oneCell'=true) (hs:0<size):Lies w lo hi A l.length size (za6 l):=by
 refine⟨zdc hc,λu hu=>?_,λhn=>?_⟩
 .obtain⟨x,hx,hu⟩:=List.mem_flatMap.1 hu;exact h1 x hx u hu
 .obtain⟨b,o,rfl,h0,h2,a0⟩:=(G.row_in.1 h).1 (by rintro rfl;simp at hn);refine⟨b,o,rfl,h0,h2,λj u hu=>?_⟩;have hj:j<l.length*size:=by rw[<-zdc hc];exact(List.getElem?_eq_some_iff.1 hu).1
  have hi:j / size<l.length:=by rw[Nat.div_lt_iff_lt_mul hs];exact hj
  have hx:=List.getElem?_eq_getElem hi;have a2:=hc _ (List.getElem_mem hi);have hr:j % size<l[j / size].c.length:=by rw[a2];exact Nat.mod_lt _ hs
  have a1:=List.getElem?_eq_getElem hr;have e:=zdw hc hx a1;have ej:j / size*size+j % size=j:=by rw[Nat.mul_comm];exact Nat.div_add_mod j size
  rw[ej,hu]at e;have:=a0 _ _ hx _ _ a1;rw[a2,Nat.add_assoc,ej]at this;rw[this];exact e.symm▸rfl
theorem zex:∀{fs:List Fd} {c:List Value} {s:List (Option Addr×List G)},zbm fs c s->∀u∈c,u.oneCell'=true
 |[],c,s,h,u,hu=>by obtain⟨rfl,rfl⟩:=h;simp at hu
 | .int k::fs,[],s,h,_,_=>h.elim
 | .int k::fs,v::c,s,h,u,hu=>by
  obtain⟨⟨n,rfl,-⟩,h2⟩:=h;rcases List.mem_cons.1 hu with rfl|hu
  .rfl
  .exact zex h2 u hu
 | .bool::fs,[],s,h,_,_=>h.elim
 | .bool::fs,v::c,s,h,u,hu=>by
  obtain⟨⟨n,rfl⟩,h2⟩:=h;rcases List.mem_cons.1 hu with rfl|hu
  .rfl
  .exact zex h2 u hu
 | .str::fs,[],s,h,_,_=>h.elim
 | .str::fs,v::c,s,h,u,hu=>by
  obtain⟨⟨n,rfl,-⟩,h2⟩:=h;rcases List.mem_cons.1 hu with rfl|hu
  .rfl
  .exact zex h2 u hu
 | .sl e z::fs,[],s,h,_,_=>h.elim
 | .sl e z::fs,v::c,[],h,_,_=>h.elim
 | .sl e z::fs,v::c,x::s,h,u,hu=>by
  obtain⟨⟨n,rfl,-⟩,h2⟩:=h;rcases List.mem_cons.1 hu with rfl|hu
  .rfl
  .exact zex h2 u hu
theorem zjn {t:TypeId} {g:G} (h:Ty t g):∀u∈g.c,u.oneCell'=true:=by
 cases h with
 |mk _ _ _ h hk=>exact zex h
theorem Lies.no {w w':World} {lo hi:Nat} {A:Option Addr} {n size:Nat} {xs:List Value} (h:Lies w lo hi A n size xs) (f:Fr No w w') (hh:hi<=w.heap.size):Lies w' lo hi A n size xs:=by
 refine⟨h.len,h.one,λhn=>?_⟩;obtain⟨b,o,hA,h0,h1,hc⟩:=h.at_ hn;exact⟨b,o,hA,h0,h1,λj u hu=>(f.cell o_ λh=>h).trans (hc j u hu)⟩
def zx9 (t:TypeId) (g:G) (w:World) (e:Ending) (w':World):Prop:=
 ∃g':G,e= .returned (.agg g'.c.toArray)/\Ty t g'/\g'.er=g.er/\g'.In w' w.heap.size w'.heap.size/\g'.Td w'/\Fr No w w'
structure OwnRI (e:TypeId) (size:Nat) (w:World) (base mid:Nat) (A:Option Addr) (cap:Nat) (l:List G) (j:Nat) (l':List G) (wr:World):Prop where
 len:l'.length=j
 ty:∀x∈l',Ty e x
 er:l'.map G.er=(l.take j).map G.er
 fr:Fr No w wr
 row:wr.ownsRow base e size (.slice A l.length cap) l.length (za6 (l'++l.drop j))
 gm:∀g,(Value.slice A l.length cap).ownBlock=some g->g<mid
 inn:∀x∈l',x.In wr mid wr.heap.size
 td:∀x∈l',x.Td wr
 big:w.heap.size<=base/\base<=mid/\mid<=wr.heap.size
section
variable {e:TypeId} {size:Nat} {w wr w2:World} {base mid:Nat} {A:Option Addr} {cap:Nat} {l l':List G} {j:Nat}
theorem OwnRI.no (h:OwnRI e size w base mid A cap l j l' wr) (f:Fr No wr w2):OwnRI e size w base mid A cap l j l' w2:=
 ⟨h.len,h.ty,h.er,h.fr.trans f,zaf h.row f λ_ _ h=>h,h.gm,λx hx=>G.In.more (Nat.le_refl _) f.size _ ((h.inn x hx).no f (Nat.le_refl _)),λx hx=>(h.td x hx).fr f λ_ _ h=>h,h.big.1,h.big.2.1,Nat.le_trans h.big.2.2 f.size⟩
theorem OwnRI.at_ (h:OwnRI e size w base mid A cap l j l' wr) (hj:j<l.length) (hc:∀x∈l,x.c.length=size) (hc':∀x∈l',x.c.length=size):∃g,A=some ⟨g,0,none⟩/\base<=g/\g<mid/\(∀i u,l[j].c[i]? =some u->wr.cell? ⟨g,j*size+i,none⟩=some u)/\∀i,wr.frozen? ⟨g,i,none⟩=false:=by
 obtain⟨g,c,hA,a0,a1⟩:=h.row.form o_;simp only[Value.slice.injEq,true_and]at hA;obtain⟨rfl,rfl⟩:=hA;refine⟨g,rfl,a0,h.gm g rfl,λi u hu=>?_,λi=>World.ownsRow.frozenAt h.row i⟩;have hx:(l'++l.drop j)[j]? =some l[j]:=by
  rw[List.getElem?_append_right (by rw[h.len];exact Nat.le_refl _),h.len,Nat.sub_self,List.getElem?_drop];simp[hj]
 have:=World.ownsRow.cells h.row (g:=g) rfl _ _ (zdw (n:=size) (λx hx=>by
  rcases List.mem_append.1 hx with hx|hx
  .exact hc' x hx
  .exact hc x (List.mem_of_mem_drop hx)) hx hu)
 rwa [zbi,Nat.zero_add]at this
theorem OwnRI.step {g:Nat} (h:OwnRI e size w base mid (some ⟨g,0,none⟩) cap l j l' wr) (hj:j<l.length) (hc:∀x∈l,x.c.length=size) (hc':∀x∈l',x.c.length=size) (f:Fr No wr w2) {y:G} (hy:Ty e y) (hye:y.er=l[j].er) (hyl:y.c.length=size)
 (hyi:y.In w2 wr.heap.size w2.heap.size) (hyt:y.Td w2):OwnRI e size w base mid (some ⟨g,0,none⟩) cap l (j+1) (l'++[y]) (setRow w2 g (j*size) y.c):=by
 have a1:l.drop j=l[j]::l.drop (j+1):=List.drop_eq_getElem_cons hj;have h2:=h.no f;have a4:=h.gm g rfl;have a5:=(zaj h.row g rfl).1;have hb:=h.big;have fs:Fr (λi=>i=g) w2 (setRow w2 g (j*size) y.c):=zbp (S:=λi=>i=g) (λ_=>rfl) _ _ _ (Fr.refl (λi=>i=g) w2);have a3:(za6 (l'++l.drop j)).length=l.length*size:=h2.row.1;have a2:j*size+y.c.length<=(za6 (l'++l.drop j)).length:=by
  rw[a3,hyl,<-Nat.succ_mul];exact Nat.mul_le_mul_right _ hj
 have a0:=zdy y.c (j*size) w2 _ h2.row a2;rw[a1]at a0;have e1:=zjg (l1:=l') (l2:=l.drop (j+1)) (x:=l[j]) (y:=y) (size:=size) hc' (hc _ (List.getElem_mem hj)) hyl;rw[h.len]at e1;rw[e1]at a0;have a6:=f.size;refine⟨by simp[h.len],λx hx=>?_,?_,h2.fr.trans' fs (λi hi h=>?_),a0,h.gm,λx hx=>?_,λx hx=>?_,h.big.1,h.big.2.1,?_⟩
 .rcases List.mem_append.1 hx with hx|hx
  .exact h.ty x hx
  .simp at hx;subst hx;exact hy
 .rw[List.map_append,h.er,List.take_succ_eq_append_getElem hj,List.map_append];simp[hye]
 .have h':i=g:=h;omega
 .rcases List.mem_append.1 hx with hx|hx
  .exact G.In.more (Nat.le_refl _) fs.size _ ((h2.inn x hx).fr fs (Nat.le_refl _) λi h0 h1 hi=>by have h':i=g:=hi;omega)
  .simp at hx;subst hx;exact G.In.more o_ fs.size _ (hyi.fr fs (Nat.le_refl _) λi h0 h1 hi=>by have h':i=g:=hi;omega)
 .rcases List.mem_append.1 hx with hx|hx
  .exact(h2.td x hx).fr fs λb hb hi=>by have h':b=g:=hi;have:=G.In.has hb (h2.inn x hx);omega
  .simp at hx;subst hx;exact hyt.fr fs λb hb hi=>by have h':b=g:=hi;have:=G.In.has hb hyi;omega
 .have:=fs.size;omega
theorem OwnRI.row_in (h:OwnRI e size w base mid A cap l l.length l' wr) (hs:0<size) (hc':∀x∈l',x.c.length=size):(G.row A l').In wr base wr.heap.size:=by
 have hr:=h.row;rw[List.drop_length,List.append_nil]at hr;have hl:=h.len;rw[<-hl]at hr;exact zdd hs hr hc' (λx hx=>G.In.more (Nat.le_trans (Nat.le_refl _) h.big.2.1) (Nat.le_refl _) _ (h.inn x hx)) (Nat.le_refl _) (Nat.le_refl _)
theorem OwnRI.row_td (h:OwnRI e size w base mid A cap l l.length l' wr) (he:e=28\/e=308\/e=311\/e=260\/e=9):(G.row A l').Td wr:=
 Go.Proofs.YtlejelbefmkakaaGreat.row_td he h.row h.len.symm h.td
theorem OwnRI.ers (h:OwnRI e size w base mid A cap l l.length l' wr):l'.map G.er=l.map G.er:=by
 rw[h.er,List.take_length]
theorem OwnRI.start (ho:wr.ownsRow base e size (.slice A l.length cap) l.length (za6 l)) (f:Fr No w wr) (hb:w.heap.size<=base) (hb2:base<=wr.heap.size):OwnRI e size w base wr.heap.size A cap l 0 [] wr:=
 ⟨rfl,by simp,by simp,f,by simpa using ho,λg hg=>(zaj ho g hg).2,by simp,by simp,hb,hb2,Nat.le_refl _⟩
end
theorem zce {n:Int} (h0:0<=n) (h1:n<256):(Lit.int .u8 n).wf=true:=by
 have e0:IntKind.u8.min=0:=d_;have e1:IntKind.u8.max=255:=d_;simp only[Lit.wf,e0,e1,Bool.and_eq_true,decide_eq_true_eq];omega
theorem zcs {n:Int} (h0: -9223372036854775808<=n) (h1:n<=9223372036854775807):(Lit.int .i64 n).wf=true:=by
 have e0:IntKind.i64.min= -9223372036854775808:=d_;have e1:IntKind.i64.max=9223372036854775807:=d_;simp only[Lit.wf,e0,e1,Bool.and_eq_true,decide_eq_true_eq];omega
theorem zcf {w:World} {base:Nat} {e:TypeId} {size n cap:Nat} {A:Option Addr} {xs:List Value} (h:w.ownsRow base e size (.slice A n cap) n xs):n<=cap:=by
 rcases h.2 with⟨h0,h1⟩|⟨g,a0,a1,h0,-,-,h3,-⟩
 .simp at h0;omega
 .simp at h0;omega
theorem zn2 {w w2:World} {g p:Nat} {a b c d:Value} (f:Fr No w w2) (hg:g<w.heap.size) (x0:w.cell? ⟨g,p,none⟩=some a) (x1:w.cell? ⟨g,p+1,none⟩=some b) (x2:w.cell? ⟨g,p+2,none⟩=some c) (x3:w.cell? ⟨g,p+3,none⟩=some d) (hz:∀i,w.frozen? ⟨g,i,none⟩=false):
 ∃a b c d,w2.cell? ⟨g,p,none⟩=some a/\w2.cell? ⟨g,p+1,none⟩=some b/\w2.cell? ⟨g,p+2,none⟩=some c/\w2.cell? ⟨g,p+3,none⟩=some d/\(∀i,w2.frozen? ⟨g,i,none⟩=false)/\g<w2.heap.size:=
 ⟨a,b,c,d,(f.cell hg λh=>h).trans x0,(f.cell hg λh=>h).trans x1,(f.cell hg λh=>h).trans x2,(f.cell hg λh=>h).trans x3,λi=>(f.frozen hg λh=>h).trans (hz i),Nat.lt_of_lt_of_le hg f.size⟩
theorem zgs (g:G):∀(w:World) (lo hi:Nat),Ty 308 g->g.In w lo hi->hi<=w.heap.size->Calls Tryz.prog 252 #[.agg g.c.toArray] w (zx9 308 g w):=by
 induction g using G.ind with
 |h c subs ih=>
  intro w lo hi a5 hin hh;obtain⟨k,n,s,A,cap,l,e,e0,hk⟩:=za3 a5;injection e with e1 e2
  subst e1 e2;have a8:=G.in_rows.1 hin A l s_;have d9:∀x∈l,x.c.length=4:=λx hx=>(zas (hk x hx)).trans (by rw[za0];rfl);have a2:=zgd a8 d9 (λx hx=>zjn (hk x hx)) o_;have d7:=e0.len1;have HC:=zaa λW' (f:Fr No w W')=>zrd A l.length cap (za6 l) W' lo hi (a2.no f hh) (Nat.le_trans hh f.size) d7;have f9:=zaa λ(x:G) (hx:x∈l) W' (f:Fr No w W')=>ih A l s_ x hx W' lo hi (hk x hx) ((G.in_mk.1 hin A l s_).2 x hx |>.no f hh) (Nat.le_trans hh f.size);have c6:=zaa e0;have e6:=zaa d9;have h4:=zaa hk;have e4:=(Blk.new w 308 #[.int .u8 k,.int .i64 n,.string s,.slice A l.length cap]).alloc (.cells #[.int .u8 0,.int .i64 0,.string ⟨#[]⟩,.slice none 0 0] 308);have b4:=Blk.new' (w.alloc (.cells #[.int .u8 k,.int .i64 n,.string s,.slice A l.length cap] 308)) 308 #[.int .u8 0,.int .i64 0,.string ⟨#[]⟩,.slice none 0 0] (g:=w.heap.size+1) s_;have f6:=((Fr.refl No w).alloc (.cells #[.int .u8 k,.int .i64 n,.string s,.slice A l.length cap] 308)).alloc (.cells #[.int .u8 0,.int .i64 0,.string ⟨#[]⟩,.slice none 0 0] 308);have f5:=zaa e4;have f4:=zaa b4;have e9:=zaa f6;have f7:w.heap.size+2<=((w.alloc (.cells #[.int .u8 k,.int .i64 n,.string s,.slice A l.length cap] 308)).alloc (.cells #[.int .u8 0,.int .i64 0,.string ⟨#[]⟩,.slice none 0 0] 308)).heap.size:=s_;have c5:=zaa f7;clear e4 b4 f6 f7 e0 d9 hk a2 a8 hin a5 ih;show Calls Tryz.prog 252 #[.agg #[.int .u8 k,.int .i64 n,.string s,.slice A l.length cap]] w _;go_enter Tryz.func252,Tryz.ntmps252;go_wp2_with fail;generalize i7:World.alloc (World.alloc w _) _=W0 at*;refine(HC.out W0 e9.out).mono ?_;rintro e w1 ⟨A',c',rfl,ho,f1⟩;have hb:=f5.out.fr f1 λh=>h;have hz:=hb.frozen;have hq:=hb.lt;have i0:w1.cell? ⟨w.heap.size,3,none⟩=some (.slice A l.length cap):=hb.cell 3;go_upto_region 2 with(fail);have a6:=hb.set_ 3 (.slice A' l.length c');have b4:=(f4.out.fr f1 λh=>h).far (p:=⟨w.heap.size,3,none⟩) s_ (.slice A' l.length c');have b3:∀g,(Value.slice A' l.length c').ownBlock=some g->w.heap.size+2<=g/\g<w1.heap.size:=λg hg=>by have:=zaj ho g hg;have:=c5.out;omega
  have fs:Fr (λi=>i=w.heap.size) w1 (w1.setCell ⟨w.heap.size,3,none⟩ (.slice A' l.length c')):=(Fr.refl (λi=>i=w.heap.size) w1).set (λ_=>rfl) _;have f0:=zaf ho fs λg hg h=>by have h':g=w.heap.size:=h;have:=(b3 g hg).1;omega
  have f8:Fr No w (w1.setCell ⟨w.heap.size,3,none⟩ (.slice A' l.length c')):=(e9.out.trans f1).trans' fs λi hi h=>by have h':i=w.heap.size:=h;omega
  have b7:=OwnRI.start (w:=w) f0 f8 (by have:=c5.out;omega) (by have:=fs.size;have:=f1.size;omega);simp only[List.setIfInBounds_toArray,List.set_cons_zero,List.set_cons_succ]at a6;clear hb hz hq fs f0 f8 b3 ho f1 i0;generalize World.setCell w1 _ _=W1 at*;have d5:=zaa a6;have c7:=zaa b4;have h5:=zaa b7;have e3:=zaa (show w.heap.size+2<=W0.heap.size from c5.out);have h3:W1.cell? ⟨w.heap.size,3,none⟩=some (.slice A' l.length c'):=a6.cell 3;have g4:=a6.lt;clear a6 b4 b7 HC f5 f4;go_wp2_with fail;go_loopw [12] (λi wr=>∃(j:Nat) (l':List G),j<=l.length/\i= .int .i64 j/\OwnRI 308 4 w W0.heap.size W1.heap.size A' c' l j l' wr/\Blk wr w.heap.size 308 #[.int .u8 k,.int .i64 n,.string s,.slice A' l.length c']/\Blk wr (w.heap.size+1) 308 #[.int .u8 0,.int .i64 0,.string ⟨#[]⟩,.slice none 0 0])
   (λi _=>l.length - (intOf i).toNat)
  case atStart=>exact⟨0,[],Nat.zero_le _,rfl,h5.out,d5.out,c7.out⟩
  case round=>
   obtain⟨j,l',hj,rfl,inv,b0,b1⟩:=hrel;have a3:∀x∈l',x.c.length=4:=λx hx=>(zas (inv.ty x hx)).trans (by rw[za0];rfl);by_cases hlt:j<l.length
   .obtain⟨gr,rfl,g2,h8,a4,e5⟩:=inv.at_ hlt e6.out a3;obtain⟨k1,n1,s1,A1,a1,l1,hx,-,-⟩:=za3 (h4.out _ (List.getElem_mem hlt));rw[hx]at a4;have x0:wr.cell? ⟨gr,j*4,none⟩=some (.int .u8 k1):=a4 0 _ rfl;have x1:wr.cell? ⟨gr,j*4+1,none⟩=some (.int .i64 n1):=a4 1 _ rfl;have x2:wr.cell? ⟨gr,j*4+2,none⟩=some (.string s1):=a4 2 _ rfl;have x3:wr.cell? ⟨gr,j*4+3,none⟩=some (.slice A1 l1.length a1):=a4 3 _ rfl;have g0:gr<wr.heap.size:=by have:=inv.big.2.2;omega
    have IH:=f9.out l[j] (List.getElem_mem hlt);rw[hx]at IH;have d3:wr.cell? ⟨w.heap.size,3,none⟩=some (.slice (some ⟨gr,0,none⟩) l.length c'):=b0.cell 3;have dq:=b0.lt;have b8:=zaa inv;have c8:=zaa IH;have HX:=zaa hx;have c9:=zaa b0;have d6:=zaa b1;clear a4 inv IH hx b0 b1 f9;go_upto_region 5 with(fail);have HY:=zaa (Blk.new wr 308 #[.int .u8 k1,.int .i64 n1,.string s1,.slice A1 l1.length a1]);have f3:=(Fr.refl No wr).alloc (.cells #[.int .u8 k1,.int .i64 n1,.string s1,.slice A1 l1.length a1] 308);have b5:=zaa f3;have g6:wr.heap.size+1<=(wr.alloc (.cells #[.int .u8 k1,.int .i64 n1,.string s1,.slice A1 l1.length a1] 308)).heap.size:=s_;clear f3;generalize h2:World.alloc wr _=Wa at*;have y0:Wa.cell? ⟨wr.heap.size,0,none⟩=some (.int .u8 k1):=HY.out.cell 0;have y1:Wa.cell? ⟨wr.heap.size,1,none⟩=some (.int .i64 n1):=HY.out.cell 1;have y2:Wa.cell? ⟨wr.heap.size,2,none⟩=some (.string s1):=HY.out.cell 2;have y3:Wa.cell? ⟨wr.heap.size,3,none⟩=some (.slice A1 l1.length a1):=HY.out.cell 3;have yq:=HY.out.lt;have z3:Wa.cell? ⟨w.heap.size,3,none⟩=some (.slice (some ⟨gr,0,none⟩) l.length c'):=(b5.out.cell dq λh=>h).trans d3;have zq:w.heap.size<Wa.heap.size:=o_;have h7:=zaa (λ(w2:World) (f:Fr No wr w2)=>zn2 f g0 x0 x1 x2 x3 e5);have g7:=zaa (λ(w2:World) (f:Fr No wr w2)=>And.intro ((f.cell (o:=3) (s:=none) dq λh=>h).trans d3) (Nat.lt_of_lt_of_le dq f.size));have g9:=zaa g2;clear x0 x1 x2 x3 e5 d3 dq g6 h2 h3 g4 g2 h8 g0;go_region_with ((go_at_call 252;refine(c8.out _ (b8.out.fr.trans b5.out.drew)).mono ?_;rintro e w2 ⟨y,he,a5,g1,a7,g5,f2⟩;obtain⟨k2,n2,s2,A2,b2,l2,rfl,-,-⟩:=za3 a5;obtain rfl:e= .returned (.agg #[.int .u8 k2,.int .i64 n2,.string s2,.slice A2 l2.length b2]):=he;have b9:=b5.out.drew.trans f2;obtain⟨v3,vq⟩:=g7.out _ b9;obtain⟨i8,i9,i4,i5,u0,u1,u2,u3,uf,ug⟩:=h7.out _ b9;have d8:=zaa a5;have h1:=zaa g1;have i1:=zaa a7;have g8:=zaa g5;have d4:=zaa b9;clear a5 g1 a7 g5 f2 b9))
    all_goals
     go_simp;go_wp2_with fail;go_roundw
     case rel=>
      have b7:=b8.out.step hlt e6.out a3 d4.out d8.out (by rw[HX.out];exact h1.out) rfl (G.In.more (by have:=b5.out.size;exact this) (Nat.le_refl _) _ i1.out) g8.out;have a9:w.heap.size≠gr/\w.heap.size+1≠gr:=by have:=g9.out;have:=e3.out;omega
      have e8:Fr (λi=>i=gr) w2 (setRow w2 gr (j*4) [.int .u8 k2,.int .i64 n2,.string s2,.slice A2 l2.length b2]):=zbp (S:=λi=>i=gr) (λ_=>rfl) _ _ _ (Fr.refl (λi=>i=gr) w2);have i2:=(c9.out.fr d4.out λh=>h).fr e8 a9.1;have h6:=(d6.out.fr d4.out λh=>h).fr e8 a9.2;exact⟨j+1,_,hlt,by go_num,b7,i2,h6⟩
     case measure=>simp[intOf];omega
   .obtain rfl:l.length=j:=o_;have c0:wr.cell? ⟨w.heap.size,0,none⟩=some (.int .u8 k):=b0.cell 0;have c1:wr.cell? ⟨w.heap.size,1,none⟩=some (.int .i64 n):=b0.cell 1;have c2:wr.cell? ⟨w.heap.size,2,none⟩=some (.string s):=b0.cell 2;have c3:wr.cell? ⟨w.heap.size,3,none⟩=some (.slice A' l.length c'):=b0.cell 3;have cq:=b0.lt;have d0:wr.cell? ⟨w.heap.size+1,0,none⟩=some (.int .u8 0):=b1.cell 0;have d1:wr.cell? ⟨w.heap.size+1,1,none⟩=some (.int .i64 0):=b1.cell 1;have d2:wr.cell? ⟨w.heap.size+1,2,none⟩=some (.string ⟨#[]⟩):=b1.cell 2;have d3:wr.cell? ⟨w.heap.size+1,3,none⟩=some (.slice none 0 0):=b1.cell 3;have df:=b1.frozen;have dq:=b1.lt;have b8:=zaa inv;clear inv b0 b1 h3 g4;go_wp2;refine bodyPost_ret (v:=.agg #[.int .u8 k,.int .i64 n,.string s,.slice A' l.length c']) (by simp[results,Tryz.results252,go_sem, *]) rfl ?_;generalize hW:World.setCell _ _ _=W;have b6:Fr (λi=>i=w.heap.size+1) wr W:=by
     rw[<-hW];repeat(first|with_reducible exact Fr.refl _ wr|with_reducible refine Fr.set ?_ s_ _)
    have inv:=b8.out;have i6:=e3.out;have hb:=inv.big;have g3:=inv.row_in o_ a3;have h9:=inv.row_td (.inr (.inl rfl));have a9:∀b,(G.row A' l').Has b->¬(b=w.heap.size+1):=λb hbb h=>by have:=G.In.has hbb g3;omega
    have c4:=g3.frH b6 (Nat.le_refl _) a9;refine⟨.mk [.int .u8 k,.int .i64 n,.string s,.slice A' l.length c'] [(A',l')],rfl,?_,?_,?_,?_,inv.fr.trans' b6 λi hi h=>by have h':i=w.heap.size+1:=h;omega⟩
    .have a0:=c6.out;rw[<-inv.len];refine .mk _ _ _ ?_ λi e h0 e7 x he hs hx=>?_
     .rw[za0];exact⟨⟨k,rfl,zce a0.k0 a0.k1⟩,⟨n,rfl,zcs a0.n0 a0.n1⟩,⟨s,rfl,a0.s1⟩,⟨c',rfl,by rw[inv.len];exact zcf inv.row,by rw[inv.len];exact a0.len1⟩,rfl,rfl⟩
     .rw[za0]at he;cases i with
      |zero=>
       simp[sls]at he hs;obtain⟨rfl,rfl⟩:=hs;subst he;exact inv.ty x hx
      |succ i=>simp at hs
    .rw[G.er_mk,G.er_mk];simp[erV,inv.ers]
    .refine G.in_rows.2 λA'' e7 hm=>?_;simp at hm;obtain⟨rfl,rfl⟩:=hm;exact G.In.more o_ b6.size _ c4
    .intro b hbb;obtain⟨h0,e7,hm,i3⟩:=G.mk_has.1 hbb;simp at hm;obtain⟨rfl,rfl⟩:=hm;exact h9.fr b6 a9 b i3
end Go.Proofs.YtlejelbefmkakaaGreat
