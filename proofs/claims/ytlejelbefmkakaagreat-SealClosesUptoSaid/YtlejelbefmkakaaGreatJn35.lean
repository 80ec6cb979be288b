/- Texts joined: Sa4. -/
import Derived.Test.YtlejelbefmkakaaGreatJn1
import Derived.Test.YtlejelbefmkakaaGreatJn28
import Derived.Test.YtlejelbefmkakaaGreatJn30
import Derived.Test.YtlejelbefmkakaaGreatJn34
namespace Go.Proofs.YtlejelbefmkakaaGreat
open Go.RowKit
theorem zj0 (A:Option Addr) (n c:Nat) (w:World):Calls Tryz.prog 205 #[.slice A n c] w λe w'=>e= .returned (.agg #[.int .u8 3,.int .i64 0,.string ⟨#[]⟩,.slice A n c,.int .i64 0])/\Fr No w w':=by
 go_enter Tryz.func205,Tryz.ntmps205;go_wp2;refine bodyPost_ret (v:=.agg #[.int .u8 3,.int .i64 0,.string ⟨#[]⟩,.slice A n c,.int .i64 0]) (by simp[results,Tryz.results205,go_sem, *]) rfl ?_;exact⟨rfl,(Fr.refl No w).alloc _⟩
theorem zyj {w:World} {lo hi:Nat} {A:Option Addr} {cap:Nat} {l:List Nm} (h:NmRow w lo hi A cap l) {j:Nat} (hj:j<l.length):∃b o,A=some ⟨b,o,none⟩/\lo<=b/\b<hi/\l[j].2.In w lo hi/\∀i u,(zbj l[j])[i]? =some u->w.cell? ⟨b,o+j*6+i,none⟩=some u:=by
 obtain⟨b,o,rfl,h0,h1,hc⟩:=h.at_ (by rintro rfl;simp at hj);exact⟨b,o,rfl,h0,h1,(h.inn _ (List.getElem_mem hj)).2,hc j _ (List.getElem?_eq_getElem hj)⟩
end Go.Proofs.YtlejelbefmkakaaGreat
