/- TskGW, Made21 in one text. -/
import Derived.Test.YtnpicaigdfnmfaaGreatPnGraG
import Derived.Test.YtnpicaigdfnmfaaGreatPnPag
import Derived.Test.YtnpicaigdfnmfaaGreatPnRegT
import Derived.Test.YtnpicaigdfnmfaaGreatPnRspF
import Derived.StillTailTactics
import Derived.Test.YtnpicaigdfnmfaaGreatPnZa
set_option linter.unusedVariables false
set_option linter.unusedSimpArgs false
set_option maxRecDepth 100000
set_option maxHeartbeats 16000000
open Go.Proofs.Tryz
namespace Go.Proofs.YtnpicaigdfnmfaaGreat
open Go.RowKit Word
namespace Kl
section
variable {W w:World} {tb:Nat} {a0 a:KAt} {K:Kn} {e0 e:EAt} {A0:List Pg} {E:En} {x:Evt}
theorem yield(h:Tk W w tb a0 e0 A0 a K e E x):Calls Tryz.prog 166 #[.pointer (some ⟨tb,0,none⟩)] w (CallPost W tb a0 e0 A0 x fun _=>Co.no K E 0):=by
 have HFin:Hid (CallPost W tb a0 e0 A0 x (fun _=>Co.no K E 0) (.returned (.tuple #[.int .u32 0,.int .u32 0])) w):=Lh ⟨0,a,e,rfl,h⟩;generalize CallPost W tb a0 e0 A0 x (fun _=>Co.no K E 0)=PQ at*;clear h;go_enter func166,ntmps166;go_wp2;exact HFin.out
theorem time (h:Tk W w tb a0 e0 A0 a K e E x):Calls Tryz.prog 174 #[.pointer (some ⟨tb,0,none⟩)] w (CallPost W tb a0 e0 A0 x fun _=>⟨K.now,0,K,E,0,ByteArray.empty⟩):=by
 have HFin:Hid (CallPost W tb a0 e0 A0 x (fun _=>⟨K.now,0,K,E,0,ByteArray.empty⟩) (.returned (.tuple #[.int .u32 K.now,.int .u32 0])) w):=Lh ⟨0,a,e,rfl,h⟩;generalize CallPost W tb a0 e0 A0 x (fun _=>⟨K.now,0,K,E,0,ByteArray.empty⟩)=PQ at*;obtain⟨c0,c1,c2,c3,c5⟩:=h.all;clear h;go_enter func174,ntmps174;go_wp2;exact HFin.out
theorem nicNext{w:World}{a:KAt}{K:Kn}(h:Knl w a K)(x:Int)(h0:0≤x)(h1:x<65536):
  Calls Tryz.prog 240 #[.pointer (some ⟨a.nb,0,none⟩),.int .u16 x] w fun e w'=>e=.returned (.tuple #[.string (Ni.nextS K.N x),.bool (Ni.nextB K.N x)])∧w=w':=by
 obtain⟨mb,V,sv,hn,_⟩:=h.nic;exact Ni.next hn x h0 h1
theorem pop_q{S:Ni.NicS}(h:∀y t,t∈S.q y→t.size≤128)(x:Int):∀y t,t∈(Ni.popS S x).q y→t.size≤128:=fun y t ht=>by
 unfold Ni.popS at ht;cases hq:S.q x with
 |nil=>rw[hq] at ht;exact h y t ht
 |cons s r=>
  rw[hq] at ht;have ht2:t∈Ni.updQ S.q x r y:=ht
  by_cases e:y=x
  ·rw[e,Ni.updQ_same] at ht2;exact h x t (by rw[hq];exact List.mem_cons_of_mem _ ht2)
  ·rw[Ni.updQ_other _ _ _ e] at ht2;exact h y t ht2
theorem pop_g{S:Ni.NicS}(h:0≤S.gone)(x:Int):0≤(Ni.popS S x).gone:=by
 unfold Ni.popS;cases hq:S.q x with
 |nil=>exact h
 |cons s r=>exact h
theorem bytes(h:Tk W w tb a0 e0 A0 a K e E x)(v n:Int)(v0:0≤v)(v1:v≤4294967295)(n0:0≤n)(n1:n≤4294967295):
  Calls Tryz.prog 236 #[.pointer (some ⟨tb,0,none⟩),.int .u32 v,.int .u32 n] w fun e w'=>e=.returned (.tuple #[.string (Sp.getS E.A v n 1),.bool (Sp.getE E.A v n 1 == 0)])∧Below w.heap.size w w':=by
 obtain⟨c0,c1,c2,c3,c5⟩:=h.all;have HS:=Lh (Ev.space h.s.j.en);have HR:=Lh (Sp.read h.s.j.en.sp v n v0 v1);clear h;go_enter func236,ntmps236;go_wp2_with fail;refine HS.out.mono ?_;rintro e w1 ⟨rfl,rfl⟩;go_wp2_with fail;refine HR.out.mono ?_;rintro e w1 ⟨rfl,hb⟩;have HB:=Lh hb;clear hb;go_wp2;go_ret2;exact⟨rfl,HB.out⟩
theorem shows(h:Tk W w tb a0 e0 A0 a K e E x)(kd nm:Int)(t:ByteArray):
  Calls Tryz.prog 120 #[.pointer (some ⟨tb,0,none⟩),.agg #[.int .u8 kd,.int .i64 0,.string t,.int .u32 nm]] w fun r w'=>r=.returned (.tuple #[])∧Tk W w' tb a0 e0 A0 a K e E ⟨kd,E.num,t,nm,true⟩:=by
 have hb:Below w.heap.size w (w.alloc (.cells #[.int .u8 kd,.int .i64 0,.string t,.int .u32 nm] 89)):=Ba _;have hbk:=heap_alloc_new w (.cells #[.int .u8 kd,.int .i64 0,.string t,.int .u32 nm] 89);have h1:=h.below hb;have hn:=Ev.num h1.s.j.en;have hb2:Below w.heap.size w (w.alloc (.cells #[.int .u8 kd,.int .i64 E.num,.string t,.int .u32 nm] 89)):=Ba _;have hbk2:=heap_alloc_new w (.cells #[.int .u8 kd,.int .i64 E.num,.string t,.int .u32 nm] 89);have h2:=h.below hb2;have HFin:=Lh (h2.show' ⟨kd,E.num,t,nm,true⟩);unfold Tk.put at HFin;have HN:=Lh hn;obtain⟨c0,c1,_⟩:=h1.all;have hcl:∀i v, #[Value.int .u8 kd,.int .i64 E.num,.string t,.int .u32 nm][i]? =some v→(w.alloc (.cells #[.int .u8 kd,.int .i64 E.num,.string t,.int .u32 nm] 89)).cell? ⟨w.heap.size,i,none⟩=some v:=fun i v hi=>by
  unfold World.cell?;rw[hbk2];exact hi
 have y0:(w.alloc (.cells #[.int .u8 kd,.int .i64 E.num,.string t,.int .u32 nm] 89)).cell? ⟨w.heap.size,0,none⟩=some (.int .u8 kd):=hcl 0 _ rfl;have y1:(w.alloc (.cells #[.int .u8 kd,.int .i64 E.num,.string t,.int .u32 nm] 89)).cell? ⟨w.heap.size,1,none⟩=some (.int .i64 E.num):=hcl 1 _ rfl;have y2:(w.alloc (.cells #[.int .u8 kd,.int .i64 E.num,.string t,.int .u32 nm] 89)).cell? ⟨w.heap.size,2,none⟩=some (.string t):=hcl 2 _ rfl;have y3:(w.alloc (.cells #[.int .u8 kd,.int .i64 E.num,.string t,.int .u32 nm] 89)).cell? ⟨w.heap.size,3,none⟩=some (.int .u32 nm):=hcl 3 _ rfl;have f1:(w.alloc (.cells #[.int .u8 kd,.int .i64 0,.string t,.int .u32 nm] 89)).frozen? ⟨w.heap.size,1,none⟩=false:=by unfold World.frozen?;rw[hbk];rfl
 have ft:=fun i=>h2.free i
 obtain⟨d0,d1,_⟩:=h2.all;have d2:(w.alloc (.cells #[.int .u8 kd,.int .i64 E.num,.string t,.int .u32 nm] 89)).cell? ⟨tb,2,none⟩=some (.int .u8 x.kind):=h2.cell 2 _ rfl;have d3:(w.alloc (.cells #[.int .u8 kd,.int .i64 E.num,.string t,.int .u32 nm] 89)).cell? ⟨tb,3,none⟩=some (.int .i64 x.env):=h2.cell 3 _ rfl;have d4:(w.alloc (.cells #[.int .u8 kd,.int .i64 E.num,.string t,.int .u32 nm] 89)).cell? ⟨tb,4,none⟩=some (.string x.text):=h2.cell 4 _ rfl;have d5:(w.alloc (.cells #[.int .u8 kd,.int .i64 E.num,.string t,.int .u32 nm] 89)).cell? ⟨tb,5,none⟩=some (.int .u32 x.num):=h2.cell 5 _ rfl;have d6:(w.alloc (.cells #[.int .u8 kd,.int .i64 E.num,.string t,.int .u32 nm] 89)).cell? ⟨tb,6,none⟩=some (.bool x.seen):=h2.cell 6 _ rfl;clear hn hb hb2 hbk hbk2 h h1 h2 hcl;go_enter func120,ntmps120;go_wp2_with fail;refine HN.out.mono ?_;rintro r w1 ⟨rfl,rfl⟩;go_upto_region 2 with(fail);clear c0 c1 f1 HN;generalize (w.alloc (.cells #[.int .u8 kd,.int .i64 E.num,.string t,.int .u32 nm] 89))=V at*;go_wp2
 first
  |(go_end0;exact⟨rfl,HFin.out⟩)
  |exact⟨rfl,HFin.out⟩
theorem page(h:Tk W w tb a0 e0 A0 a K e E x):Calls Tryz.prog 167 #[.pointer (some ⟨tb,0,none⟩)] w (CallPost W tb a0 e0 A0 x fun b=>Co.page K E b (E.arg 1)):=by
 have hbd:=arg_bd h.s.j.en 1;have hA:=Ev.arg h.s.j.en 1 (by omega) (by omega);generalize E.arg 1=v at*;obtain⟨v0,v1⟩:=hbd;have HA:=Lh hA;have HS:=Lh (Ev.space h.s.j.en);have HP:=Lh (Sp.perm_any h.s.j.en.sp v v0 v1);obtain⟨c0,c1,c2,c3,c5⟩:=h.all
 by_cases hp:Sp.permB E.A v=true∨En.mayP v=false
 ·have HFin:=Lh (fin_no h (f:=fun b=>Co.page K E b v) 2 fun b=>by unfold Co.page;rw[if_pos hp]);generalize CallPost W tb a0 e0 A0 x (fun b=>Co.page K E b v)=PQ at*;cases hq:Sp.permB E.A v with
  |true=>
   rw[hq] at HP;clear h hA hp hq;go_enter func167,ntmps167;go_wp2_with fail;refine HA.out.mono ?_;rintro e w1 ⟨rfl,rfl⟩;go_wp2_with fail;refine HS.out.mono ?_;rintro e w1 ⟨rfl,rfl⟩;go_wp2_with fail;refine HP.out.mono ?_;rintro e w1 ⟨rfl,rfl⟩;go_wp2;exact HFin.out
  |false=>
   have hm:En.mayP v=false:=hp.resolve_left (by rw[hq];decide);rw[hq] at HP;have hb:(v % 256 == 0&&decide (256≤v)&&decide (v<1048576))=false:=hm;clear h hA hp hq hm
   by_cases g1:v % 256=0
   ·have g1b:(v % 256 != 0)=false:=by rw[g1];rfl
    by_cases g2:v<256
    ·clear g1 hb;go_enter func167,ntmps167;go_wp2_with fail;refine HA.out.mono ?_;rintro e w1 ⟨rfl,rfl⟩;go_wp2_with fail;refine HS.out.mono ?_;rintro e w1 ⟨rfl,rfl⟩;go_wp2_with fail;refine HP.out.mono ?_;rintro e w1 ⟨rfl,rfl⟩;go_wp2;exact HFin.out
    ·have g3:1048576≤v:=by
      rcases Int.lt_or_le v 1048576 with q|q
      ·simp[g1,q] at hb;omega
      ·exact q
     clear g1 hb;go_enter func167,ntmps167;go_wp2_with fail;refine HA.out.mono ?_;rintro e w1 ⟨rfl,rfl⟩;go_wp2_with fail;refine HS.out.mono ?_;rintro e w1 ⟨rfl,rfl⟩;go_wp2_with fail;refine HP.out.mono ?_;rintro e w1 ⟨rfl,rfl⟩;go_wp2;exact HFin.out
   ·have g1b:(v % 256 != 0)=true:=bne_iff_ne.2 g1;clear g1 hb;go_enter func167,ntmps167;go_wp2_with fail;refine HA.out.mono ?_;rintro e w1 ⟨rfl,rfl⟩;go_wp2_with fail;refine HS.out.mono ?_;rintro e w1 ⟨rfl,rfl⟩;go_wp2_with fail;refine HP.out.mono ?_;rintro e w1 ⟨rfl,rfl⟩;go_wp2;exact HFin.out
 ·have hq:Sp.permB E.A v=false:=by cases q:Sp.permB E.A v with|true=>exact absurd (.inl q) hp|false=>rfl
  have hm:En.mayP v=true:=by cases q:En.mayP v with|false=>exact absurd (.inr q) hp|true=>rfl
  rw[hq] at HP;obtain⟨g1,g2,g3⟩:=En.mayP_iff.1 hm;have g1b:(v % 256 != 0)=false:=by rw[g1];rfl
  have hni:=h.i64;have HN:=Lh fun V (hV:Below w.heap.size w V)=>(Ev.num (h.below hV).s.j.en)
  have hdr:=h.below Br.drew;have hD:=hdr.all;have HT:=Lh (Ca.take hdr.s.j.kn.caps hni);have HTk:=Lh fun V' (g:Ca.takeP w.drew a.c K.hp K.g E.num V')=>hdr.left (KStep.setCaps hdr.s.j.kn g.1 (Gp.upd_some (Gp.take_some _)) g.2)
  by_cases ht:Gp.takeE (K.g E.num)=0
  ·have htb:(Gp.takeE (K.g E.num) != 0)=false:=by rw[ht];rfl
   have HFin:=Lh fun V blk e' (hV:Tk W V tb a0 e0 A0 a { K with g:=Gp.upd K.g E.num (Gp.take (K.g E.num)) } e' (E.page v blk) x)=>fin_of (f:=fun b=>Co.page K E b v) (c:=Co.no { K with g:=Gp.upd K.g E.num (Gp.take (K.g E.num)) } (E.page v blk) 0) blk (by show Co.page K E blk v=_;unfold Co.page;rw[if_neg hp,if_neg (by omega)]) hV
   generalize CallPost W tb a0 e0 A0 x (fun b=>Co.page K E b v)=PQ at*;clear h hA hp hq hm g1 hni ht hdr;go_enter func167,ntmps167;go_wp2_with fail;refine HA.out.mono ?_;rintro e w1 ⟨rfl,rfl⟩;go_wp2_with fail;refine HS.out.mono ?_;rintro e w1 ⟨rfl,rfl⟩;go_wp2_with fail;refine HP.out.mono ?_;rintro e w1 ⟨rfl,rfl⟩;go_wp2_with fail;refine wp_region_held (S:=fun w'=>w'.cell? ⟨tb,0,none⟩=some (.pointer (some ⟨a.kb,0,none⟩))∧w'.cell? ⟨tb,1,none⟩=some (.pointer (some ⟨e.eb,0,none⟩))∧w'.cell? ⟨a.kb,2,none⟩=some (.pointer (some ⟨a.c.cb,0,none⟩))∧w'.cell? ⟨a.kb,3,none⟩=some (.pointer (some ⟨a.nb,0,none⟩))∧w'.cell? ⟨a.kb,5,none⟩=some (.int .u32 K.now)) (by kernel_rfl) ?_;refine T 0 hD ?_;refine T 1 hD ?_;refine T 2 hD ?_;refine T 3 hD ?_;refine T 4 hD ?_;refine T 5 hD ?_;refine T 6 hD ?_;refine T 7 hD ?_;refine T 8 hD ?_;refine T 9 hD ?_;refine T 10 hD ?_;refine U 11 fun K hK=> ?_
   go_simp;go_at_call 165;refine(HN.out _ Br.drew).mono ?_;rintro e x1 ⟨rfl,rfl⟩;refine V hK hD ?_;clear hK K;refine U 12 fun K hK=> ?_
   go_simp;go_at_call 229;refine HT.out.mono ?_;rintro e x2 ⟨rfl,hc2,hm2⟩;have HK:=Lh (HTk.out _ ⟨hc2,hm2⟩);have h2:=HK.out.all;clear hc2 hm2;refine V hK h2 ?_;clear hK K;refine T 13 h2 ?_;refine wpAnyH_done (by kernel_rfl) ?_ _;clear c0 c1 c2 c3 c5 hD;obtain⟨c0,c1,c2,c3,c5⟩:=h2;have HPg:=Lh (Ev.page HK.out.s.j.en v v0 v1);go_wp2_with fail;refine HPg.out.mono ?_;rintro e w3 ⟨blk,lv,rfl,hs3⟩;have HK3:=Lh (HFin.out _ _ _ (HK.out.right hs3 (page_num _ _ _)));clear hs3;go_wp2;exact HK3.out
  ·have htb:(Gp.takeE (K.g E.num) != 0)=true:=bne_iff_ne.2 ht;have HSm:=Lh (take_sameG ht);have HFin:=Lh fun V (hV:Tk W V tb a0 e0 A0 a K e E x)=>fin_no hV (f:=fun b=>Co.page K E b v) 4 fun b=>by unfold Co.page;rw[if_neg hp,if_pos ht]
   generalize CallPost W tb a0 e0 A0 x (fun b=>Co.page K E b v)=PQ at*;clear h hA hp hq hm g1 hni ht hdr;go_enter func167,ntmps167;go_wp2_with fail;refine HA.out.mono ?_;rintro e w1 ⟨rfl,rfl⟩;go_wp2_with fail;refine HS.out.mono ?_;rintro e w1 ⟨rfl,rfl⟩;go_wp2_with fail;refine HP.out.mono ?_;rintro e w1 ⟨rfl,rfl⟩;go_wp2_with fail;refine wp_region_held (S:=fun w'=>w'.cell? ⟨tb,0,none⟩=some (.pointer (some ⟨a.kb,0,none⟩))∧w'.cell? ⟨tb,1,none⟩=some (.pointer (some ⟨e.eb,0,none⟩))∧w'.cell? ⟨a.kb,2,none⟩=some (.pointer (some ⟨a.c.cb,0,none⟩))∧w'.cell? ⟨a.kb,3,none⟩=some (.pointer (some ⟨a.nb,0,none⟩))∧w'.cell? ⟨a.kb,5,none⟩=some (.int .u32 K.now)) (by kernel_rfl) ?_;refine T 0 hD ?_;refine T 1 hD ?_;refine T 2 hD ?_;refine T 3 hD ?_;refine T 4 hD ?_;refine T 5 hD ?_;refine T 6 hD ?_;refine T 7 hD ?_;refine T 8 hD ?_;refine T 9 hD ?_;refine T 10 hD ?_;refine U 11 fun K hK=> ?_
   go_simp;go_at_call 165;refine(HN.out _ Br.drew).mono ?_;rintro e x1 ⟨rfl,rfl⟩;refine V hK hD ?_;clear hK K;refine U 12 fun K hK=> ?_
   go_simp;go_at_call 229;refine HT.out.mono ?_;rintro e x2 ⟨rfl,hc2,hm2⟩;have HK:=Lh (HTk.out _ ⟨hc2,hm2⟩);have h2:=HK.out.all;clear hc2 hm2;refine V hK h2 ?_;clear hK K;refine T 13 h2 ?_;refine wpAnyH_done (by kernel_rfl) ?_ _;have HK2:Hid (PQ (.returned (.tuple #[.int .u32 0,.int .u32 4])) x2):=Lh (HFin.out _ (by have:=HK.out;rw[HSm.out] at this;exact this));go_wp2;exact HK2.out
theorem drop(h:Tk W w tb a0 e0 A0 a K e E x):Calls Tryz.prog 168 #[.pointer (some ⟨tb,0,none⟩)] w (CallPost W tb a0 e0 A0 x fun _=>Co.drop K E (E.arg 1)):=by
 have hbd1:=arg_bd h.s.j.en 1;have HA1:=Lh fun V (hV:Below w.heap.size w V)=>Ev.arg (h.s.j.en.below hV) 1 (by omega) (by omega)
 generalize E.arg 1=v1 at*;obtain⟨v10,v11⟩:=hbd1;have HN:=Lh fun V (hV:Below w.heap.size w V)=>(Ev.num (h.below hV).s.j.en)
 have hdr:=h.below Br.drew;have hD:=hdr.all;obtain⟨c0,c1,c2,c3,c5⟩:=h.all;have HDr:=Lh (Ev.drop hdr.s.j.en v1 v10 v11);have HRt:=Lh fun V' lv (s:EStep w.drew V' e E { e with lv:=lv } (E.drop v1))=>hdr.right s (drop_num E v1)
 have HOk:=Lh h.s.j.en.ok
 by_cases h2:E.dropE v1=2
 ·have HSm:Hid (E.drop v1=E):=Lh (drop_same HOk.out (by omega));have HFin:=Lh fun V e' (hV:Tk W V tb a0 e0 A0 a K e' E x)=>fin_no hV (f:=fun _=>Co.drop K E v1) 2 fun b=>by unfold Co.drop;rw[if_pos h2]
  generalize CallPost W tb a0 e0 A0 x (fun _=>Co.drop K E v1)=PQ at*;rw[h2] at HDr;clear h hdr h2;go_enter func168,ntmps168;go_wp2_with fail;refine wp_region_held (S:=fun w'=>w'.cell? ⟨tb,0,none⟩=some (.pointer (some ⟨a.kb,0,none⟩))∧w'.cell? ⟨tb,1,none⟩=some (.pointer (some ⟨e.eb,0,none⟩))∧w'.cell? ⟨a.kb,2,none⟩=some (.pointer (some ⟨a.c.cb,0,none⟩))∧w'.cell? ⟨a.kb,3,none⟩=some (.pointer (some ⟨a.nb,0,none⟩))∧w'.cell? ⟨a.kb,5,none⟩=some (.int .u32 K.now)) (by kernel_rfl) ?_;refine T 0 hD ?_;refine T 1 hD ?_;refine T 2 hD ?_;refine T 3 hD ?_;refine T 4 hD ?_;refine T 5 hD ?_;refine T 6 hD ?_;refine T 7 hD ?_;refine U 8 fun K hK=> ?_
  go_simp;go_at_call 118;refine(HA1.out _ Br.drew).mono ?_;rintro e x1 ⟨rfl,rfl⟩;refine V hK hD ?_;clear hK K;refine U 9 fun K hK=> ?_
  go_simp;go_at_call 231;refine HDr.out.mono ?_;rintro e x2 ⟨lv,rfl,hs2⟩;have HK:=Lh (HRt.out _ _ hs2);have h2:=HK.out.all;clear hs2;refine V hK h2 ?_;clear hK K;refine wpAnyH_done (by kernel_rfl) ?_ _;have HK2:=Lh (HFin.out _ _ (by have:=HK.out;rw[HSm.out] at this;exact this));go_wp2;exact HK2.out
 ·by_cases h0:E.dropE v1=0
  ·have HFin:=Lh fun V e' (hV:Tk W V tb a0 e0 A0 a { K with g:=Gp.upd K.g E.num (Gp.give (K.g E.num)) } e' (E.drop v1) x)=>fin_of (f:=fun _=>Co.drop K E v1) (c:=Co.no { K with g:=Gp.upd K.g E.num (Gp.give (K.g E.num)) } (E.drop v1) 0) 0 (by show Co.drop K E v1=_;unfold Co.drop;rw[if_neg h2,if_pos h0]) hV
   generalize CallPost W tb a0 e0 A0 x (fun _=>Co.drop K E v1)=PQ at*;rw[h0] at HDr;clear h hdr h2 h0;go_enter func168,ntmps168;go_wp2_with fail;refine wp_region_held (S:=fun w'=>w'.cell? ⟨tb,0,none⟩=some (.pointer (some ⟨a.kb,0,none⟩))∧w'.cell? ⟨tb,1,none⟩=some (.pointer (some ⟨e.eb,0,none⟩))∧w'.cell? ⟨a.kb,2,none⟩=some (.pointer (some ⟨a.c.cb,0,none⟩))∧w'.cell? ⟨a.kb,3,none⟩=some (.pointer (some ⟨a.nb,0,none⟩))∧w'.cell? ⟨a.kb,5,none⟩=some (.int .u32 K.now)) (by kernel_rfl) ?_;refine T 0 hD ?_;refine T 1 hD ?_;refine T 2 hD ?_;refine T 3 hD ?_;refine T 4 hD ?_;refine T 5 hD ?_;refine T 6 hD ?_;refine T 7 hD ?_;refine U 8 fun K hK=> ?_
   go_simp;go_at_call 118;refine(HA1.out _ Br.drew).mono ?_;rintro e x1 ⟨rfl,rfl⟩;refine V hK hD ?_;clear hK K;refine U 9 fun K hK=> ?_
   go_simp;go_at_call 231;refine HDr.out.mono ?_;rintro e x2 ⟨lv,rfl,hs2⟩;have HK:=Lh (HRt.out _ _ hs2);have h2:=HK.out.all;clear hs2;refine V hK h2 ?_;clear hK K;refine wpAnyH_done (by kernel_rfl) ?_ _;have hdk:=HK.out.below Br.drew;have hni:=HK.out.i64;have HN2:=Lh (Ev.num hdk.s.j.en);rw[drop_num E v1] at hni HN2;have HG:=Lh (Ca.give hdk.s.j.kn.caps hni);have HGk:=Lh fun V' (g:Ca.giveP x2.drew a.c K.hp K.g E.num V')=>hdk.left (KStep.setCaps hdk.s.j.kn g.1 (Gp.upd_some (Gp.give_some _)) g.2)
   have hD2:=hdk.all;clear c0 c1 c2 c3 c5 hD hni hdk;obtain⟨c0,c1,c2,c3,c5⟩:=h2;go_wp2_with fail;refine wp_region_held (S:=fun w'=>w'.cell? ⟨tb,0,none⟩=some (.pointer (some ⟨a.kb,0,none⟩))∧w'.cell? ⟨tb,1,none⟩=some (.pointer (some ⟨e.eb,0,none⟩))∧w'.cell? ⟨a.kb,2,none⟩=some (.pointer (some ⟨a.c.cb,0,none⟩))∧w'.cell? ⟨a.kb,3,none⟩=some (.pointer (some ⟨a.nb,0,none⟩))∧w'.cell? ⟨a.kb,5,none⟩=some (.int .u32 K.now)) (by kernel_rfl) ?_;refine T 0 hD2 ?_;refine T 1 hD2 ?_;refine T 2 hD2 ?_;refine T 3 hD2 ?_;refine T 4 hD2 ?_;refine T 5 hD2 ?_;refine T 6 hD2 ?_;refine T 7 hD2 ?_;refine T 8 hD2 ?_;refine T 9 hD2 ?_;refine T 10 hD2 ?_;refine U 11 fun K hK=> ?_
   go_simp;go_at_call 165;refine HN2.out.mono ?_;rintro e x3 ⟨rfl,rfl⟩;refine V hK hD2 ?_;clear hK K;refine U 12 fun K hK=> ?_
   go_simp;go_at_call 232;refine HG.out.mono ?_;rintro e x4 ⟨rfl,hc4,hm4⟩;have HK3:=Lh (HGk.out _ ⟨hc4,hm4⟩);have h4:=HK3.out.all;clear hc4 hm4;refine V hK h4 ?_;clear hK K;refine wpAnyH_done (by kernel_rfl) ?_ _;have HK4:=Lh (HFin.out _ _ HK3.out);go_wp2;exact HK4.out
  ·have HSm:Hid (E.drop v1=E):=Lh (drop_same HOk.out h0);have g2:(E.dropE v1 == 2)=false:=beq_eq_false_iff_ne.2 h2;have g0:(E.dropE v1 == 0)=false:=beq_eq_false_iff_ne.2 h0;have HFin:=Lh fun V e' (hV:Tk W V tb a0 e0 A0 a K e' E x)=>fin_no hV (f:=fun _=>Co.drop K E v1) 3 fun b=>by unfold Co.drop;rw[if_neg h2,if_neg h0]
   generalize CallPost W tb a0 e0 A0 x (fun _=>Co.drop K E v1)=PQ at*;generalize E.dropE v1=q at*;clear h hdr h2 h0;go_enter func168,ntmps168;go_wp2_with fail;refine wp_region_held (S:=fun w'=>w'.cell? ⟨tb,0,none⟩=some (.pointer (some ⟨a.kb,0,none⟩))∧w'.cell? ⟨tb,1,none⟩=some (.pointer (some ⟨e.eb,0,none⟩))∧w'.cell? ⟨a.kb,2,none⟩=some (.pointer (some ⟨a.c.cb,0,none⟩))∧w'.cell? ⟨a.kb,3,none⟩=some (.pointer (some ⟨a.nb,0,none⟩))∧w'.cell? ⟨a.kb,5,none⟩=some (.int .u32 K.now)) (by kernel_rfl) ?_;refine T 0 hD ?_;refine T 1 hD ?_;refine T 2 hD ?_;refine T 3 hD ?_;refine T 4 hD ?_;refine T 5 hD ?_;refine T 6 hD ?_;refine T 7 hD ?_;refine U 8 fun K hK=> ?_
   go_simp;go_at_call 118;refine(HA1.out _ Br.drew).mono ?_;rintro e x1 ⟨rfl,rfl⟩;refine V hK hD ?_;clear hK K;refine U 9 fun K hK=> ?_
   go_simp;go_at_call 231;refine HDr.out.mono ?_;rintro e x2 ⟨lv,rfl,hs2⟩;have HK:=Lh (HRt.out _ _ hs2);have h2:=HK.out.all;clear hs2;refine V hK h2 ?_;clear hK K;refine wpAnyH_done (by kernel_rfl) ?_ _;have HK2:=Lh (HFin.out _ _ (by have:=HK.out;rw[HSm.out] at this;exact this));go_wp2;exact HK2.out
theorem read(h:Tk W w tb a0 e0 A0 a K e E x):Calls Tryz.prog 169 #[.pointer (some ⟨tb,0,none⟩)] w (CallPost W tb a0 e0 A0 x fun _=>Co.read K E (E.arg 1) (E.arg 2) (E.arg 3)):=by
 have hbd1:=arg_bd h.s.j.en 1;have HA1:=Lh fun V (hV:Below w.heap.size w V)=>Ev.arg (h.s.j.en.below hV) 1 (by omega) (by omega)
 generalize E.arg 1=v1 at*;obtain⟨v10,v11⟩:=hbd1;have hbd2:=arg_bd h.s.j.en 2;have HA2:=Lh fun V (hV:Below w.heap.size w V)=>Ev.arg (h.s.j.en.below hV) 2 (by omega) (by omega)
 generalize E.arg 2=v2 at*;obtain⟨v20,v21⟩:=hbd2;have hbd3:=arg_bd h.s.j.en 3;have HA3:=Lh fun V (hV:Below w.heap.size w V)=>Ev.arg (h.s.j.en.below hV) 3 (by omega) (by omega)
 generalize E.arg 3=v3 at*;obtain⟨v30,v31⟩:=hbd3;have HN:=Lh fun V (hV:Below w.heap.size w V)=>(Ev.num (h.below hV).s.j.en)
 have hdr:=h.below Br.drew;have hD:=hdr.all;obtain⟨c0,c1,c2,c3,c5⟩:=h.all;have HBl:=Lh (Ca.block hdr.s.j.kn.caps h.i64 v1 v2);have HT:=Lh fun V (hV:Below w.heap.size w V)=>h.below hV
 cases hq:Gp.hasBlock (K.g E.num) v1 v2 with
 |false=>
  have HFin:=Lh fun V (hV:Tk W V tb a0 e0 A0 a K e E x)=>fin_no hV (f:=fun _=>Co.read K E v1 v2 v3) 1 fun b=>by unfold Co.read;rw[if_pos hq]
  generalize CallPost W tb a0 e0 A0 x (fun _=>Co.read K E v1 v2 v3)=PQ at*;rw[hq] at HBl;clear h hdr hq;go_enter func169,ntmps169;go_wp2_with fail;refine wp_region_held (S:=fun w'=>w'.cell? ⟨tb,0,none⟩=some (.pointer (some ⟨a.kb,0,none⟩))∧w'.cell? ⟨tb,1,none⟩=some (.pointer (some ⟨e.eb,0,none⟩))∧w'.cell? ⟨a.kb,2,none⟩=some (.pointer (some ⟨a.c.cb,0,none⟩))∧w'.cell? ⟨a.kb,3,none⟩=some (.pointer (some ⟨a.nb,0,none⟩))∧w'.cell? ⟨a.kb,5,none⟩=some (.int .u32 K.now)) (by kernel_rfl) ?_;refine T 0 hD ?_;refine T 1 hD ?_;refine T 2 hD ?_;refine T 3 hD ?_;refine T 4 hD ?_;refine T 5 hD ?_;refine T 6 hD ?_;refine T 7 hD ?_;refine T 8 hD ?_;refine T 9 hD ?_;refine T 10 hD ?_;refine T 12 hD ?_;refine T 13 hD ?_;refine T 14 hD ?_;refine T 15 hD ?_;refine T 17 hD ?_;refine T 18 hD ?_;refine T 19 hD ?_;refine T 20 hD ?_;refine U 11 fun K hK=> ?_
  go_simp;go_at_call 165;refine(HN.out _ Br.drew).mono ?_;rintro e x1 ⟨rfl,rfl⟩;refine V hK hD ?_;clear hK K;refine U 16 fun K hK=> ?_
  go_simp;go_at_call 118;refine(HA1.out _ Br.drew).mono ?_;rintro e x1 ⟨rfl,rfl⟩;refine V hK hD ?_;clear hK K;refine U 21 fun K hK=> ?_
  go_simp;go_at_call 118;refine(HA2.out _ Br.drew).mono ?_;rintro e x1 ⟨rfl,rfl⟩;refine V hK hD ?_;clear hK K;refine U 22 fun K hK=> ?_
  go_simp;go_at_call 233;refine HBl.out.mono ?_;rintro e x2 ⟨rfl,hb2⟩;have HB2:Hid (Below w.heap.size w x2):=Lh (Br.drew.trans hb2);have h2:=(HT.out _ HB2.out).all;clear hb2;refine V hK h2 ?_;clear hK K;refine T 23 h2 ?_;refine wpAnyH_done (by kernel_rfl) ?_ _;have HK2:=Lh (HFin.out _ (HT.out _ HB2.out));go_wp2;exact HK2.out
 |true=>
  have hsz:(blkS (Kn.block K.B v1 v2)).size≤64:=by
   cases hb:Kn.block K.B v1 v2 with
   |none=>exact Nat.zero_le _
   |some s=>
    obtain⟨i,j,l,_,_,h1,h2⟩:=Kn.block_some hb;exact Nat.le_of_eq (h.s.j.kn.ok.bs i l h1 s (List.mem_of_getElem? h2))
  have HFin1:=Lh fun V (hV:Tk W V tb a0 e0 A0 a K e E x) (hy:Sp.fitsE E.A v3 (blkS (Kn.block K.B v1 v2)).size 2≠0)=>fin_no hV (f:=fun _=>Co.read K E v1 v2 v3) 2 fun b=>by unfold Co.read;rw[hq,if_neg (by decide)];exact if_pos hy
  have HFin2:=Lh fun V (hV:Tk W V tb a0 e0 A0 a K e { E with A:=Sp.putA E.A v3 2 (blkS (Kn.block K.B v1 v2)) } x) (hy:Sp.fitsE E.A v3 (blkS (Kn.block K.B v1 v2)).size 2=0)=>fin_of (f:=fun _=>Co.read K E v1 v2 v3) (c:=Co.no K { E with A:=Sp.putA E.A v3 2 (blkS (Kn.block K.B v1 v2)) } 0) 0 (by show Co.read K E v1 v2 v3=_;unfold Co.read;rw[hq,if_neg (by decide)];exact if_neg (fun z=>z hy)) hV
  have HKb:=Lh fun V (hV:Below w.heap.size w V)=>block (h.below hV).s.j.kn v1 v2 v10 v11 v20 v21
  generalize CallPost W tb a0 e0 A0 x (fun _=>Co.read K E v1 v2 v3)=PQ at*;generalize blkE (Kn.block K.B v1 v2)=be at*;generalize blkS (Kn.block K.B v1 v2)=s at*;rw[hq] at HBl;have HSp:=Lh fun V (hV:Below w.heap.size w V)=>Ev.space (h.below hV).s.j.en
  have HWr:=Lh fun V (hV:Below w.heap.size w V)=>Sp.s_write (h.below hV).s.j.en.sp v3 s v30 v31 (by omega)
  have HWs:=Lh fun V (hV:Below w.heap.size w V) V' (g:SStep V V' e.sb e.mb E.A (Sp.putA E.A v3 2 s))=>(h.below hV).right (EStep.space (h.below hV).s.j.en g (putA_own (h.below hV).s.j.en.ok v3 2 s)) rfl
  clear h hdr hq hsz;go_enter func169,ntmps169;go_wp2_with fail;refine wp_region_held (S:=fun w'=>w'.cell? ⟨tb,0,none⟩=some (.pointer (some ⟨a.kb,0,none⟩))∧w'.cell? ⟨tb,1,none⟩=some (.pointer (some ⟨e.eb,0,none⟩))∧w'.cell? ⟨a.kb,2,none⟩=some (.pointer (some ⟨a.c.cb,0,none⟩))∧w'.cell? ⟨a.kb,3,none⟩=some (.pointer (some ⟨a.nb,0,none⟩))∧w'.cell? ⟨a.kb,5,none⟩=some (.int .u32 K.now)) (by kernel_rfl) ?_;refine T 0 hD ?_;refine T 1 hD ?_;refine T 2 hD ?_;refine T 3 hD ?_;refine T 4 hD ?_;refine T 5 hD ?_;refine T 6 hD ?_;refine T 7 hD ?_;refine T 8 hD ?_;refine T 9 hD ?_;refine T 10 hD ?_;refine T 12 hD ?_;refine T 13 hD ?_;refine T 14 hD ?_;refine T 15 hD ?_;refine T 17 hD ?_;refine T 18 hD ?_;refine T 19 hD ?_;refine T 20 hD ?_;refine U 11 fun K hK=> ?_
  go_simp;go_at_call 165;refine(HN.out _ Br.drew).mono ?_;rintro e x1 ⟨rfl,rfl⟩;refine V hK hD ?_;clear hK K;refine U 16 fun K hK=> ?_
  go_simp;go_at_call 118;refine(HA1.out _ Br.drew).mono ?_;rintro e x1 ⟨rfl,rfl⟩;refine V hK hD ?_;clear hK K;refine U 21 fun K hK=> ?_
  go_simp;go_at_call 118;refine(HA2.out _ Br.drew).mono ?_;rintro e x1 ⟨rfl,rfl⟩;refine V hK hD ?_;clear hK K;refine U 22 fun K hK=> ?_
  go_simp;go_at_call 233;refine HBl.out.mono ?_;rintro e x2 ⟨rfl,hb2⟩;have HB2:Hid (Below w.heap.size w x2):=Lh (Br.drew.trans hb2);have h2:=(HT.out _ HB2.out).all;clear hb2;refine V hK h2 ?_;clear hK K;refine T 23 h2 ?_;refine wpAnyH_done (by kernel_rfl) ?_ _;clear c0 c1 c2 c3 c5 hD;obtain⟨c0,c1,c2,c3,c5⟩:=h2;have HBd:=Lh HB2.out.drew;have hD:=(HT.out _ HBd.out).all;go_wp2_with fail;refine wp_region_held (S:=fun w'=>w'.cell? ⟨tb,0,none⟩=some (.pointer (some ⟨a.kb,0,none⟩))∧w'.cell? ⟨tb,1,none⟩=some (.pointer (some ⟨e.eb,0,none⟩))∧w'.cell? ⟨a.kb,2,none⟩=some (.pointer (some ⟨a.c.cb,0,none⟩))∧w'.cell? ⟨a.kb,3,none⟩=some (.pointer (some ⟨a.nb,0,none⟩))∧w'.cell? ⟨a.kb,5,none⟩=some (.int .u32 K.now)) (by kernel_rfl) ?_;refine T 0 hD ?_;refine T 1 hD ?_;refine T 2 hD ?_;refine T 3 hD ?_;refine T 4 hD ?_;refine T 5 hD ?_;refine T 6 hD ?_;refine T 7 hD ?_;refine T 9 hD ?_;refine T 10 hD ?_;refine T 11 hD ?_;refine T 12 hD ?_;refine U 8 fun K hK=> ?_
  go_simp;go_at_call 118;refine(HA1.out _ HBd.out).mono ?_;rintro e x1 ⟨rfl,rfl⟩;refine V hK hD ?_;clear hK K;refine U 13 fun K hK=> ?_
  go_simp;go_at_call 118;refine(HA2.out _ HBd.out).mono ?_;rintro e x1 ⟨rfl,rfl⟩;refine V hK hD ?_;clear hK K;refine U 14 fun K hK=> ?_
  go_simp;go_at_call 234;refine(HKb.out _ HBd.out).mono ?_;rintro e x3 ⟨rfl,rfl⟩;refine V hK hD ?_;clear hK K;refine T 15 hD ?_;refine T 16 hD ?_;refine T 17 hD ?_;refine T 18 hD ?_;refine T 19 hD ?_;refine wpAnyH_done (by kernel_rfl) ?_ _;clear c0 c1 c2 c3 c5 hD;obtain⟨c0,c1,c2,c3,c5⟩:=(HT.out _ HBd.out).all;have HBe:=Lh HBd.out.drew;have hD:=(HT.out _ HBe.out).all
  by_cases hf:Sp.fitsE E.A v3 s.size 2=0
  ·have hfb:(Sp.fitsE E.A v3 s.size 2 != 0)=false:=by rw[hf];rfl
   have HF2:=Lh fun V hV=>HFin2.out V hV hf
   have HSm:=Lh hf;clear hf;go_wp2_with fail;refine wp_region_held (S:=fun w'=>w'.cell? ⟨tb,0,none⟩=some (.pointer (some ⟨a.kb,0,none⟩))∧w'.cell? ⟨tb,1,none⟩=some (.pointer (some ⟨e.eb,0,none⟩))∧w'.cell? ⟨a.kb,2,none⟩=some (.pointer (some ⟨a.c.cb,0,none⟩))∧w'.cell? ⟨a.kb,3,none⟩=some (.pointer (some ⟨a.nb,0,none⟩))∧w'.cell? ⟨a.kb,5,none⟩=some (.int .u32 K.now)) (by kernel_rfl) ?_;refine T 0 hD ?_;refine T 1 hD ?_;refine T 2 hD ?_;refine T 3 hD ?_;refine T 5 hD ?_;refine T 6 hD ?_;refine T 7 hD ?_;refine T 8 hD ?_;refine T 10 hD ?_;refine U 4 fun K hK=> ?_
   go_simp;go_at_call 56;refine(HSp.out _ HBe.out).mono ?_;rintro e x4 ⟨rfl,rfl⟩;refine V hK hD ?_;clear hK K;refine U 9 fun K hK=> ?_
   go_simp;go_at_call 118;refine(HA3.out _ HBe.out).mono ?_;rintro e x1 ⟨rfl,rfl⟩;refine V hK hD ?_;clear hK K;refine U 11 fun K hK=> ?_
   go_simp;go_at_call 235;refine(HWr.out _ HBe.out).mono ?_;rintro e x5 ⟨rfl,hs5⟩;have HK5:=Lh (HWs.out _ HBe.out _ hs5);have h5:=HK5.out.all;clear hs5;refine V hK h5 ?_;clear hK K;refine T 12 h5 ?_;refine wpAnyH_done (by kernel_rfl) ?_ _;have HK6:=Lh (HF2.out _ HK5.out);go_wp2;exact HK6.out
  ·have hfb:(Sp.fitsE E.A v3 s.size 2 != 0)=true:=bne_iff_ne.2 hf;have HF1:=Lh fun V hV=>HFin1.out V hV hf
   have HSm:=Lh (putA_same (need:=2) hf);clear hf;go_wp2_with fail;refine wp_region_held (S:=fun w'=>w'.cell? ⟨tb,0,none⟩=some (.pointer (some ⟨a.kb,0,none⟩))∧w'.cell? ⟨tb,1,none⟩=some (.pointer (some ⟨e.eb,0,none⟩))∧w'.cell? ⟨a.kb,2,none⟩=some (.pointer (some ⟨a.c.cb,0,none⟩))∧w'.cell? ⟨a.kb,3,none⟩=some (.pointer (some ⟨a.nb,0,none⟩))∧w'.cell? ⟨a.kb,5,none⟩=some (.int .u32 K.now)) (by kernel_rfl) ?_;refine T 0 hD ?_;refine T 1 hD ?_;refine T 2 hD ?_;refine T 3 hD ?_;refine T 5 hD ?_;refine T 6 hD ?_;refine T 7 hD ?_;refine T 8 hD ?_;refine T 10 hD ?_;refine U 4 fun K hK=> ?_
   go_simp;go_at_call 56;refine(HSp.out _ HBe.out).mono ?_;rintro e x4 ⟨rfl,rfl⟩;refine V hK hD ?_;clear hK K;refine U 9 fun K hK=> ?_
   go_simp;go_at_call 118;refine(HA3.out _ HBe.out).mono ?_;rintro e x1 ⟨rfl,rfl⟩;refine V hK hD ?_;clear hK K;refine U 11 fun K hK=> ?_
   go_simp;go_at_call 235;refine(HWr.out _ HBe.out).mono ?_;rintro e x5 ⟨rfl,hs5⟩;have HK5:=Lh (HWs.out _ HBe.out _ hs5);have h5:=HK5.out.all;clear hs5;refine V hK h5 ?_;clear hK K;refine T 12 h5 ?_;refine wpAnyH_done (by kernel_rfl) ?_ _;have HK6:=Lh (HF1.out _ (by have:=HK5.out;rw[HSm.out] at this;exact this));go_wp2;exact HK6.out
theorem write(h:Tk W w tb a0 e0 A0 a K e E x):Calls Tryz.prog 170 #[.pointer (some ⟨tb,0,none⟩)] w (CallPost W tb a0 e0 A0 x fun _=>Co.write K E (E.arg 1) (E.arg 2) (E.arg 3)):=by
 have hbd1:=arg_bd h.s.j.en 1;have HA1:=Lh fun V (hV:Below w.heap.size w V)=>Ev.arg (h.s.j.en.below hV) 1 (by omega) (by omega)
 generalize E.arg 1=v1 at*;obtain⟨v10,v11⟩:=hbd1;have hbd2:=arg_bd h.s.j.en 2;have HA2:=Lh fun V (hV:Below w.heap.size w V)=>Ev.arg (h.s.j.en.below hV) 2 (by omega) (by omega)
 generalize E.arg 2=v2 at*;obtain⟨v20,v21⟩:=hbd2;have hbd3:=arg_bd h.s.j.en 3;have HA3:=Lh fun V (hV:Below w.heap.size w V)=>Ev.arg (h.s.j.en.below hV) 3 (by omega) (by omega)
 generalize E.arg 3=v3 at*;obtain⟨v30,v31⟩:=hbd3;have HN:=Lh fun V (hV:Below w.heap.size w V)=>(Ev.num (h.below hV).s.j.en)
 have hdr:=h.below Br.drew;have hD:=hdr.all;obtain⟨c0,c1,c2,c3,c5⟩:=h.all;have HBl:=Lh (Ca.block hdr.s.j.kn.caps h.i64 v1 v2);have HT:=Lh fun V (hV:Below w.heap.size w V)=>h.below hV
 cases hq:Gp.hasBlock (K.g E.num) v1 v2 with
 |false=>
  have HFin:=Lh fun V (hV:Tk W V tb a0 e0 A0 a K e E x)=>fin_no hV (f:=fun _=>Co.write K E v1 v2 v3) 1 fun b=>by unfold Co.write;rw[if_pos hq]
  generalize CallPost W tb a0 e0 A0 x (fun _=>Co.write K E v1 v2 v3)=PQ at*;rw[hq] at HBl;clear h hdr hq;go_enter func170,ntmps170;go_wp2_with fail;refine wp_region_held (S:=fun w'=>w'.cell? ⟨tb,0,none⟩=some (.pointer (some ⟨a.kb,0,none⟩))∧w'.cell? ⟨tb,1,none⟩=some (.pointer (some ⟨e.eb,0,none⟩))∧w'.cell? ⟨a.kb,2,none⟩=some (.pointer (some ⟨a.c.cb,0,none⟩))∧w'.cell? ⟨a.kb,3,none⟩=some (.pointer (some ⟨a.nb,0,none⟩))∧w'.cell? ⟨a.kb,5,none⟩=some (.int .u32 K.now)) (by kernel_rfl) ?_;refine T 0 hD ?_;refine T 1 hD ?_;refine T 2 hD ?_;refine T 3 hD ?_;refine T 4 hD ?_;refine T 5 hD ?_;refine T 6 hD ?_;refine T 7 hD ?_;refine T 8 hD ?_;refine T 9 hD ?_;refine T 10 hD ?_;refine T 12 hD ?_;refine T 13 hD ?_;refine T 14 hD ?_;refine T 15 hD ?_;refine T 17 hD ?_;refine T 18 hD ?_;refine T 19 hD ?_;refine T 20 hD ?_;refine U 11 fun K hK=> ?_
  go_simp;go_at_call 165;refine(HN.out _ Br.drew).mono ?_;rintro e x1 ⟨rfl,rfl⟩;refine V hK hD ?_;clear hK K;refine U 16 fun K hK=> ?_
  go_simp;go_at_call 118;refine(HA1.out _ Br.drew).mono ?_;rintro e x1 ⟨rfl,rfl⟩;refine V hK hD ?_;clear hK K;refine U 21 fun K hK=> ?_
  go_simp;go_at_call 118;refine(HA2.out _ Br.drew).mono ?_;rintro e x1 ⟨rfl,rfl⟩;refine V hK hD ?_;clear hK K;refine U 22 fun K hK=> ?_
  go_simp;go_at_call 233;refine HBl.out.mono ?_;rintro e x2 ⟨rfl,hb2⟩;have HB2:Hid (Below w.heap.size w x2):=Lh (Br.drew.trans hb2);have h2:=(HT.out _ HB2.out).all;clear hb2;refine V hK h2 ?_;clear hK K;refine T 23 h2 ?_;refine wpAnyH_done (by kernel_rfl) ?_ _;have HK2:=Lh (HFin.out _ (HT.out _ HB2.out));go_wp2;exact HK2.out
 |true=>
  have HFin1:=Lh fun V (hV:Tk W V tb a0 e0 A0 a K e E x) (hy:Sp.getE E.A v3 64 1≠0)=>fin_no hV (f:=fun _=>Co.write K E v1 v2 v3) 2 fun b=>by unfold Co.write Kn.bytes;rw[hq,if_neg (by decide),if_neg hy]
  have HFin2:=Lh fun V (hV:Tk W V tb a0 e0 A0 a (K.setBlock v1 v2 (Sp.getS E.A v3 64 1)) e E x) (hy:Sp.getE E.A v3 64 1=0)=>fin_of (f:=fun _=>Co.write K E v1 v2 v3) (c:=Co.no (K.setBlock v1 v2 (Sp.getS E.A v3 64 1)) E 0) 0 (by show Co.write K E v1 v2 v3=_;unfold Co.write Kn.bytes;rw[hq,if_neg (by decide),if_pos hy]) hV
  generalize CallPost W tb a0 e0 A0 x (fun _=>Co.write K E v1 v2 v3)=PQ at*;rw[hq] at HBl;have HBy:=Lh fun V (hV:Below w.heap.size w V)=>bytes (h.below hV) v3 64 v30 v31 (by omega) (by omega)
  clear h hdr hq;go_enter func170,ntmps170;go_wp2_with fail;refine wp_region_held (S:=fun w'=>w'.cell? ⟨tb,0,none⟩=some (.pointer (some ⟨a.kb,0,none⟩))∧w'.cell? ⟨tb,1,none⟩=some (.pointer (some ⟨e.eb,0,none⟩))∧w'.cell? ⟨a.kb,2,none⟩=some (.pointer (some ⟨a.c.cb,0,none⟩))∧w'.cell? ⟨a.kb,3,none⟩=some (.pointer (some ⟨a.nb,0,none⟩))∧w'.cell? ⟨a.kb,5,none⟩=some (.int .u32 K.now)) (by kernel_rfl) ?_;refine T 0 hD ?_;refine T 1 hD ?_;refine T 2 hD ?_;refine T 3 hD ?_;refine T 4 hD ?_;refine T 5 hD ?_;refine T 6 hD ?_;refine T 7 hD ?_;refine T 8 hD ?_;refine T 9 hD ?_;refine T 10 hD ?_;refine T 12 hD ?_;refine T 13 hD ?_;refine T 14 hD ?_;refine T 15 hD ?_;refine T 17 hD ?_;refine T 18 hD ?_;refine T 19 hD ?_;refine T 20 hD ?_;refine U 11 fun K hK=> ?_
  go_simp;go_at_call 165;refine(HN.out _ Br.drew).mono ?_;rintro e x1 ⟨rfl,rfl⟩;refine V hK hD ?_;clear hK K;refine U 16 fun K hK=> ?_
  go_simp;go_at_call 118;refine(HA1.out _ Br.drew).mono ?_;rintro e x1 ⟨rfl,rfl⟩;refine V hK hD ?_;clear hK K;refine U 21 fun K hK=> ?_
  go_simp;go_at_call 118;refine(HA2.out _ Br.drew).mono ?_;rintro e x1 ⟨rfl,rfl⟩;refine V hK hD ?_;clear hK K;refine U 22 fun K hK=> ?_
  go_simp;go_at_call 233;refine HBl.out.mono ?_;rintro e x2 ⟨rfl,hb2⟩;have HB2:Hid (Below w.heap.size w x2):=Lh (Br.drew.trans hb2);have h2:=(HT.out _ HB2.out).all;clear hb2;refine V hK h2 ?_;clear hK K;refine T 23 h2 ?_;refine wpAnyH_done (by kernel_rfl) ?_ _;clear c0 c1 c2 c3 c5 hD;obtain⟨c0,c1,c2,c3,c5⟩:=h2;go_wp2_with fail;refine(HA3.out _ HB2.out).mono ?_;rintro e w3 ⟨rfl,rfl⟩;go_wp2_with fail;refine(HBy.out _ HB2.out).mono ?_;rintro e w4 ⟨rfl,hb4⟩;have HB4:=Lh (bQ HB2.out hb4);clear hb4 c0 c1 c2 c3 c5;obtain⟨c0,c1,c2,c3,c5⟩:=(HT.out _ HB4.out).all
  by_cases hf:Sp.getE E.A v3 64 1=0
  ·have hfb:(Sp.getE E.A v3 64 1 == 0)=true:=by rw[hf];rfl
   have HF2:=Lh fun V hV=>HFin2.out V hV hf
   have hsz:(Sp.getS E.A v3 64 1).size=64:=getS_size (by omega) hf;have hd4:=(HT.out _ HB4.out).below Br.drew;have hD:=hd4.all;have HBd:=Lh HB4.out.drew;have HSt:=Lh (setBlock hd4.s.j.kn v1 v2 (Sp.getS E.A v3 64 1) v10 v11 v20 v21 (by omega));have HSk:=Lh fun V' (g:KStep w4.drew V' a K a (K.setBlock v1 v2 (Sp.getS E.A v3 64 1)))=>hd4.left g
   have HSc:=Lh (setBlock_now K v1 v2 (Sp.getS E.A v3 64 1));generalize Sp.getS E.A v3 64 1=s at*;generalize Sp.getE E.A v3 64 1=ge at*;clear hf hsz hd4 HFin1 HFin2 HBy;go_wp2_with fail;refine wp_region_held (S:=fun w'=>w'.cell? ⟨tb,0,none⟩=some (.pointer (some ⟨a.kb,0,none⟩))∧w'.cell? ⟨tb,1,none⟩=some (.pointer (some ⟨e.eb,0,none⟩))∧w'.cell? ⟨a.kb,2,none⟩=some (.pointer (some ⟨a.c.cb,0,none⟩))∧w'.cell? ⟨a.kb,3,none⟩=some (.pointer (some ⟨a.nb,0,none⟩))∧w'.cell? ⟨a.kb,5,none⟩=some (.int .u32 K.now)) (by kernel_rfl) ?_;refine T 0 hD ?_;refine T 1 hD ?_;refine T 2 hD ?_;refine T 3 hD ?_;refine T 4 hD ?_;refine T 5 hD ?_;refine T 6 hD ?_;refine T 7 hD ?_;refine T 9 hD ?_;refine T 10 hD ?_;refine T 11 hD ?_;refine T 12 hD ?_;refine T 14 hD ?_;refine U 8 fun K hK=> ?_
   go_simp;go_at_call 118;refine(HA1.out _ HBd.out).mono ?_;rintro e x1 ⟨rfl,rfl⟩;refine V hK hD ?_;clear hK K;refine U 13 fun K hK=> ?_
   go_simp;go_at_call 118;refine(HA2.out _ HBd.out).mono ?_;rintro e x1 ⟨rfl,rfl⟩;refine V hK hD ?_;clear hK K;refine U 15 fun K hK=> ?_
   go_simp;go_at_call 157;refine HSt.out.mono ?_;rintro e x5 ⟨rfl,hs5⟩;have HK5:=Lh (HSk.out _ hs5);have h5:=HK5.out.all;rw[HSc.out] at h5;clear hs5;refine V hK h5 ?_;clear hK K;refine wpAnyH_done (by kernel_rfl) ?_ _;have HK6:=Lh (HF2.out _ HK5.out);go_wp2;exact HK6.out
  ·have hfb:(Sp.getE E.A v3 64 1 == 0)=false:=beq_eq_false_iff_ne.2 hf;have HK6:=Lh (HFin1.out _ (HT.out _ HB4.out) hf);generalize Sp.getS E.A v3 64 1=s at*;generalize Sp.getE E.A v3 64 1=ge at*;clear hf;go_wp2;exact HK6.out
theorem send(h:Tk W w tb a0 e0 A0 a K e E x)(hs:K.N.sent.length<4398046511104):Calls Tryz.prog 171 #[.pointer (some ⟨tb,0,none⟩)] w (CallPost W tb a0 e0 A0 x fun _=>Co.send K E (E.arg 1) (E.arg 2)):=by
 have hbd1:=arg_bd h.s.j.en 1;have HA1:=Lh fun V (hV:Below w.heap.size w V)=>Ev.arg (h.s.j.en.below hV) 1 (by omega) (by omega)
 generalize E.arg 1=v1 at*;obtain⟨v10,v11⟩:=hbd1;have hbd2:=arg_bd h.s.j.en 2;have HA2:=Lh fun V (hV:Below w.heap.size w V)=>Ev.arg (h.s.j.en.below hV) 2 (by omega) (by omega)
 generalize E.arg 2=v2 at*;obtain⟨v20,v21⟩:=hbd2;obtain⟨c0,c1,c2,c3,c5⟩:=h.all;have HT:=Lh fun V (hV:Below w.heap.size w V)=>h.below hV
 have HHs:=Lh hs;clear hs
 by_cases q1:128<v2
 ·have HFin:=Lh (fin_no h (f:=fun _=>Co.send K E v1 v2) 5 fun b=>by unfold Co.send;rw[if_pos q1]);generalize CallPost W tb a0 e0 A0 x (fun _=>Co.send K E v1 v2)=PQ at*;clear h;go_enter func171,ntmps171;go_wp2_with fail;refine(HA2.out _ Br).mono ?_;rintro e w1 ⟨rfl,rfl⟩;go_wp2;exact HFin.out
 by_cases q2:v2=0
 ·have HFin:=Lh (fin_no h (f:=fun _=>Co.send K E v1 v2) 2 fun b=>by unfold Co.send;rw[if_neg q1,if_pos q2]);generalize CallPost W tb a0 e0 A0 x (fun _=>Co.send K E v1 v2)=PQ at*;have q2b:(v2 == 0)=true:=by rw[q2];rfl
  clear h q2;go_enter func171,ntmps171;go_wp2_with fail;refine(HA2.out _ Br).mono ?_;rintro e w1 ⟨rfl,rfl⟩;go_wp2;exact HFin.out
 have q2b:(v2 == 0)=false:=beq_eq_false_iff_ne.2 q2;have HBy:=Lh (bytes h v1 v2 v10 v11 v20 v21)
 by_cases hf:Sp.getE E.A v1 v2 1=0
 ·have hfb:(Sp.getE E.A v1 v2 1 == 0)=true:=by rw[hf];rfl
  have hsz:(Sp.getS E.A v1 v2 1).size=v2.toNat:=getS_size (by omega) hf;have hsz2:(Sp.getS E.A v1 v2 1).size≤128:=by omega
  have hby:Kn.bytes E v1 v2=some (Sp.getS E.A v1 v2 1):=by unfold Kn.bytes;rw[if_pos hf]
  have HFin1:=Lh fun V (hV:Tk W V tb a0 e0 A0 a K e E x) (hy:Ni.portB (Sp.getS E.A v1 v2 1)=false∨Gp.hasPort (K.g E.num) (Ni.portV (Sp.getS E.A v1 v2 1) 20)=false)=>fin_no hV (f:=fun _=>Co.send K E v1 v2) 1 fun b=>by unfold Co.send;rw[if_neg q1,if_neg q2,hby];exact if_pos hy
  have HFin2:=Lh fun V a' (hV:Tk W V tb a0 e0 A0 a' { K with N:=Ni.sendS K.N (Sp.getS E.A v1 v2 1) } e E ⟨2,E.num,Sp.getS E.A v1 v2 1,0,true⟩) (hy:¬(Ni.portB (Sp.getS E.A v1 v2 1)=false∨Gp.hasPort (K.g E.num) (Ni.portV (Sp.getS E.A v1 v2 1) 20)=false))=>fin_of (f:=fun _=>Co.send K E v1 v2) (c:=⟨v2,0, { K with N:=Ni.sendS K.N (Sp.getS E.A v1 v2 1) },E,2,Sp.getS E.A v1 v2 1⟩) (x:=x) (e':=e) 0 (by show Co.send K E v1 v2=_;unfold Co.send;rw[if_neg q1,if_neg q2,hby];exact if_neg hy) hV
  generalize CallPost W tb a0 e0 A0 x (fun _=>Co.send K E v1 v2)=PQ at*;have HPv:=Lh (Ni.portV_bd (Sp.getS E.A v1 v2 1) 20 (by omega));generalize Sp.getS E.A v1 v2 1=s at*;generalize Sp.getE E.A v1 v2 1=ge at*;have HFr:=Lh fun V=>Ni.from' s (by omega) V
  clear hf hsz hby q2;cases hp:Ni.portB s with
  |false=>
   rw[hp] at HFr;have HK:=Lh fun V (hV:Below w.heap.size w V)=>HFin1.out V (HT.out V hV) (.inl hp)
   clear h hp;go_enter func171,ntmps171;go_wp2_with fail;refine(HA2.out _ Br).mono ?_;rintro e w1 ⟨rfl,rfl⟩;go_wp2_with fail;refine(HA1.out _ Br).mono ?_;rintro e w3 ⟨rfl,rfl⟩;go_wp2_with fail;refine HBy.out.mono ?_;rintro e w4 ⟨rfl,hb4⟩;have HB4:=Lh hb4;clear hb4;go_wp2_with fail;refine(HFr.out _).mono ?_;rintro e w5 ⟨rfl,hb5⟩;have HB5:=Lh (bQ HB4.out hb5);clear hb5 c0 c1 c2 c3 c5;obtain⟨c0,c1,c2,c3,c5⟩:=(HT.out _ HB5.out).all;have hD6:=(HT.out _ HB5.out.drew).all;go_wp2_with fail;refine wp_region_held (S:=fun w'=>w'.cell? ⟨tb,0,none⟩=some (.pointer (some ⟨a.kb,0,none⟩))∧w'.cell? ⟨tb,1,none⟩=some (.pointer (some ⟨e.eb,0,none⟩))∧w'.cell? ⟨a.kb,2,none⟩=some (.pointer (some ⟨a.c.cb,0,none⟩))∧w'.cell? ⟨a.kb,3,none⟩=some (.pointer (some ⟨a.nb,0,none⟩))∧w'.cell? ⟨a.kb,5,none⟩=some (.int .u32 K.now)) (by kernel_rfl) ?_;refine T 0 hD6 ?_;refine T 1 hD6 ?_;refine T 2 hD6 ?_;refine H_take (i:=3) (v:=undef) rfl (by kernel_rfl) (by kernel_rfl) (by kernel_rfl) (fun _ _ _ h=>h) (Or.inr ⟨by rfl,rfl⟩) hD6 ?_;try simp only[Act.put,Za,Zb,Zc,Zd,Ze,Zf]
   refine H_take (i:=4) (v:=undef) rfl (by kernel_rfl) (by kernel_rfl) (by kernel_rfl) (fun _ _ _ h=>h) (Or.inr ⟨by rfl,rfl⟩) hD6 ?_;try simp only[Act.put,Za,Zb,Zc,Zd,Ze,Zf]
   refine H_take (i:=5) (v:=undef) rfl (by kernel_rfl) (by kernel_rfl) (by kernel_rfl) (fun _ _ _ h=>h) (Or.inr ⟨by rfl,rfl⟩) hD6 ?_;try simp only[Act.put,Za,Zb,Zc,Zd,Ze,Zf]
   refine H_take (i:=6) (v:=undef) rfl (by kernel_rfl) (by kernel_rfl) (by kernel_rfl) (fun _ _ _ h=>h) (Or.inr ⟨by rfl,rfl⟩) hD6 ?_;try simp only[Act.put,Za,Zb,Zc,Zd,Ze,Zf]
   refine H_take (i:=7) (v:=undef) rfl (by kernel_rfl) (by kernel_rfl) (by kernel_rfl) (fun _ _ _ h=>h) (Or.inr ⟨by rfl,rfl⟩) hD6 ?_;try simp only[Act.put,Za,Zb,Zc,Zd,Ze,Zf]
   refine H_take (i:=8) (v:=undef) rfl (by kernel_rfl) (by kernel_rfl) (by kernel_rfl) (fun _ _ _ h=>h) (Or.inr ⟨by rfl,rfl⟩) hD6 ?_;try simp only[Act.put,Za,Zb,Zc,Zd,Ze,Zf]
   refine H_take (i:=9) (v:=undef) rfl (by kernel_rfl) (by kernel_rfl) (by kernel_rfl) (fun _ _ _ h=>h) (Or.inr ⟨by rfl,rfl⟩) hD6 ?_;try simp only[Act.put,Za,Zb,Zc,Zd,Ze,Zf]
   refine H_take (i:=10) (v:=undef) rfl (by kernel_rfl) (by kernel_rfl) (by kernel_rfl) (fun _ _ _ h=>h) (Or.inr ⟨by rfl,rfl⟩) hD6 ?_;try simp only[Act.put,Za,Zb,Zc,Zd,Ze,Zf]
   refine H_take (i:=11) (v:=undef) rfl (by kernel_rfl) (by kernel_rfl) (by kernel_rfl) (fun _ _ _ h=>h) (Or.inr ⟨by rfl,rfl⟩) hD6 ?_;try simp only[Act.put,Za,Zb,Zc,Zd,Ze,Zf]
   refine H_take (i:=12) (v:=undef) rfl (by kernel_rfl) (by kernel_rfl) (by kernel_rfl) (fun _ _ _ h=>h) (Or.inr ⟨by rfl,rfl⟩) hD6 ?_;try simp only[Act.put,Za,Zb,Zc,Zd,Ze,Zf]
   refine H_take (i:=13) (v:=undef) rfl (by kernel_rfl) (by kernel_rfl) (by kernel_rfl) (fun _ _ _ h=>h) (Or.inr ⟨by rfl,rfl⟩) hD6 ?_;try simp only[Act.put,Za,Zb,Zc,Zd,Ze,Zf]
   refine H_take (i:=14) (v:=undef) rfl (by kernel_rfl) (by kernel_rfl) (by kernel_rfl) (fun _ _ _ h=>h) (Or.inr ⟨by rfl,rfl⟩) hD6 ?_;try simp only[Act.put,Za,Zb,Zc,Zd,Ze,Zf]
   refine H_take (i:=15) (v:=undef) rfl (by kernel_rfl) (by kernel_rfl) (by kernel_rfl) (fun _ _ _ h=>h) (Or.inr ⟨by rfl,rfl⟩) hD6 ?_;try simp only[Act.put,Za,Zb,Zc,Zd,Ze,Zf]
   refine H_take (i:=16) (v:=undef) rfl (by kernel_rfl) (by kernel_rfl) (by kernel_rfl) (fun _ _ _ h=>h) (Or.inr ⟨by rfl,rfl⟩) hD6 ?_;try simp only[Act.put,Za,Zb,Zc,Zd,Ze,Zf]
   refine H_take (i:=17) (v:=undef) rfl (by kernel_rfl) (by kernel_rfl) (by kernel_rfl) (fun _ _ _ h=>h) (Or.inr ⟨by rfl,rfl⟩) hD6 ?_;try simp only[Act.put,Za,Zb,Zc,Zd,Ze,Zf]
   refine T 18 hD6 ?_;refine wpAnyH_done (by kernel_rfl) ?_ _;have HK6:=Lh (HK.out _ HB5.out.drew);go_wp2;exact HK6.out
  |true=>
   rw[hp] at HFr;have HN:=Lh fun V (hV:Below w.heap.size w V)=>Ev.num (h.below hV).s.j.en
   have HPo:=Lh fun V (hV:Below w.heap.size w V)=>Ca.port (h.below hV).s.j.kn.caps h.i64 (Ni.portV s 20)
   cases hq:Gp.hasPort (K.g E.num) (Ni.portV s 20) with
   |false=>
    rw[hq] at HPo;have HK:=Lh fun V (hV:Below w.heap.size w V)=>HFin1.out V (HT.out V hV) (.inr hq)
    generalize Ni.portV s 20=pv at*;clear h hp hq;go_enter func171,ntmps171;go_wp2_with fail;refine(HA2.out _ Br).mono ?_;rintro e w1 ⟨rfl,rfl⟩;go_wp2_with fail;refine(HA1.out _ Br).mono ?_;rintro e w3 ⟨rfl,rfl⟩;go_wp2_with fail;refine HBy.out.mono ?_;rintro e w4 ⟨rfl,hb4⟩;have HB4:=Lh hb4;clear hb4;go_wp2_with fail;refine(HFr.out _).mono ?_;rintro e w5 ⟨rfl,hb5⟩;have HB5:=Lh (bQ HB4.out hb5);clear hb5 c0 c1 c2 c3 c5;obtain⟨c0,c1,c2,c3,c5⟩:=(HT.out _ HB5.out).all;have hD:=(HT.out _ HB5.out.drew).all;have HBd:=Lh HB5.out.drew;go_wp2_with fail;refine wp_region_held (S:=fun w'=>w'.cell? ⟨tb,0,none⟩=some (.pointer (some ⟨a.kb,0,none⟩))∧w'.cell? ⟨tb,1,none⟩=some (.pointer (some ⟨e.eb,0,none⟩))∧w'.cell? ⟨a.kb,2,none⟩=some (.pointer (some ⟨a.c.cb,0,none⟩))∧w'.cell? ⟨a.kb,3,none⟩=some (.pointer (some ⟨a.nb,0,none⟩))∧w'.cell? ⟨a.kb,5,none⟩=some (.int .u32 K.now)) (by kernel_rfl) ?_;refine T 0 hD ?_;refine T 1 hD ?_;refine T 2 hD ?_;refine T 3 hD ?_;refine T 4 hD ?_;refine T 5 hD ?_;refine T 6 hD ?_;refine T 7 hD ?_;refine T 8 hD ?_;refine T 9 hD ?_;refine T 10 hD ?_;refine T 11 hD ?_;refine T 12 hD ?_;refine T 13 hD ?_;refine T 15 hD ?_;refine U 14 fun K hK=> ?_
    go_simp;go_at_call 165;refine(HN.out _ HBd.out).mono ?_;rintro e x5 ⟨rfl,rfl⟩;refine V hK hD ?_;clear hK K;refine U 16 fun K hK=> ?_
    go_simp;go_at_call 238;refine(HPo.out _ HBd.out).mono ?_;rintro e x6 ⟨rfl,hb6⟩;have HB6:=Lh (bQ HBd.out hb6);have h6:=(HT.out _ HB6.out).all;clear hb6;refine V hK h6 ?_;clear hK K;refine T 17 h6 ?_;refine T 18 h6 ?_;refine wpAnyH_done (by kernel_rfl) ?_ _;have HK6:=Lh (HK.out _ HB6.out);go_wp2;exact HK6.out
   |true=>
    rw[hq] at HPo;have HF2:=Lh fun V a' hV=>HFin2.out V a' hV (by rw[hp,hq];simp)
    generalize Ni.portV s 20=pv at*;clear h hp hq;go_enter func171,ntmps171;go_wp2_with fail;refine(HA2.out _ Br).mono ?_;rintro e w1 ⟨rfl,rfl⟩;go_wp2_with fail;refine(HA1.out _ Br).mono ?_;rintro e w3 ⟨rfl,rfl⟩;go_wp2_with fail;refine HBy.out.mono ?_;rintro e w4 ⟨rfl,hb4⟩;have HB4:=Lh hb4;clear hb4;go_wp2_with fail;refine(HFr.out _).mono ?_;rintro e w5 ⟨rfl,hb5⟩;have HB5:=Lh (bQ HB4.out hb5);clear hb5 c0 c1 c2 c3 c5;obtain⟨c0,c1,c2,c3,c5⟩:=(HT.out _ HB5.out).all;have hD:=(HT.out _ HB5.out.drew).all;have HBd:=Lh HB5.out.drew;go_wp2_with fail;refine wp_region_held (S:=fun w'=>w'.cell? ⟨tb,0,none⟩=some (.pointer (some ⟨a.kb,0,none⟩))∧w'.cell? ⟨tb,1,none⟩=some (.pointer (some ⟨e.eb,0,none⟩))∧w'.cell? ⟨a.kb,2,none⟩=some (.pointer (some ⟨a.c.cb,0,none⟩))∧w'.cell? ⟨a.kb,3,none⟩=some (.pointer (some ⟨a.nb,0,none⟩))∧w'.cell? ⟨a.kb,5,none⟩=some (.int .u32 K.now)) (by kernel_rfl) ?_;refine T 0 hD ?_;refine T 1 hD ?_;refine T 2 hD ?_;refine T 3 hD ?_;refine T 4 hD ?_;refine T 5 hD ?_;refine T 6 hD ?_;refine T 7 hD ?_;refine T 8 hD ?_;refine T 9 hD ?_;refine T 10 hD ?_;refine T 11 hD ?_;refine T 12 hD ?_;refine T 13 hD ?_;refine T 15 hD ?_;refine U 14 fun K hK=> ?_
    go_simp;go_at_call 165;refine(HN.out _ HBd.out).mono ?_;rintro e x5 ⟨rfl,rfl⟩;refine V hK hD ?_;clear hK K;refine U 16 fun K hK=> ?_
    go_simp;go_at_call 238;refine(HPo.out _ HBd.out).mono ?_;rintro e x6 ⟨rfl,hb6⟩;have HB6:=Lh (bQ HBd.out hb6);have h6:=(HT.out _ HB6.out).all;clear hb6;refine V hK h6 ?_;clear hK K;refine T 17 h6 ?_;refine T 18 h6 ?_;refine wpAnyH_done (by kernel_rfl) ?_ _;clear c0 c1 c2 c3 c5 hD;have ht6:=HT.out _ HB6.out;obtain⟨c0,c1,c2,c3,c5⟩:=h6;have HSe:=Lh (Ni.send ht6.s.j.kn.nic s (by omega) HHs.out);have HSk:=Lh fun V' (g:Ni.NicO V' (Ni.Fr (fun k=>a.tag k=3) x6) a.nb (Ni.sendS K.N s)) (g':Mod (fun k=>a.tag k=3) x6 V')=>ht6.left (KStep.setNic ht6.s.j.kn g g' (by unfold Ni.sendS;split<;>exact ht6.s.j.kn.ok.q) (by unfold Ni.sendS;split<;>exact ht6.s.j.kn.ok.g0))
    clear ht6;go_wp2_with fail;refine HSe.out.mono ?_;rintro e w7 ⟨rfl,hn7,hm7⟩;have HK7:=Lh (HSk.out _ hn7 hm7);clear hn7 hm7 c0 c1 c2 c3 c5;obtain⟨c0,c1,c2,c3,c5⟩:=HK7.out.all;have HSh:=Lh (shows HK7.out 2 0 s);go_wp2_with fail;refine HSh.out.mono ?_;rintro e w8 ⟨rfl,h8⟩;have HK8:=Lh (HF2.out _ _ h8);clear h8;go_wp2;exact HK8.out
 ·have hfb:(Sp.getE E.A v1 v2 1 == 0)=false:=beq_eq_false_iff_ne.2 hf;have HFin:=Lh fun V (hV:Below w.heap.size w V)=>(fin_no (h.below hV) (f:=fun _=>Co.send K E v1 v2) 2 fun b=>by unfold Co.send Kn.bytes;rw[if_neg q1,if_neg q2,if_neg hf])
  generalize CallPost W tb a0 e0 A0 x (fun _=>Co.send K E v1 v2)=PQ at*;generalize Sp.getS E.A v1 v2 1=s at*;generalize Sp.getE E.A v1 v2 1=ge at*;clear h q2 hf;go_enter func171,ntmps171;go_wp2_with fail;refine(HA2.out _ Br).mono ?_;rintro e w1 ⟨rfl,rfl⟩;go_wp2_with fail;refine(HA1.out _ Br).mono ?_;rintro e w3 ⟨rfl,rfl⟩;go_wp2_with fail;refine HBy.out.mono ?_;rintro e w4 ⟨rfl,hb4⟩;have HK6:=Lh (HFin.out _ hb4);clear hb4;go_wp2;exact HK6.out
theorem recv(h:Tk W w tb a0 e0 A0 a K e E x):Calls Tryz.prog 172 #[.pointer (some ⟨tb,0,none⟩)] w (CallPost W tb a0 e0 A0 x fun _=>Co.recv K E (E.arg 1) (E.arg 2) (E.arg 3)):=by
 have hbd1:=arg_bd h.s.j.en 1;have HA1:=Lh fun V (hV:Below w.heap.size w V)=>Ev.arg (h.s.j.en.below hV) 1 (by omega) (by omega)
 generalize E.arg 1=v1 at*;obtain⟨v10,v11⟩:=hbd1;have hbd2:=arg_bd h.s.j.en 2;have HA2:=Lh fun V (hV:Below w.heap.size w V)=>Ev.arg (h.s.j.en.below hV) 2 (by omega) (by omega)
 generalize E.arg 2=v2 at*;obtain⟨v20,v21⟩:=hbd2;have hbd3:=arg_bd h.s.j.en 3;have HA3:=Lh fun V (hV:Below w.heap.size w V)=>Ev.arg (h.s.j.en.below hV) 3 (by omega) (by omega)
 generalize E.arg 3=v3 at*;obtain⟨v30,v31⟩:=hbd3;have HN:=Lh fun V (hV:Below w.heap.size w V)=>(Ev.num (h.below hV).s.j.en)
 have hdr:=h.below Br.drew;have hD:=hdr.all;obtain⟨c0,c1,c2,c3,c5⟩:=h.all;have HT:=Lh fun V (hV:Below w.heap.size w V)=>h.below hV
 by_cases q1:65535<v1
 ·have HFin:=Lh fun V (hV:Tk W V tb a0 e0 A0 a K e E x)=>fin_no hV (f:=fun _=>Co.recv K E v1 v2 v3) 1 fun b=>by unfold Co.recv;rw[if_pos (.inl q1)]
  generalize CallPost W tb a0 e0 A0 x (fun _=>Co.recv K E v1 v2 v3)=PQ at*;have q1d:decide (65535<v1)=true:=decide_eq_true q1;have q1e:decide (v1>65535)=true:=decide_eq_true q1;clear h hdr;go_enter func172,ntmps172;go_wp2_with fail;refine(HA1.out _ Br).mono ?_;rintro e w3 ⟨rfl,rfl⟩;go_wp2_with fail;refine wp_region_held (S:=fun w'=>w'.cell? ⟨tb,0,none⟩=some (.pointer (some ⟨a.kb,0,none⟩))∧w'.cell? ⟨tb,1,none⟩=some (.pointer (some ⟨e.eb,0,none⟩))∧w'.cell? ⟨a.kb,2,none⟩=some (.pointer (some ⟨a.c.cb,0,none⟩))∧w'.cell? ⟨a.kb,3,none⟩=some (.pointer (some ⟨a.nb,0,none⟩))∧w'.cell? ⟨a.kb,5,none⟩=some (.int .u32 K.now)) (by kernel_rfl) ?_;refine T 0 hD ?_;refine T 1 hD ?_;refine T 2 hD ?_;refine T 3 hD ?_;refine U 4 fun K hK=> ?_
  go_simp;go_at_call 118;refine(HA1.out _ Br.drew).mono ?_;rintro e x1 ⟨rfl,rfl⟩;refine V hK hD ?_;clear hK K;refine T 5 hD ?_;refine T 6 hD ?_;try simp only[q1d,q1e]
  refine H_take (i:=7) (v:=undef) rfl (by kernel_rfl) (by kernel_rfl) (by kernel_rfl) (fun _ _ _ h=>h) (Or.inr ⟨by rfl,rfl⟩) hD ?_;try simp only[Act.put,Za,Zb,Zc,Zd,Ze,Zf]
  refine H_take (i:=8) (v:=undef) rfl (by kernel_rfl) (by kernel_rfl) (by kernel_rfl) (fun _ _ _ h=>h) (Or.inr ⟨by rfl,rfl⟩) hD ?_;try simp only[Act.put,Za,Zb,Zc,Zd,Ze,Zf]
  refine H_take (i:=9) (v:=undef) rfl (by kernel_rfl) (by kernel_rfl) (by kernel_rfl) (fun _ _ _ h=>h) (Or.inr ⟨by rfl,rfl⟩) hD ?_;try simp only[Act.put,Za,Zb,Zc,Zd,Ze,Zf]
  refine H_take (i:=10) (v:=undef) rfl (by kernel_rfl) (by kernel_rfl) (by kernel_rfl) (fun _ _ _ h=>h) (Or.inr ⟨by rfl,rfl⟩) hD ?_;try simp only[Act.put,Za,Zb,Zc,Zd,Ze,Zf]
  refine H_take (i:=11) (v:=undef) rfl (by kernel_rfl) (by kernel_rfl) (by kernel_rfl) (fun _ _ _ h=>h) (Or.inr ⟨by rfl,rfl⟩) hD ?_;try simp only[Act.put,Za,Zb,Zc,Zd,Ze,Zf]
  refine H_take (i:=12) (v:=undef) rfl (by kernel_rfl) (by kernel_rfl) (by kernel_rfl) (fun _ _ _ h=>h) (Or.inr ⟨by rfl,rfl⟩) hD ?_;try simp only[Act.put,Za,Zb,Zc,Zd,Ze,Zf]
  refine H_take (i:=13) (v:=undef) rfl (by kernel_rfl) (by kernel_rfl) (by kernel_rfl) (fun _ _ _ h=>h) (Or.inr ⟨by rfl,rfl⟩) hD ?_;try simp only[Act.put,Za,Zb,Zc,Zd,Ze,Zf]
  refine H_take (i:=14) (v:=undef) rfl (by kernel_rfl) (by kernel_rfl) (by kernel_rfl) (fun _ _ _ h=>h) (Or.inr ⟨by rfl,rfl⟩) hD ?_;try simp only[Act.put,Za,Zb,Zc,Zd,Ze,Zf]
  refine H_take (i:=15) (v:=undef) rfl (by kernel_rfl) (by kernel_rfl) (by kernel_rfl) (fun _ _ _ h=>h) (Or.inr ⟨by rfl,rfl⟩) hD ?_;try simp only[Act.put,Za,Zb,Zc,Zd,Ze,Zf]
  refine H_take (i:=16) (v:=undef) rfl (by kernel_rfl) (by kernel_rfl) (by kernel_rfl) (fun _ _ _ h=>h) (Or.inr ⟨by rfl,rfl⟩) hD ?_;try simp only[Act.put,Za,Zb,Zc,Zd,Ze,Zf]
  refine H_take (i:=17) (v:=undef) rfl (by kernel_rfl) (by kernel_rfl) (by kernel_rfl) (fun _ _ _ h=>h) (Or.inr ⟨by rfl,rfl⟩) hD ?_;try simp only[Act.put,Za,Zb,Zc,Zd,Ze,Zf]
  refine H_take (i:=18) (v:=undef) rfl (by kernel_rfl) (by kernel_rfl) (by kernel_rfl) (fun _ _ _ h=>h) (Or.inr ⟨by rfl,rfl⟩) hD ?_;try simp only[Act.put,Za,Zb,Zc,Zd,Ze,Zf]
  refine H_take (i:=19) (v:=undef) rfl (by kernel_rfl) (by kernel_rfl) (by kernel_rfl) (fun _ _ _ h=>h) (Or.inr ⟨by rfl,rfl⟩) hD ?_;try simp only[Act.put,Za,Zb,Zc,Zd,Ze,Zf]
  refine H_take (i:=20) (v:=undef) rfl (by kernel_rfl) (by kernel_rfl) (by kernel_rfl) (fun _ _ _ h=>h) (Or.inr ⟨by rfl,rfl⟩) hD ?_;try simp only[Act.put,Za,Zb,Zc,Zd,Ze,Zf]
  refine H_take (i:=21) (v:=undef) rfl (by kernel_rfl) (by kernel_rfl) (by kernel_rfl) (fun _ _ _ h=>h) (Or.inr ⟨by rfl,rfl⟩) hD ?_;try simp only[Act.put,Za,Zb,Zc,Zd,Ze,Zf]
  refine T 22 hD ?_;refine wpAnyH_done (by kernel_rfl) ?_ _;have HK6:=Lh (HFin.out _ (HT.out _ Br.drew));go_wp2;exact HK6.out
 have q1f:decide (65535<v1)=false:=decide_eq_false q1;have hpw:IntKind.u16.wrap v1=v1:=by rw[IntKind.wrap_u16];omega
 have HPo:=Lh (Ca.port hdr.s.j.kn.caps h.i64 v1);cases hq:Gp.hasPort (K.g E.num) v1 with
 |false=>
  have HFin:=Lh fun V (hV:Tk W V tb a0 e0 A0 a K e E x)=>fin_no hV (f:=fun _=>Co.recv K E v1 v2 v3) 1 fun b=>by unfold Co.recv;rw[if_pos (.inr hq)]
  generalize CallPost W tb a0 e0 A0 x (fun _=>Co.recv K E v1 v2 v3)=PQ at*;rw[hq] at HPo;clear h hdr hq;go_enter func172,ntmps172;go_wp2_with fail;refine(HA1.out _ Br).mono ?_;rintro e w1 ⟨rfl,rfl⟩;go_wp2_with fail;refine wp_region_held (S:=fun w'=>w'.cell? ⟨tb,0,none⟩=some (.pointer (some ⟨a.kb,0,none⟩))∧w'.cell? ⟨tb,1,none⟩=some (.pointer (some ⟨e.eb,0,none⟩))∧w'.cell? ⟨a.kb,2,none⟩=some (.pointer (some ⟨a.c.cb,0,none⟩))∧w'.cell? ⟨a.kb,3,none⟩=some (.pointer (some ⟨a.nb,0,none⟩))∧w'.cell? ⟨a.kb,5,none⟩=some (.int .u32 K.now)) (by kernel_rfl) ?_;refine T 0 hD ?_;refine T 1 hD ?_;refine T 2 hD ?_;refine T 3 hD ?_;refine U 4 fun K hK=> ?_
  go_simp;go_at_call 118;refine(HA1.out _ Br.drew).mono ?_;rintro e x1 ⟨rfl,rfl⟩;refine V hK hD ?_;clear hK K;refine T 5 hD ?_;refine T 6 hD ?_;try simp only[q1f]
  refine T 7 hD ?_;refine T 8 hD ?_;refine T 9 hD ?_;refine T 10 hD ?_;refine T 11 hD ?_;refine T 12 hD ?_;refine T 13 hD ?_;refine T 14 hD ?_;refine T 15 hD ?_;refine T 16 hD ?_;refine T 17 hD ?_;refine T 19 hD ?_;refine U 18 fun K hK=> ?_
  go_simp;go_at_call 165;refine(HN.out _ Br.drew).mono ?_;rintro e x1 ⟨rfl,rfl⟩;refine V hK hD ?_;clear hK K;refine U 20 fun K hK=> ?_
  go_simp;go_at_call 238;refine HPo.out.mono ?_;rintro e x2 ⟨rfl,hb2⟩;have HB2:Hid (Below w.heap.size w x2):=Lh (Br.drew.trans hb2);have h2:=(HT.out _ HB2.out).all;clear hb2;refine V hK h2 ?_;clear hK K;refine T 21 h2 ?_;refine T 22 h2 ?_;refine wpAnyH_done (by kernel_rfl) ?_ _;have HK6:=Lh (HFin.out _ (HT.out _ HB2.out));go_wp2;exact HK6.out
 |true=>
  rw[hq] at HPo;have hno:¬(65535<v1∨Gp.hasPort (K.g E.num) v1=false):=by rw[hq];simp;omega
  have HNx:=Lh fun V (hV:Below w.heap.size w V)=>nicNext (h.below hV).s.j.kn v1 v10 (by omega)
  have hok:=h.s.j.kn.ok;cases hqs:K.N.q v1 with
  |nil=>
   have HFin:=Lh fun V (hV:Tk W V tb a0 e0 A0 a K e E x)=>fin_no hV (f:=fun _=>Co.recv K E v1 v2 v3) 3 fun b=>by unfold Co.recv;rw[if_neg hno,hqs]
   generalize CallPost W tb a0 e0 A0 x (fun _=>Co.recv K E v1 v2 v3)=PQ at*;have e1:Ni.nextS K.N v1=ByteArray.empty:=by unfold Ni.nextS;rw[hqs]
   have e2:Ni.nextB K.N v1=false:=by unfold Ni.nextB;rw[hqs]
   rw[e1,e2] at HNx;clear h hdr hq hqs e1 e2 hok hno;go_enter func172,ntmps172;go_wp2_with fail;refine(HA1.out _ Br).mono ?_;rintro e w1 ⟨rfl,rfl⟩;go_wp2_with fail;refine wp_region_held (S:=fun w'=>w'.cell? ⟨tb,0,none⟩=some (.pointer (some ⟨a.kb,0,none⟩))∧w'.cell? ⟨tb,1,none⟩=some (.pointer (some ⟨e.eb,0,none⟩))∧w'.cell? ⟨a.kb,2,none⟩=some (.pointer (some ⟨a.c.cb,0,none⟩))∧w'.cell? ⟨a.kb,3,none⟩=some (.pointer (some ⟨a.nb,0,none⟩))∧w'.cell? ⟨a.kb,5,none⟩=some (.int .u32 K.now)) (by kernel_rfl) ?_;refine T 0 hD ?_;refine T 1 hD ?_;refine T 2 hD ?_;refine T 3 hD ?_;refine U 4 fun K hK=> ?_
   go_simp;go_at_call 118;refine(HA1.out _ Br.drew).mono ?_;rintro e x1 ⟨rfl,rfl⟩;refine V hK hD ?_;clear hK K;refine T 5 hD ?_;refine T 6 hD ?_;try simp only[q1f]
   refine T 7 hD ?_;refine T 8 hD ?_;refine T 9 hD ?_;refine T 10 hD ?_;refine T 11 hD ?_;refine T 12 hD ?_;refine T 13 hD ?_;refine T 14 hD ?_;refine T 15 hD ?_;refine T 16 hD ?_;refine T 17 hD ?_;refine T 19 hD ?_;refine U 18 fun K hK=> ?_
   go_simp;go_at_call 165;refine(HN.out _ Br.drew).mono ?_;rintro e x1 ⟨rfl,rfl⟩;refine V hK hD ?_;clear hK K;refine U 20 fun K hK=> ?_
   go_simp;go_at_call 238;refine HPo.out.mono ?_;rintro e x2 ⟨rfl,hb2⟩;have HB2:Hid (Below w.heap.size w x2):=Lh (Br.drew.trans hb2);have h2:=(HT.out _ HB2.out).all;clear hb2;refine V hK h2 ?_;clear hK K;refine T 21 h2 ?_;refine T 22 h2 ?_;refine wpAnyH_done (by kernel_rfl) ?_ _;clear c0 c1 c2 c3 c5 hD;obtain⟨c0,c1,c2,c3,c5⟩:=h2;go_wp2_with fail;refine(HNx.out _ HB2.out).mono ?_;rintro e w4 ⟨rfl,rfl⟩;have HK6:=Lh (HFin.out _ (HT.out _ HB2.out));go_wp2;exact HK6.out
  |cons s r=>
   have hsz:s.size≤128:=hok.q v1 s (by rw[hqs];exact List.mem_cons_self ..);have hqr:∀y t,t∈(Ni.popS K.N v1).q y→t.size≤128:=pop_q hok.q v1;have hgr:0≤(Ni.popS K.N v1).gone:=pop_g hok.g0 v1;have e1:Ni.nextS K.N v1=s:=by unfold Ni.nextS;rw[hqs]
   have e2:Ni.nextB K.N v1=true:=by unfold Ni.nextB;rw[hqs]
   rw[e1,e2] at HNx
   by_cases hlo:v3<s.size
   ·have HFin:=Lh fun V (hV:Tk W V tb a0 e0 A0 a K e E x)=>fin_no hV (f:=fun _=>Co.recv K E v1 v2 v3) 5 fun b=>by unfold Co.recv;rw[if_neg hno,hqs];exact if_pos hlo
    generalize CallPost W tb a0 e0 A0 x (fun _=>Co.recv K E v1 v2 v3)=PQ at*;have hlb:decide ((s.size:Int)>v3)=true:=decide_eq_true hlo;clear h hdr hq hqs e1 e2 hok hno hqr hgr;go_enter func172,ntmps172;go_wp2_with fail;refine(HA1.out _ Br).mono ?_;rintro e w1 ⟨rfl,rfl⟩;go_wp2_with fail;refine wp_region_held (S:=fun w'=>w'.cell? ⟨tb,0,none⟩=some (.pointer (some ⟨a.kb,0,none⟩))∧w'.cell? ⟨tb,1,none⟩=some (.pointer (some ⟨e.eb,0,none⟩))∧w'.cell? ⟨a.kb,2,none⟩=some (.pointer (some ⟨a.c.cb,0,none⟩))∧w'.cell? ⟨a.kb,3,none⟩=some (.pointer (some ⟨a.nb,0,none⟩))∧w'.cell? ⟨a.kb,5,none⟩=some (.int .u32 K.now)) (by kernel_rfl) ?_;refine T 0 hD ?_;refine T 1 hD ?_;refine T 2 hD ?_;refine T 3 hD ?_;refine U 4 fun K hK=> ?_
    go_simp;go_at_call 118;refine(HA1.out _ Br.drew).mono ?_;rintro e x1 ⟨rfl,rfl⟩;refine V hK hD ?_;clear hK K;refine T 5 hD ?_;refine T 6 hD ?_;try simp only[q1f]
    refine T 7 hD ?_;refine T 8 hD ?_;refine T 9 hD ?_;refine T 10 hD ?_;refine T 11 hD ?_;refine T 12 hD ?_;refine T 13 hD ?_;refine T 14 hD ?_;refine T 15 hD ?_;refine T 16 hD ?_;refine T 17 hD ?_;refine T 19 hD ?_;refine U 18 fun K hK=> ?_
    go_simp;go_at_call 165;refine(HN.out _ Br.drew).mono ?_;rintro e x1 ⟨rfl,rfl⟩;refine V hK hD ?_;clear hK K;refine U 20 fun K hK=> ?_
    go_simp;go_at_call 238;refine HPo.out.mono ?_;rintro e x2 ⟨rfl,hb2⟩;have HB2:Hid (Below w.heap.size w x2):=Lh (Br.drew.trans hb2);have h2:=(HT.out _ HB2.out).all;clear hb2;refine V hK h2 ?_;clear hK K;refine T 21 h2 ?_;refine T 22 h2 ?_;refine wpAnyH_done (by kernel_rfl) ?_ _;clear c0 c1 c2 c3 c5 hD;obtain⟨c0,c1,c2,c3,c5⟩:=h2;go_wp2_with fail;refine(HNx.out _ HB2.out).mono ?_;rintro e w4 ⟨rfl,rfl⟩;have HBd:=Lh HB2.out;go_wp2_with fail;refine(HA3.out _ HBd.out).mono ?_;rintro e w5 ⟨rfl,rfl⟩;have HK6:=Lh (HFin.out _ (HT.out _ HBd.out));go_wp2;exact HK6.out
   ·have hlb:decide ((s.size:Int)>v3)=false:=decide_eq_false (by omega);have HFin1:=Lh fun V (hV:Tk W V tb a0 e0 A0 a K e E x) (hy:Sp.fitsE E.A v2 s.size 2≠0)=>fin_no hV (f:=fun _=>Co.recv K E v1 v2 v3) 2 fun b=>by unfold Co.recv;rw[if_neg hno,hqs];simp only;rw[if_neg hlo,if_pos hy]
    have HFin2:=Lh fun V a' e' (hV:Tk W V tb a0 e0 A0 a' { K with N:=Ni.popS K.N v1 } e' { E with A:=Sp.putA E.A v2 2 s } x) (hy:Sp.fitsE E.A v2 s.size 2=0)=>fin_of (f:=fun _=>Co.recv K E v1 v2 v3) (c:=⟨s.size,0, { K with N:=Ni.popS K.N v1 }, { E with A:=Sp.putA E.A v2 2 s },0,ByteArray.empty⟩) (x:=x) 0 (by show Co.recv K E v1 v2 v3=_;unfold Co.recv;rw[if_neg hno,hqs];simp only;rw[if_neg hlo,if_neg (fun z=>z hy)]) hV
    generalize CallPost W tb a0 e0 A0 x (fun _=>Co.recv K E v1 v2 v3)=PQ at*;have HSp:=Lh fun V (hV:Below w.heap.size w V)=>Ev.space (h.below hV).s.j.en
    have HWr:=Lh fun V (hV:Below w.heap.size w V)=>Sp.s_write (h.below hV).s.j.en.sp v2 s v20 v21 (by omega)
    have HWs:=Lh fun V (hV:Below w.heap.size w V) V' (g:SStep V V' e.sb e.mb E.A (Sp.putA E.A v2 2 s))=>(h.below hV).right (EStep.space (h.below hV).s.j.en g (putA_own (h.below hV).s.j.en.ok v2 2 s)) rfl
    have HQ:=Lh (And.intro hqr hgr);have hw32:IntKind.u32.wrap (s.size:Int)=s.size:=wrap32 (by omega) (by omega);clear h hdr hq hqs e1 e2 hok hno hqr hgr hlo;go_enter func172,ntmps172;go_wp2_with fail;refine(HA1.out _ Br).mono ?_;rintro e w1 ⟨rfl,rfl⟩;go_wp2_with fail;refine wp_region_held (S:=fun w'=>w'.cell? ⟨tb,0,none⟩=some (.pointer (some ⟨a.kb,0,none⟩))∧w'.cell? ⟨tb,1,none⟩=some (.pointer (some ⟨e.eb,0,none⟩))∧w'.cell? ⟨a.kb,2,none⟩=some (.pointer (some ⟨a.c.cb,0,none⟩))∧w'.cell? ⟨a.kb,3,none⟩=some (.pointer (some ⟨a.nb,0,none⟩))∧w'.cell? ⟨a.kb,5,none⟩=some (.int .u32 K.now)) (by kernel_rfl) ?_;refine T 0 hD ?_;refine T 1 hD ?_;refine T 2 hD ?_;refine T 3 hD ?_;refine U 4 fun K hK=> ?_
    go_simp;go_at_call 118;refine(HA1.out _ Br.drew).mono ?_;rintro e x1 ⟨rfl,rfl⟩;refine V hK hD ?_;clear hK K;refine T 5 hD ?_;refine T 6 hD ?_;try simp only[q1f]
    refine T 7 hD ?_;refine T 8 hD ?_;refine T 9 hD ?_;refine T 10 hD ?_;refine T 11 hD ?_;refine T 12 hD ?_;refine T 13 hD ?_;refine T 14 hD ?_;refine T 15 hD ?_;refine T 16 hD ?_;refine T 17 hD ?_;refine T 19 hD ?_;refine U 18 fun K hK=> ?_
    go_simp;go_at_call 165;refine(HN.out _ Br.drew).mono ?_;rintro e x1 ⟨rfl,rfl⟩;refine V hK hD ?_;clear hK K;refine U 20 fun K hK=> ?_
    go_simp;go_at_call 238;refine HPo.out.mono ?_;rintro e x2 ⟨rfl,hb2⟩;have HB2:Hid (Below w.heap.size w x2):=Lh (Br.drew.trans hb2);have h2:=(HT.out _ HB2.out).all;clear hb2;refine V hK h2 ?_;clear hK K;refine T 21 h2 ?_;refine T 22 h2 ?_;refine wpAnyH_done (by kernel_rfl) ?_ _;clear c0 c1 c2 c3 c5 hD;obtain⟨c0,c1,c2,c3,c5⟩:=h2;go_wp2_with fail;refine(HNx.out _ HB2.out).mono ?_;rintro e w4 ⟨rfl,rfl⟩;have HBd:=Lh HB2.out;go_wp2_with fail;refine(HA3.out _ HBd.out).mono ?_;rintro e w5 ⟨rfl,rfl⟩;clear c0 c1 c2 c3 c5;obtain⟨c0,c1,c2,c3,c5⟩:=(HT.out _ HBd.out).all;have HBe:=Lh HBd.out.drew;have hD:=(HT.out _ HBe.out).all
    by_cases hf:Sp.fitsE E.A v2 s.size 2=0
    ·have hfb:(Sp.fitsE E.A v2 s.size 2 != 0)=false:=by rw[hf];rfl
     have HF2:=Lh fun V a' e' hV=>HFin2.out V a' e' hV hf
     clear hf;go_wp2_with fail;refine wp_region_held (S:=fun w'=>w'.cell? ⟨tb,0,none⟩=some (.pointer (some ⟨a.kb,0,none⟩))∧w'.cell? ⟨tb,1,none⟩=some (.pointer (some ⟨e.eb,0,none⟩))∧w'.cell? ⟨a.kb,2,none⟩=some (.pointer (some ⟨a.c.cb,0,none⟩))∧w'.cell? ⟨a.kb,3,none⟩=some (.pointer (some ⟨a.nb,0,none⟩))∧w'.cell? ⟨a.kb,5,none⟩=some (.int .u32 K.now)) (by kernel_rfl) ?_;refine T 0 hD ?_;refine T 1 hD ?_;refine T 2 hD ?_;refine T 3 hD ?_;refine T 5 hD ?_;refine T 6 hD ?_;refine T 7 hD ?_;refine T 8 hD ?_;refine T 10 hD ?_;refine U 4 fun K hK=> ?_
     go_simp;go_at_call 56;refine(HSp.out _ HBe.out).mono ?_;rintro e x4 ⟨rfl,rfl⟩;refine V hK hD ?_;clear hK K;refine U 9 fun K hK=> ?_
     go_simp;go_at_call 118;refine(HA2.out _ HBe.out).mono ?_;rintro e x1 ⟨rfl,rfl⟩;refine V hK hD ?_;clear hK K;refine U 11 fun K hK=> ?_
     go_simp;go_at_call 235;refine(HWr.out _ HBe.out).mono ?_;rintro e x5 ⟨rfl,hs5⟩;have HK5:=Lh (HWs.out _ HBe.out _ hs5);have h5:=HK5.out.all;clear hs5;refine V hK h5 ?_;clear hK K;refine T 12 h5 ?_;refine T 13 h5 ?_;refine wpAnyH_done (by kernel_rfl) ?_ _;clear c0 c1 c2 c3 c5 hD;obtain⟨c0,c1,c2,c3,c5⟩:=h5;have HPp:=Lh (Ni.pop HK5.out.s.j.kn.nic v1 v10 (by omega));have HPk:=Lh fun V' (g:Ni.NicO V' (fun k=>a.tag k=3) a.nb (Ni.popS K.N v1)) (g':Mod (fun k=>a.tag k=3) x5 V')=>HK5.out.left (KStep.setNic HK5.out.s.j.kn (g.mono fun k hk=>.inl hk) g' HQ.out.1 HQ.out.2)
     go_wp2_with fail;refine HPp.out.mono ?_;rintro e w7 ⟨rfl,hn7,hm7⟩;have HK7:=Lh (HF2.out _ _ _ (HPk.out _ hn7 hm7));clear hn7 hm7;go_wp2;exact HK7.out
    ·have hfb:(Sp.fitsE E.A v2 s.size 2 != 0)=true:=bne_iff_ne.2 hf;have HF1:=Lh fun V hV=>HFin1.out V hV hf
     have HSm:=Lh (putA_same (need:=2) hf);clear hf;go_wp2_with fail;refine wp_region_held (S:=fun w'=>w'.cell? ⟨tb,0,none⟩=some (.pointer (some ⟨a.kb,0,none⟩))∧w'.cell? ⟨tb,1,none⟩=some (.pointer (some ⟨e.eb,0,none⟩))∧w'.cell? ⟨a.kb,2,none⟩=some (.pointer (some ⟨a.c.cb,0,none⟩))∧w'.cell? ⟨a.kb,3,none⟩=some (.pointer (some ⟨a.nb,0,none⟩))∧w'.cell? ⟨a.kb,5,none⟩=some (.int .u32 K.now)) (by kernel_rfl) ?_;refine T 0 hD ?_;refine T 1 hD ?_;refine T 2 hD ?_;refine T 3 hD ?_;refine T 5 hD ?_;refine T 6 hD ?_;refine T 7 hD ?_;refine T 8 hD ?_;refine T 10 hD ?_;refine U 4 fun K hK=> ?_
     go_simp;go_at_call 56;refine(HSp.out _ HBe.out).mono ?_;rintro e x4 ⟨rfl,rfl⟩;refine V hK hD ?_;clear hK K;refine U 9 fun K hK=> ?_
     go_simp;go_at_call 118;refine(HA2.out _ HBe.out).mono ?_;rintro e x1 ⟨rfl,rfl⟩;refine V hK hD ?_;clear hK K;refine U 11 fun K hK=> ?_
     go_simp;go_at_call 235;refine(HWr.out _ HBe.out).mono ?_;rintro e x5 ⟨rfl,hs5⟩;have HK5:=Lh (HWs.out _ HBe.out _ hs5);have h5:=HK5.out.all;clear hs5;refine V hK h5 ?_;clear hK K;refine T 12 h5 ?_;refine T 13 h5 ?_;refine wpAnyH_done (by kernel_rfl) ?_ _;have HK6:=Lh (HF1.out _ (by have:=HK5.out;rw[HSm.out] at this;exact this));go_wp2;exact HK6.out
theorem put(h:Tk W w tb a0 e0 A0 a K e E x):Calls Tryz.prog 173 #[.pointer (some ⟨tb,0,none⟩)] w (CallPost W tb a0 e0 A0 x fun _=>Co.put K E (E.arg 1) (E.arg 2)):=by
 have hbd1:=arg_bd h.s.j.en 1;have HA1:=Lh fun V (hV:Below w.heap.size w V)=>Ev.arg (h.s.j.en.below hV) 1 (by omega) (by omega)
 generalize E.arg 1=v1 at*;obtain⟨v10,v11⟩:=hbd1;have hbd2:=arg_bd h.s.j.en 2;have HA2:=Lh fun V (hV:Below w.heap.size w V)=>Ev.arg (h.s.j.en.below hV) 2 (by omega) (by omega)
 generalize E.arg 2=v2 at*;obtain⟨v20,v21⟩:=hbd2;have HN:=Lh fun V (hV:Below w.heap.size w V)=>(Ev.num (h.below hV).s.j.en)
 have hdr:=h.below Br.drew;have hD:=hdr.all;obtain⟨c0,c1,c2,c3,c5⟩:=h.all;have HT:=Lh fun V (hV:Below w.heap.size w V)=>h.below hV
 have HCo:=Lh (Ca.console hdr.s.j.kn.caps h.i64);cases hq:Gp.con (K.g E.num) with
 |false=>
  have HFin:=Lh fun V (hV:Tk W V tb a0 e0 A0 a K e E x)=>fin_no hV (f:=fun _=>Co.put K E v1 v2) 1 fun b=>by unfold Co.put;rw[if_pos hq]
  generalize CallPost W tb a0 e0 A0 x (fun _=>Co.put K E v1 v2)=PQ at*;rw[hq] at HCo;clear h hdr hq;go_enter func173,ntmps173;go_wp2_with fail;refine(HA2.out _ Br).mono ?_;rintro e w1 ⟨rfl,rfl⟩;go_wp2_with fail;refine wp_region_held (S:=fun w'=>w'.cell? ⟨tb,0,none⟩=some (.pointer (some ⟨a.kb,0,none⟩))∧w'.cell? ⟨tb,1,none⟩=some (.pointer (some ⟨e.eb,0,none⟩))∧w'.cell? ⟨a.kb,2,none⟩=some (.pointer (some ⟨a.c.cb,0,none⟩))∧w'.cell? ⟨a.kb,3,none⟩=some (.pointer (some ⟨a.nb,0,none⟩))∧w'.cell? ⟨a.kb,5,none⟩=some (.int .u32 K.now)) (by kernel_rfl) ?_;refine T 0 hD ?_;refine T 1 hD ?_;refine T 2 hD ?_;refine T 3 hD ?_;refine T 4 hD ?_;refine T 5 hD ?_;refine T 6 hD ?_;refine T 7 hD ?_;refine T 8 hD ?_;refine T 9 hD ?_;refine T 10 hD ?_;refine U 11 fun K hK=> ?_
  go_simp;go_at_call 165;refine(HN.out _ Br.drew).mono ?_;rintro e x1 ⟨rfl,rfl⟩;refine V hK hD ?_;clear hK K;refine U 12 fun K hK=> ?_
  go_simp;go_at_call 241;refine HCo.out.mono ?_;rintro e x2 ⟨rfl,hb2⟩;have HB2:Hid (Below w.heap.size w x2):=Lh (Br.drew.trans hb2);have h2:=(HT.out _ HB2.out).all;clear hb2;refine V hK h2 ?_;clear hK K;refine T 13 h2 ?_;refine T 14 h2 ?_;refine wpAnyH_done (by kernel_rfl) ?_ _;have HK6:=Lh (HFin.out _ (HT.out _ HB2.out));go_wp2;exact HK6.out
 |true=>
  rw[hq] at HCo;have hno:¬(Gp.con (K.g E.num)=false):=by rw[hq];decide
  by_cases q2:256<v2
  ·have HFin:=Lh fun V (hV:Tk W V tb a0 e0 A0 a K e E x)=>fin_no hV (f:=fun _=>Co.put K E v1 v2) 5 fun b=>by unfold Co.put;rw[if_neg hno,if_pos q2]
   generalize CallPost W tb a0 e0 A0 x (fun _=>Co.put K E v1 v2)=PQ at*;clear h hdr hq hno;go_enter func173,ntmps173;go_wp2_with fail;refine(HA2.out _ Br).mono ?_;rintro e w1 ⟨rfl,rfl⟩;go_wp2_with fail;refine wp_region_held (S:=fun w'=>w'.cell? ⟨tb,0,none⟩=some (.pointer (some ⟨a.kb,0,none⟩))∧w'.cell? ⟨tb,1,none⟩=some (.pointer (some ⟨e.eb,0,none⟩))∧w'.cell? ⟨a.kb,2,none⟩=some (.pointer (some ⟨a.c.cb,0,none⟩))∧w'.cell? ⟨a.kb,3,none⟩=some (.pointer (some ⟨a.nb,0,none⟩))∧w'.cell? ⟨a.kb,5,none⟩=some (.int .u32 K.now)) (by kernel_rfl) ?_;refine T 0 hD ?_;refine T 1 hD ?_;refine T 2 hD ?_;refine T 3 hD ?_;refine T 4 hD ?_;refine T 5 hD ?_;refine T 6 hD ?_;refine T 7 hD ?_;refine T 8 hD ?_;refine T 9 hD ?_;refine T 10 hD ?_;refine U 11 fun K hK=> ?_
   go_simp;go_at_call 165;refine(HN.out _ Br.drew).mono ?_;rintro e x1 ⟨rfl,rfl⟩;refine V hK hD ?_;clear hK K;refine U 12 fun K hK=> ?_
   go_simp;go_at_call 241;refine HCo.out.mono ?_;rintro e x2 ⟨rfl,hb2⟩;have HB2:Hid (Below w.heap.size w x2):=Lh (Br.drew.trans hb2);have h2:=(HT.out _ HB2.out).all;clear hb2;refine V hK h2 ?_;clear hK K;refine T 13 h2 ?_;refine T 14 h2 ?_;refine wpAnyH_done (by kernel_rfl) ?_ _;have HK6:=Lh (HFin.out _ (HT.out _ HB2.out));go_wp2;exact HK6.out
  have HBy:=Lh fun V (hV:Below w.heap.size w V)=>bytes (h.below hV) v1 v2 v10 v11 v20 v21
  by_cases hf:Sp.getE E.A v1 v2 1=0
  ·have hfb:(Sp.getE E.A v1 v2 1 == 0)=true:=by rw[hf];rfl
   have hsz:(Sp.getS E.A v1 v2 1).size=v2.toNat:=getS_size (by omega) hf;have hsz2:(Sp.getS E.A v1 v2 1).size≤256:=by omega
   have hby:Kn.bytes E v1 v2=some (Sp.getS E.A v1 v2 1):=by unfold Kn.bytes;rw[if_pos hf]
   have HFin1:=Lh fun V (hV:Tk W V tb a0 e0 A0 a K e E x) (hy:E.putE (Sp.getS E.A v1 v2 1)≠0)=>fin_no hV (f:=fun _=>Co.put K E v1 v2) 4 fun b=>by unfold Co.put;rw[if_neg hno,if_neg q2,hby];exact if_pos hy
   have HFin2:=Lh fun V e' (hV:Tk W V tb a0 e0 A0 a K e' (E.put (Sp.getS E.A v1 v2 1)) x) (hy:E.putE (Sp.getS E.A v1 v2 1)=0) (h0:v2=0)=>fin_of (f:=fun _=>Co.put K E v1 v2) (c:=⟨v2,0,K,E.put (Sp.getS E.A v1 v2 1),0,Sp.getS E.A v1 v2 1⟩) (x:=x) 0 (by show Co.put K E v1 v2=_;unfold Co.put;rw[if_neg hno,if_neg q2,hby];simp only;rw[if_neg (fun z=>z hy),if_pos h0]) hV
   have HFin3:=Lh fun V e' (hV:Tk W V tb a0 e0 A0 a K e' (E.put (Sp.getS E.A v1 v2 1)) ⟨1,(E.put (Sp.getS E.A v1 v2 1)).num,Sp.getS E.A v1 v2 1,0,true⟩) (hy:E.putE (Sp.getS E.A v1 v2 1)=0) (h0:¬v2=0)=>fin_of (f:=fun _=>Co.put K E v1 v2) (c:=⟨v2,0,K,E.put (Sp.getS E.A v1 v2 1),1,Sp.getS E.A v1 v2 1⟩) (x:=x) 0 (by show Co.put K E v1 v2=_;unfold Co.put;rw[if_neg hno,if_neg q2,hby];simp only;rw[if_neg (fun z=>z hy),if_neg h0]) hV
   generalize CallPost W tb a0 e0 A0 x (fun _=>Co.put K E v1 v2)=PQ at*;generalize Sp.getS E.A v1 v2 1=s at*;generalize Sp.getE E.A v1 v2 1=ge at*;have HPu:=Lh fun V (hV:Below w.heap.size w V)=>Ev.put (h.below hV).s.j.en s (by omega)
   have HPt:=Lh fun V (hV:Below w.heap.size w V) V' (g:EStep V V' e E e (E.put s))=>(h.below hV).right g (put_num E s)
   clear hf hsz hby h hdr hq hno;go_enter func173,ntmps173;go_wp2_with fail;refine(HA2.out _ Br).mono ?_;rintro e w1 ⟨rfl,rfl⟩;go_wp2_with fail;refine wp_region_held (S:=fun w'=>w'.cell? ⟨tb,0,none⟩=some (.pointer (some ⟨a.kb,0,none⟩))∧w'.cell? ⟨tb,1,none⟩=some (.pointer (some ⟨e.eb,0,none⟩))∧w'.cell? ⟨a.kb,2,none⟩=some (.pointer (some ⟨a.c.cb,0,none⟩))∧w'.cell? ⟨a.kb,3,none⟩=some (.pointer (some ⟨a.nb,0,none⟩))∧w'.cell? ⟨a.kb,5,none⟩=some (.int .u32 K.now)) (by kernel_rfl) ?_;refine T 0 hD ?_;refine T 1 hD ?_;refine T 2 hD ?_;refine T 3 hD ?_;refine T 4 hD ?_;refine T 5 hD ?_;refine T 6 hD ?_;refine T 7 hD ?_;refine T 8 hD ?_;refine T 9 hD ?_;refine T 10 hD ?_;refine U 11 fun K hK=> ?_
   go_simp;go_at_call 165;refine(HN.out _ Br.drew).mono ?_;rintro e x1 ⟨rfl,rfl⟩;refine V hK hD ?_;clear hK K;refine U 12 fun K hK=> ?_
   go_simp;go_at_call 241;refine HCo.out.mono ?_;rintro e x2 ⟨rfl,hb2⟩;have HB2:Hid (Below w.heap.size w x2):=Lh (Br.drew.trans hb2);have h2:=(HT.out _ HB2.out).all;clear hb2;refine V hK h2 ?_;clear hK K;refine T 13 h2 ?_;refine T 14 h2 ?_;refine wpAnyH_done (by kernel_rfl) ?_ _;clear c0 c1 c2 c3 c5 hD;obtain⟨c0,c1,c2,c3,c5⟩:=h2;go_wp2_with fail;refine(HA1.out _ HB2.out).mono ?_;rintro e w3 ⟨rfl,rfl⟩;go_wp2_with fail;refine(HBy.out _ HB2.out).mono ?_;rintro e w4 ⟨rfl,hb4⟩;have HB4:=Lh (bQ HB2.out hb4);clear hb4 c0 c1 c2 c3 c5;obtain⟨c0,c1,c2,c3,c5⟩:=(HT.out _ HB4.out).all
   by_cases hp:E.putE s=0
   ·have hpb:(E.putE s != 0)=false:=by rw[hp];rfl
    have HF2:=Lh fun V e' hV h0=>HFin2.out V e' hV hp h0
    have HF3:=Lh fun V e' hV h0=>HFin3.out V e' hV hp h0
    clear hp;go_wp2_with fail;refine(HPu.out _ HB4.out).mono ?_;rintro e w5 ⟨rfl,hs5⟩;have HK5:=Lh (HPt.out _ HB4.out _ hs5);clear hs5 c0 c1 c2 c3 c5;obtain⟨c0,c1,c2,c3,c5⟩:=HK5.out.all
    by_cases h0:v2=0
    ·have hz:decide (v2>0)=false:=decide_eq_false (by omega);have HK6:=Lh (HF2.out _ _ HK5.out h0);clear h0;go_wp2;exact HK6.out
    ·have hz:decide (v2>0)=true:=decide_eq_true (by omega);have hz2:0<v2:=by omega
     have HSh:=Lh (shows HK5.out 1 0 s);have HF4:=Lh fun V e' hV=>HF3.out V e' hV h0
     clear h0;go_wp2_with fail;refine HSh.out.mono ?_;rintro e w8 ⟨rfl,h8⟩;have HK8:=Lh (HF4.out _ _ h8);clear h8;go_wp2;exact HK8.out
   ·have hpb:(E.putE s != 0)=true:=bne_iff_ne.2 hp;have HSm:=Lh (put_same hp);have HF1:=Lh fun V hV=>HFin1.out V hV hp
    clear hp;go_wp2_with fail;refine(HPu.out _ HB4.out).mono ?_;rintro e w5 ⟨rfl,hs5⟩;have HK5:=Lh (HPt.out _ HB4.out _ hs5);have HK6:=Lh (HF1.out _ (by have:=HK5.out;rw[HSm.out] at this;exact this));clear hs5;go_wp2;exact HK6.out
  ·have hfb:(Sp.getE E.A v1 v2 1 == 0)=false:=beq_eq_false_iff_ne.2 hf;have HFin:=Lh fun V (hV:Tk W V tb a0 e0 A0 a K e E x)=>(fin_no hV (f:=fun _=>Co.put K E v1 v2) 2 fun b=>by unfold Co.put Kn.bytes;rw[if_neg hno,if_neg q2,if_neg hf])
   generalize CallPost W tb a0 e0 A0 x (fun _=>Co.put K E v1 v2)=PQ at*;generalize Sp.getS E.A v1 v2 1=s at*;generalize Sp.getE E.A v1 v2 1=ge at*;clear h hdr hq hf hno;go_enter func173,ntmps173;go_wp2_with fail;refine(HA2.out _ Br).mono ?_;rintro e w1 ⟨rfl,rfl⟩;go_wp2_with fail;refine wp_region_held (S:=fun w'=>w'.cell? ⟨tb,0,none⟩=some (.pointer (some ⟨a.kb,0,none⟩))∧w'.cell? ⟨tb,1,none⟩=some (.pointer (some ⟨e.eb,0,none⟩))∧w'.cell? ⟨a.kb,2,none⟩=some (.pointer (some ⟨a.c.cb,0,none⟩))∧w'.cell? ⟨a.kb,3,none⟩=some (.pointer (some ⟨a.nb,0,none⟩))∧w'.cell? ⟨a.kb,5,none⟩=some (.int .u32 K.now)) (by kernel_rfl) ?_;refine T 0 hD ?_;refine T 1 hD ?_;refine T 2 hD ?_;refine T 3 hD ?_;refine T 4 hD ?_;refine T 5 hD ?_;refine T 6 hD ?_;refine T 7 hD ?_;refine T 8 hD ?_;refine T 9 hD ?_;refine T 10 hD ?_;refine U 11 fun K hK=> ?_
   go_simp;go_at_call 165;refine(HN.out _ Br.drew).mono ?_;rintro e x1 ⟨rfl,rfl⟩;refine V hK hD ?_;clear hK K;refine U 12 fun K hK=> ?_
   go_simp;go_at_call 241;refine HCo.out.mono ?_;rintro e x2 ⟨rfl,hb2⟩;have HB2:Hid (Below w.heap.size w x2):=Lh (Br.drew.trans hb2);have h2:=(HT.out _ HB2.out).all;clear hb2;refine V hK h2 ?_;clear hK K;refine T 13 h2 ?_;refine T 14 h2 ?_;refine wpAnyH_done (by kernel_rfl) ?_ _;clear c0 c1 c2 c3 c5 hD;obtain⟨c0,c1,c2,c3,c5⟩:=h2;go_wp2_with fail;refine(HA1.out _ HB2.out).mono ?_;rintro e w3 ⟨rfl,rfl⟩;go_wp2_with fail;refine(HBy.out _ HB2.out).mono ?_;rintro e w4 ⟨rfl,hb4⟩;have HK6:=Lh (HFin.out _ (HT.out _ (bQ HB2.out hb4)));clear hb4;go_wp2;exact HK6.out
end
end Kl
open Go.RowKit Word
namespace Cp
theorem regsK_regs(r:List Int)(hl:r.length=16)(h0:rg r 0=0):regsK (fun i=>rg r i) 16=r:=by
 apply List.ext_getElem?
 intro n;unfold regsK
 by_cases hn:n<16
 ·simp only[List.getElem?_map,List.getElem?_range hn,Option.map_some];have hr:r[n]? =some (rg r n):=by
   unfold rg;rw[Int.toNat_natCast,List.getD,Zg (by omega)];rfl
  rw[hr]
  by_cases g:0<n
  ·rw[if_pos ⟨g,hn⟩]
  ·obtain rfl:n=0:=by omega
   rw[if_neg (by omega)];exact congrArg some h0.symm
 ·rw[List.getElem?_eq_none (by simp;omega),List.getElem?_eq_none (by omega)]
end Cp
end Go.Proofs.YtnpicaigdfnmfaaGreat
