/- FzLg, CopG, Row, FzG, FzK, FzW in one text. -/
import Derived.Test.YtehihecknhcggaaGreatFtMade06
import Derived.LoopTactic
import Derived.Test.YtehihecknhcggaaGreatFtGraG
import Derived.Test.YtehihecknhcggaaGreatFtEnvW
import Derived.Test.YtehihecknhcggaaGreatFtGrantG
import Derived.Test.YtehihecknhcggaaGreatFtZa
set_option linter.unusedVariables false
set_option linter.unusedSimpArgs false
set_option maxRecDepth 100000
set_option maxHeartbeats 16000000
open Go.Proofs.Tryz
namespace Go.Proofs.YtehihecknhcggaaGreat.Fz
open Go.RowKit In
structure Small(d:FrI):Prop where
 sp:d.x.sp.length≤30
 e:d.x.m.ext.length≤16384
 p:d.x.m.ports.length≤16384
def lbRel(w1:World)(b0:Int)(l:List Fp)(vn vi:Value)(wr:World):Prop:=∃(i:Nat) (n:Int),i≤l.length∧i≤40∧vi=.int .i64 i∧vn=.int .i64 n∧b0≤n∧n≤b0+i*140737488355328∧wr=w1
theorem largeB(w:World)(d:FrI)(hd:d.pre w):Calls Tryz.prog 18 #[.agg d.cells] w fun e w'=>∃b,e=.returned (.bool b)∧(b=false→Small d)∧Below w.heap.size w w':=by
 have hb:Below w.heap.size w (w.alloc (.cells d.cells 52)):=Ba _;have hx:FBox (w.alloc (.cells d.cells 52)) w.heap.size d.x d.mi.ev d.mi.pv d.sv:=heap_alloc_new w _;obtain⟨w1,hw1⟩:∃y,w.alloc (.cells d.cells 52)=y:=⟨_,rfl⟩;obtain⟨xb,hxb⟩:∃y,w.heap.size=y:=⟨_,rfl⟩;have HS:=Lh (hd.s.below hb);have HPost:Hid (∀b,(b=false→Small d)→∃b',Ending.returned (.bool b)=.returned (.bool b')∧(b'=false→Small d)∧Below w.heap.size w w1):=Lh fun b h=>⟨b,rfl,h,by rw[←hw1];exact hb⟩
 rw[hw1] at hx HS;rw[hxb] at hx;obtain⟨b0,hb0⟩:∃y:Int,(d.x.text.size:Int)+d.x.m.ext.length+d.x.m.ports.length=y:=⟨_,rfl⟩;have HB0:=Lh hb0;have HZ:=Lh (And.intro hd.t hd.z);have e0:IntKind.i64.wrap ((d.x.text.size:Int)+d.x.m.ext.length)=(d.x.text.size:Int)+d.x.m.ext.length:=by have h1:=hd.t;have h2:=hd.z;rw[IntKind.wrap_i64];omega
 have e1:IntKind.i64.wrap ((d.x.text.size:Int)+d.x.m.ext.length+d.x.m.ports.length)=b0:=by have h1:=hd.t;have h2:=hd.z;rw[IntKind.wrap_i64]<;>omega
 have c1:w1.cell? ⟨xb,1,none⟩=some (.slice d.ea d.x.m.ext.length d.ecap):=hx.cell 1 _ rfl;have c2:w1.cell? ⟨xb,2,none⟩=some (.slice d.pa d.x.m.ports.length d.pcap):=hx.cell 2 _ rfl;have c21:w1.cell? ⟨xb,21,none⟩=some (.slice d.sa d.x.sp.length d.scap):=hx.cell 21 _ rfl;have c22:w1.cell? ⟨xb,22,none⟩=some (.string d.x.text):=hx.cell 22 _ rfl;have HSm:Hid (d.x.sp.length≤30→b0≤16384→Small d):=Lh fun h1 h2=>⟨h1,by have h3:=hb0;omega,by have h3:=hb0;omega⟩
 clear hb hx hd hb0;generalize hPQ:(fun(e:Ending) (w':World)=>∃b,e=.returned (.bool b)∧(b=false→Small d)∧Below w.heap.size w w')=PQ;have HEnd:Hid (∀b,(b=false→Small d)→PQ (.returned (.bool b)) w1):=Lh fun b h=>by rw[←hPQ];exact HPost.out b h
 clear hPQ HPost;unfold FrI.cells Fr.arr FrI.mi MnI.ev MnI.pv FrI.sv at hw1⊢;simp only at hw1⊢;go_enter func18,ntmps18;go_wp2;try rw[hw1]
 try rw[hxb]
 try rw[e1]
 clear hw1 hxb e0 e1;go_loopw [3,4] (fun vn vi wr=>lbRel w1 b0 d.x.sp vn vi wr) (fun _ vi _=>d.x.sp.length - (intOf vi).toNat)
 case atStart=>exact⟨0,_,Nat.zero_le _,by omega,rfl,rfl,by omega,by omega,rfl⟩
 case round=>
  obtain⟨i,n,hi,h40,rfl,rfl,hn0,hn1,rfl⟩:=hrel;have hbz:0≤b0∧b0≤422212465065984:=by have h1:=HB0.out;have h2:=HZ.out;omega
  by_cases hin:i<d.x.sp.length∧i<40
  ·have ii:(i:Int)<d.x.sp.length:=by omega
   have i4:(i:Int)<40:=by omega
   obtain⟨g,o,ea,hc⟩:=HS.out.cell i hin.1;have hts:=(HS.out.bd _ (List.getElem_mem hin.1)).2.2;have p3:=hc 3 (by omega);have p3':wr.cell? ⟨g,o+i*4+3,none⟩=some (.string (d.x.sp[i]'hin.1).text):=p3;clear p3 hc;generalize d.x.sp[i]'hin.1=p at*;obtain⟨pa,pp,po,pt⟩:=p;simp only at p3' hts;have iw:IntKind.i64.wrap (n+pt.size)=n+pt.size:=by rw[IntKind.wrap_i64];omega
   have HR:Hid (lbRel wr b0 d.x.sp (.int .i64 (n+pt.size)) (.int .i64 ((i:Int)+1)) wr):=Lh ⟨i+1,_,by omega,by omega,by go_num,rfl,by omega,by push_cast;omega,rfl⟩;clear hin hn0 hn1 hbz hts;rw[ea] at c21;go_wp2;exact⟨HR.out,by simp[intOf];omega⟩
  ·have HS2:=HS
   by_cases h30:d.x.sp.length≤30
   ·have ii:¬(i:Int)<d.x.sp.length:=by omega
    have g1:¬(30:Int)<d.x.sp.length:=by omega
    by_cases h14:n≤16384
    ·have g2:¬(16384:Int)<n:=by omega
     have HE:=Lh (HEnd.out false (fun _=>HSm.out h30 (by omega)));clear hin h30 HEnd HS HS2 hn0 hn1 hbz h14;go_wp2
     first|exact HE.out|(go_ret;exact HE.out)
    ·have g2:(16384:Int)<n:=by omega
     have HE:=Lh (HEnd.out true (fun h=>nomatch h));clear hin h30 HEnd HS HS2 hn0 hn1 hbz h14;go_wp2
     first|exact HE.out|(go_ret;exact HE.out)
   ·have g1:(30:Int)<d.x.sp.length:=by omega
    have HE:=Lh (HEnd.out true (fun h=>nomatch h))
    by_cases hil:i<d.x.sp.length
    ·have ii:(i:Int)<d.x.sp.length:=by omega
     have i4:¬(i:Int)<40:=by omega
     clear hin h30 HEnd HS HS2 hn0 hn1 hbz;go_wp2
     first|exact HE.out|(go_ret;exact HE.out)
    ·have ii:¬(i:Int)<d.x.sp.length:=by omega
     clear hin h30 HEnd HS HS2 hn0 hn1 hbz;go_wp2
     first|exact HE.out|(go_ret;exact HE.out)
end Go.Proofs.YtehihecknhcggaaGreat.Fz
namespace Go.Proofs.YtehihecknhcggaaGreat
open Go.RowKit
namespace R11
theorem app_ext{W:World}{a:Option Addr}{n cap:Nat}{xs:List Value}(hl:xs.length=n*2)(hc:Cl.At W a xs)(hs:n≤2000000)(h1:∀u,u∈xs→u.oneCell'=true):
  ∃o c W',(Builtin.append_ #[45,45] 45 #[.slice none 0 0,.slice a n cap]).run Tryz.prog W=.ok (.slice o n c) W'∧SlV W' 317 2 (.slice o n c) n xs∧Below W.heap.size W W'∧(∀b,(Value.slice o n c).ownBlock=some b→W.heap.size≤b∧b<W'.heap.size):=by
 obtain⟨i0,hi0,hz0,hz1,hz2⟩:=info_parts Cl.info_ext
 by_cases h0:n=0
 ·subst h0;obtain rfl:xs=[]:=List.length_eq_zero_iff.1 (by omega);refine⟨none,0,W, ?_,SlV.nil _ _ _,Below.refl _ _,fun b hb=>(nomatch hb)⟩;have hu:=Tryz.underlying45;cases a<;>go_simp
 ·obtain⟨u,hu⟩:∃u,xs[0]? =some u:=⟨_,Zg (by omega)⟩;obtain⟨g,off,rfl,_⟩:=hc 0 u hu;obtain⟨v',w',hrun,r1,r2,r3⟩:=(SlV.nil W 317 2).append (P:=Tryz.prog) (t:=45) (bytes:=8) 45 i0 _ Tryz.underlying45 hi0 hz0 hz1 hz2 rfl (by omega) ⟨g,off,none⟩ n cap xs (by omega) hl (fun j u hu=>by
   obtain⟨g',o',e,hcc⟩:=hc j u hu;simp only[Option.some.injEq,Addr.mk.injEq,and_true] at e;obtain⟨rfl,rfl⟩:=e;rw[Addr.add_lit];exact hcc) h1 (by unfold maxLen;omega) (by omega)
  rw[Nat.zero_add,List.nil_append] at r1;obtain⟨o,c,rfl⟩:=r1.form;refine⟨o,c,w',hrun,r1,(r2.mono fun k _ g=>(nomatch g):Mod (fun _=>False) W w').toBelow,fun b hb=> ?_⟩;rcases r3 with g|⟨k,g,gk⟩
  ·rw[g] at hb;exact(nomatch hb)
  ·rw[g] at hb;cases hb;obtain⟨q,hq,hql⟩:=r1.lt (by omega);rw[g] at hq;cases hq;exact⟨gk,hql⟩
theorem app_u16{W:World}{a:Option Addr}{n cap:Nat}{xs:List Value}(hl:xs.length=n*1)(hc:Cl.At W a xs)(hs:n≤2000000)(h1:∀u,u∈xs→u.oneCell'=true):
  ∃o c W',(Builtin.append_ #[46,46] 46 #[.slice none 0 0,.slice a n cap]).run Tryz.prog W=.ok (.slice o n c) W'∧SlV W' 22 1 (.slice o n c) n xs∧Below W.heap.size W W'∧(∀b,(Value.slice o n c).ownBlock=some b→W.heap.size≤b∧b<W'.heap.size):=by
 obtain⟨i0,hi0,hz0,hz1,hz2⟩:=info_parts Cl.info_u16
 by_cases h0:n=0
 ·subst h0;obtain rfl:xs=[]:=List.length_eq_zero_iff.1 (by omega);refine⟨none,0,W, ?_,SlV.nil _ _ _,Below.refl _ _,fun b hb=>(nomatch hb)⟩;have hu:=Tryz.underlying46;cases a<;>go_simp
 ·obtain⟨u,hu⟩:∃u,xs[0]? =some u:=⟨_,Zg (by omega)⟩;obtain⟨g,off,rfl,_⟩:=hc 0 u hu;obtain⟨v',w',hrun,r1,r2,r3⟩:=(SlV.nil W 22 1).append (P:=Tryz.prog) (t:=46) (bytes:=2) 46 i0 _ Tryz.underlying46 hi0 hz0 hz1 hz2 rfl (by omega) ⟨g,off,none⟩ n cap xs (by omega) hl (fun j u hu=>by
   obtain⟨g',o',e,hcc⟩:=hc j u hu;simp only[Option.some.injEq,Addr.mk.injEq,and_true] at e;obtain⟨rfl,rfl⟩:=e;rw[Addr.add_lit];exact hcc) h1 (by unfold maxLen;omega) (by omega)
  rw[Nat.zero_add,List.nil_append] at r1;obtain⟨o,c,rfl⟩:=r1.form;refine⟨o,c,w',hrun,r1,(r2.mono fun k _ g=>(nomatch g):Mod (fun _=>False) W w').toBelow,fun b hb=> ?_⟩;rcases r3 with g|⟨k,g,gk⟩
  ·rw[g] at hb;exact(nomatch hb)
  ·rw[g] at hb;cases hb;obtain⟨q,hq,hql⟩:=r1.lt (by omega);rw[g] at hq;cases hq;exact⟨gk,hql⟩
theorem wpList_append_run{P:Program}{w w':World}{ops:Array Oper}{rest:List Oper}{o:Oper}{ac:Act}{Q:Exit→Act→World→Prop}(hgd:o.guard=none)(sl x:Operand)(t:TypeId)
  (ho:o.op=.call {callee:=.builtin .append,args:= #[sl,x],argTypes:= #[t,t]}) {v y v':Value} (hs:ac.eval sl=v) (hx:ac.eval x=y) (hrun:(Builtin.append_ #[t,t] o.type #[v,y]).run P w=.ok v' w')
  (hK:wpList P ops Q rest (ac.put o.dst v') w'):wpList P ops Q (o::rest) ac w:=by
 refine wpList_plain hgd fun K hK'=> ?_
 unfold Oper.wp;simp[execOp,ho,resolve,invoke,builtin,hs,hx,hrun,Result.andThen];exact hK' _ _ hK
def CopyPost(w:World)(m:Mn)(e:Ending)(w':World):Prop:=
 ∃ev pv,e=.returned (.agg (m.cells ev pv))∧MnAt w' ev pv m∧(∀k,ev.ownBlock=some k∨pv.ownBlock=some k→w.heap.size≤k∧k<w'.heap.size)∧Below w.heap.size w w'
theorem copy{w:World}{m:Mn}{ev pv:Value}(hm:MnIn w ev pv m)(he:m.ext.length≤2000000)(hp:m.ports.length≤2000000):
  Calls Tryz.prog 95 #[.agg (m.cells ev pv)] w (CopyPost w m):=by
 obtain⟨eo,ec,rfl⟩:=hm.e.form;obtain⟨po,pc,rfl⟩:=hm.p.form;have hb0:Below w.heap.size w (w.alloc (.cells (m.cells (.slice eo m.ext.length ec) (.slice po m.ports.length pc)) 48)):=Ba _;have hb1:=hb0.alloc hb0.size (.cells #[.int .u32 0,.slice none 0 0,.slice none 0 0,.bool false] 48);have hk0:((w.alloc (.cells (m.cells (.slice eo m.ext.length ec) (.slice po m.ports.length pc)) 48)).alloc (.cells #[.int .u32 0,.slice none 0 0,.slice none 0 0,.bool false] 48)).heap[w.heap.size]? =some (.cells (m.cells (.slice eo m.ext.length ec) (.slice po m.ports.length pc)) 48):=(Below.heap_alloc _ _ _ (lQ (heap_alloc_new w _))).trans (heap_alloc_new w _);have hk1:=heap_alloc_new (w.alloc (.cells (m.cells (.slice eo m.ext.length ec) (.slice po m.ports.length pc)) 48)) (.cells #[.int .u32 0,.slice none 0 0,.slice none 0 0,.bool false] 48);rw[show(w.alloc (.cells (m.cells (.slice eo m.ext.length ec) (.slice po m.ports.length pc)) 48)).heap.size=w.heap.size+1 by simp] at hk1;have HM:=Lh fun V (hV:Below w.heap.size w V)=>hm.below hV
 unfold Mn.cells at*;obtain⟨W2,hW2⟩:∃W2,W2=(w.alloc (.cells #[.int .u32 m.pages,.slice eo m.ext.length ec,.slice po m.ports.length pc,.bool m.con] 48)).alloc (.cells #[.int .u32 0,.slice none 0 0,.slice none 0 0,.bool false] 48):=⟨_,rfl⟩;rw[←hW2] at hb1 hk0 hk1;obtain⟨o1,oc1,W3,hr1,hs1,hb3,ho1⟩:=app_ext (cap:=ec) (extC_length _) (rw_at (HM.out W2 hb1).e) he (one_ext _);have hk0':=(hb3.block _ (lQ hk0)).trans hk0;have hk1':=(hb3.block _ (lQ hk1)).trans hk1;have hbw3:=bQ hb1 hb3;have hz2:=hb3.size;have l0:=lQ hk0;have l1:=lQ hk1;have hm4:Mod (fun i=>i=w.heap.size) W3 (W3.setCell ⟨w.heap.size,1,none⟩ (.slice o1 m.ext.length oc1)):=Mod.setCell (F:=fun i=>i=w.heap.size) (Mod.refl _ _) ⟨w.heap.size,1,none⟩ (.inl rfl) _;have hk04:=heap_setCell_same W3 w.heap.size 1 _ _ (.slice o1 m.ext.length oc1) hk0';have hk14:=(hm4.block _ (lQ hk1') (by omega)).trans hk1';have hbw4:=Mod.below hbw3 hm4 hbw3.size fun k _ hk=>Nat.le_of_eq hk.symm
 have hz4:(W3.setCell ⟨w.heap.size,1,none⟩ (.slice o1 m.ext.length oc1)).heap.size=W3.heap.size:=by simp[World.setCell]
 have hs14:=hs1.mod hm4 fun k hk e=>by have:=(ho1 k hk).1;omega
 obtain⟨W4,hW4⟩:∃W4,W4=W3.setCell ⟨w.heap.size,1,none⟩ (.slice o1 m.ext.length oc1):=⟨_,rfl⟩;rw[←hW4] at hk04 hk14 hbw4 hz4 hs14;obtain⟨o2,oc2,W5,hr2,hs2,hb5,ho2⟩:=app_u16 (cap:=pc) (by simp) (rw_at (HM.out W4 hbw4).p) hp (one_u16 _);have hk05:=(hb5.block _ (lQ hk04)).trans hk04;have hk15:=(hb5.block _ (lQ hk14)).trans hk14;obtain⟨c0,c1,c2,c3,cf⟩:=man_cells hk0;obtain⟨d0,d1,d2,d3,df⟩:=man_cells (m:=m) (ev:=.slice eo m.ext.length ec) (pv:=.slice po m.ports.length pc) hk0';obtain⟨e0,e1,e2,e3,ef⟩:=man_cells (m:=m) (ev:=.slice o1 m.ext.length oc1) (pv:=.slice po m.ports.length pc) hk04;obtain⟨f0,f1,f2,f3,ff⟩:=man_cells (m:=m) (ev:=.slice o1 m.ext.length oc1) (pv:=.slice po m.ports.length pc) hk05;have hl5:=lQ hk15;have hm6:Mod (fun i=>i=w.heap.size) W5 (W5.setCell ⟨w.heap.size,2,none⟩ (.slice o2 m.ports.length oc2)):=Mod.setCell (F:=fun i=>i=w.heap.size) (Mod.refl _ _) ⟨w.heap.size,2,none⟩ (.inl rfl) _;have hk16:=(hm6.block _ hl5 (by omega)).trans hk15;have g0:(W5.setCell ⟨w.heap.size,2,none⟩ (.slice o2 m.ports.length oc2)).cell? ⟨w.heap.size+1,0,none⟩=some (.int .u32 0):=by unfold World.cell?;rw[hk16];rfl
 have g1:(W5.setCell ⟨w.heap.size,2,none⟩ (.slice o2 m.ports.length oc2)).cell? ⟨w.heap.size+1,1,none⟩=some (.slice none 0 0):=by unfold World.cell?;rw[hk16];rfl
 have g2:(W5.setCell ⟨w.heap.size,2,none⟩ (.slice o2 m.ports.length oc2)).cell? ⟨w.heap.size+1,2,none⟩=some (.slice none 0 0):=by unfold World.cell?;rw[hk16];rfl
 have g3:(W5.setCell ⟨w.heap.size,2,none⟩ (.slice o2 m.ports.length oc2)).cell? ⟨w.heap.size+1,3,none⟩=some (.bool false):=by unfold World.cell?;rw[hk16];rfl
 have gf:∀i,(W5.setCell ⟨w.heap.size,2,none⟩ (.slice o2 m.ports.length oc2)).frozen? ⟨w.heap.size+1,i,none⟩=false:=fun i=>by unfold World.frozen?;rw[hk16];simp
 have hz6:(W5.setCell ⟨w.heap.size,2,none⟩ (.slice o2 m.ports.length oc2)).heap.size=W5.heap.size:=by simp[World.setCell]
 have HG:=Lh (And.intro hk16 (And.intro hm6 hz6));clear hk16 hm6 hz6 hl5;rw[hW2] at hr1 c0 c1 c2 c3;rw[hW4] at hr2 e0 e1 e2 e3;have H1:=Lh hr1;have H2:=Lh hr2;have df1:=df 1;have ff2:=ff 2;have HK:=Lh (And.intro hk05 hk15);have HS:=Lh (And.intro hs14 (And.intro hs2 (And.intro ho1 ho2)));have HZ:=Lh (And.intro hb5 (And.intro hbw4 (And.intro hz4 (And.intro hz2 (And.intro l0 l1)))));clear hr1 hr2 hk0 hk1 hk0' hk1' hk04 hk14 hk05 hk15 hs1 hs14 hs2 ho1 ho2 hb0 hb1 hb3 hb5 hbw3 hbw4 hm4 hz2 hz4 l0 l1 cf df ef ff HM hm he hp;go_enter func95,ntmps95;go_wp2_with (at_builtin;first|refine wpList_append_run rfl _ _ _ rfl rfl rfl H1.out ?_|refine wpList_append_run rfl _ _ _ rfl rfl rfl H2.out ?_);clear c0 c1 c2 c3 d0 d1 d2 d3 e0 e1 e2 e3 f0 f1 f2 f3 g0 g1 g2 g3 gf df1 ff2;obtain⟨hk16,hm6,hz6⟩:=HG.out;have k1:=heap_setCell_same _ (w.heap.size+1) 3 _ _ (.bool m.con) (heap_setCell_same _ (w.heap.size+1) 2 _ _ (.slice o2 m.ports.length oc2) (heap_setCell_same _ (w.heap.size+1) 1 _ _ (.slice o1 m.ext.length oc1) (heap_setCell_same _ (w.heap.size+1) 0 _ _ (.int .u32 m.pages) hk16)));have hm7:Mod (fun i=>i=w.heap.size+1) (W5.setCell ⟨w.heap.size,2,none⟩ (.slice o2 m.ports.length oc2)) (((((W5.setCell ⟨w.heap.size,2,none⟩ (.slice o2 m.ports.length oc2)).setCell ⟨w.heap.size+1,0,none⟩ (.int .u32 m.pages)).setCell ⟨w.heap.size+1,1,none⟩ (.slice o1 m.ext.length oc1)).setCell ⟨w.heap.size+1,2,none⟩ (.slice o2 m.ports.length oc2)).setCell ⟨w.heap.size+1,3,none⟩ (.bool m.con)):=
  Mod.setCell (F:=fun i=>i=w.heap.size+1) (Mod.setCell (F:=fun i=>i=w.heap.size+1) (Mod.setCell (F:=fun i=>i=w.heap.size+1) (Mod.setCell (F:=fun i=>i=w.heap.size+1) (Mod.refl _ _) ⟨w.heap.size+1,0,none⟩ (.inl rfl) _) ⟨w.heap.size+1,1,none⟩ (.inl rfl) _) ⟨w.heap.size+1,2,none⟩ (.inl rfl) _) ⟨w.heap.size+1,3,none⟩ (.inl rfl) _
 generalize (((((W5.setCell ⟨w.heap.size,2,none⟩ (.slice o2 m.ports.length oc2)).setCell ⟨w.heap.size+1,0,none⟩ (.int .u32 m.pages)).setCell ⟨w.heap.size+1,1,none⟩ (.slice o1 m.ext.length oc1)).setCell ⟨w.heap.size+1,2,none⟩ (.slice o2 m.ports.length oc2)).setCell ⟨w.heap.size+1,3,none⟩ (.bool m.con))=W7 at*;obtain⟨q0,q1,q2,q3,_⟩:=man_cells (m:=m) (ev:=.slice o1 m.ext.length oc1) (pv:=.slice o2 m.ports.length oc2) k1;obtain⟨hs14,hs2,ho1,ho2⟩:=HS.out;obtain⟨hb5,hbw4,hz4,hz2,l0,l1⟩:=HZ.out;have z5:=hb5.size;have z7:=hm7.size;have hpost:CopyPost w m (.returned (.agg #[.int .u32 m.pages,.slice o1 m.ext.length oc1,.slice o2 m.ports.length oc2,.bool m.con])) W7:=by
  refine⟨.slice o1 m.ext.length oc1,.slice o2 m.ports.length oc2,rfl,⟨((hs14.below hb5).mod hm6 fun k hk e=> ?_).mod hm7 fun k hk e=> ?_,(hs2.mod hm6 fun k hk e=> ?_).mod hm7 fun k hk e=> ?_⟩,fun k hk=> ?_,Mod.below (Mod.below (bQ hbw4 hb5) hm6 (bQ hbw4 hb5).size fun k _ hk=>Nat.le_of_eq hk.symm) hm7 (by omega) fun k _ hk=>by omega⟩
  ·have:=(ho1 k hk).1;omega
  ·have:=(ho1 k hk).1;omega
  ·have:=(ho2 k hk).1;omega
  ·have:=(ho2 k hk).1;omega
  ·rcases hk with hk|hk
   ·have:=ho1 k hk;omega
   ·have:=ho2 k hk;omega
 clear hs14 hs2 ho1 ho2 hb5 hbw4 hm6 hm7 k1 hk16;exact bodyPost_ret (v:=.agg #[.int .u32 m.pages,.slice o1 m.ext.length oc1,.slice o2 m.ports.length oc2,.bool m.con]) (by simp[results,Tryz.results95,go_sem, *]) rfl hpost
end R11
namespace Rw
section
variable {W:World} {t e:TypeId} {i0:TypeInfo} {z:Value} {s bytes:Nat}
def None(t:TypeId):Prop:=∀(W:World) (o:Option Addr) (n c:Nat) (a:Option Addr) (cap:Nat),n≤c→(Builtin.append_ #[t,t] t #[.slice o n c,.slice a 0 cap]).run Tryz.prog W=.ok (.slice o n c) W
theorem none_gr:None 174:=fun W o n c a cap hnc=>by
 have hu:=Tryz.underlying174;cases a<;>cases o<;>go_simp
theorem _root_.Go.Proofs.YtehihecknhcggaaGreat.SlV.ncap{w:World}{e:TypeId}{s n c:Nat}{o:Option Addr}{xs:List Value}(h:SlV w e s (.slice o n c) n xs):n≤c:=by
 rcases h.2 with⟨h0,_⟩|⟨g,off,cap,cur,hv,hg,h1,_⟩
 ·omega
 ·cases hv;omega
theorem app(hno:None t)(ht:Tryz.prog.underlying t=some (.slice e))(hi:Tryz.prog.info? e=some i0)(hz:i0.zero=some z)(hsz:i0.size=s)(hby:i0.bytes=bytes)(hzs:z.cells.size=s)(hs0:0<s)(hb8:bytes≤1000)
  {o:Option Addr} {n c:Nat} {xs:List Value} (h:SlV W e s (.slice o n c) n xs) {a:Option Addr} {m cap:Nat} {ys:List Value} (hl:ys.length=m*s) (hc:Cl.At W a ys) (hn:n+m≤2000000) (h1:∀u,u∈ys→u.oneCell'=true):
  ∃o' c' W',(Builtin.append_ #[t,t] t #[.slice o n c,.slice a m cap]).run Tryz.prog W=.ok (.slice o' (n+m) c') W'∧SlV W' e s (.slice o' (n+m) c') (n+m) (xs++ys)∧Mod (fun k=>(Value.slice o n c).ownBlock=some k) W W'∧((Value.slice o' (n+m) c').ownBlock=(Value.slice o n c).ownBlock∨∃k,(Value.slice o' (n+m) c').ownBlock=some k∧W.heap.size≤k∧k<W'.heap.size):=by
 by_cases h0:m=0
 ·subst h0;obtain rfl:ys=[]:=List.length_eq_zero_iff.1 (by omega);exact⟨o,c,W,hno W o n c a cap h.ncap,by rw[List.append_nil];exact h,Mod.refl _ _,.inl rfl⟩
 ·have hm:0<m:=by omega
  have hms:0<m*s:=Nat.mul_pos hm hs0;obtain⟨u,hu⟩:∃u,ys[0]? =some u:=⟨_,Zg (by omega)⟩;obtain⟨g,off,rfl,_⟩:=hc 0 u hu;have hbb:(n+m)*bytes≤140737488355328:=Nat.le_trans (Nat.mul_le_mul (show n+m≤2000000 from hn) hb8) (by decide);obtain⟨v',w',hrun,r1,r2,r3⟩:=h.append (P:=Tryz.prog) (t:=t) (bytes:=bytes) t i0 z ht hi hz hsz hby hzs hs0 ⟨g,off,none⟩ m cap ys hm hl (fun j u hu=>by
   obtain⟨g',o',e',hcc⟩:=hc j u hu;simp only[Option.some.injEq,Addr.mk.injEq,and_true] at e';obtain⟨rfl,rfl⟩:=e';rw[Addr.add_lit];exact hcc) h1 (by unfold maxLen;omega) hbb
  obtain⟨o',c',rfl⟩:=r1.form;refine⟨o',c',w',hrun,r1,r2, ?_⟩;rcases r3 with q|⟨k,q,qk⟩
  ·exact .inl q
  ·refine .inr ⟨k,q,qk, ?_⟩;obtain⟨k',hk',hkl⟩:=r1.lt (by omega);rw[q] at hk';cases hk';exact hkl
theorem at_part{o:Option Addr}{n c:Nat}{xs:List Value}(h:SlV W e s (.slice o n c) n xs){g off:Nat}(ho:o=some ⟨g,off,none⟩)(i j:Nat)(hij:i≤j)(hj:j≤n):Cl.At W (some ⟨g,off+i*s,none⟩) ((xs.drop (i*s)).take ((j - i)*s)):=fun k u hu=>by
 have hk:=(List.getElem?_eq_some_iff.1 hu).1;have hkl:k<(j - i)*s:=by rw[List.length_take] at hk;omega
 rw[List.getElem?_take_of_lt hkl,List.getElem?_drop] at hu;refine⟨g,off+i*s,rfl, ?_⟩;subst ho;have hb:i*s+k<n*s:=by
  have h2:(j - i)*s=j*s - i*s:=Nat.sub_mul ..;have h3:j*s≤n*s:=Nat.mul_le_mul_right _ hj;omega
 rw[Nat.add_assoc,h.cell (i*s+k) hb];exact hu
end
theorem step_run{P:Program}{w w':World}{ops:Array Oper}{o:Oper}{ac:Act}{K:Act→World→Prop}{Q:Exit→Act→World→Prop}{E:Prop}(hgd:o.guard=none)(sl x:Operand)(t:TypeId)
  (ho:o.op=.call {callee:=.builtin .append,args:= #[sl,x],argTypes:= #[t,t]}) {v y v':Value} (hs:ac.eval sl=v) (hx:ac.eval x=y) (hrun:(Builtin.append_ #[t,t] o.type #[v,y]).run P w=.ok v' w')
  (hK:K (ac.put o.dst v') w'):if Region.wanted o (yielded ops ac.tmps)=true then Oper.wp P o ac w K Q else E:=by
 have hw:Region.wanted o (yielded ops ac.tmps)=true:=by simp[Region.wanted,hgd]
 rw[if_pos hw];unfold Oper.wp;simp[execOp,ho,resolve,invoke,builtin,hs,hx,hrun,Result.andThen];exact hK
end Rw
end Go.Proofs.YtehihecknhcggaaGreat
namespace Go.Proofs.YtehihecknhcggaaGreat.Fz
open Go.RowKit Word
structure GS(B rc rb pb xb:Nat)(s:ByteArray)(x:Fr)(ev pv:Value)(w:World)(k:Nat)(sv:Value)(r:List UInt8):Prop where
 fr:FrR w rb pb s k
 kle:k≤s.size
 drp:(tl s).drop k=r
 cel:w.heap[rc]? =some (.cells #[.pointer (some ⟨rb,0,none⟩)] 309 (0,0))
 box:FBox w xb x ev pv sv
 row:SlV w 151 4 sv x.sp.length (pgC x.sp)
 own:∀g,sv.ownBlock=some g→B≤g∧g<w.heap.size
 lt:rc<B∧rb<B∧pb<B∧xb<B
 ne:xb≠rc∧xb≠rb∧xb≠pb∧rc≠rb∧rc≠pb
 bb:B≤w.heap.size
section
variable {B rc rb pb xb:Nat} {s:ByteArray} {x:Fr} {ev pv:Value} {w w':World} {k k':Nat} {sv:Value} {r r':List UInt8}
theorem GS.c0(h:GS B rc rb pb xb s x ev pv w k sv r):w.cell? ⟨rc,0,none⟩=some (.pointer (some ⟨rb,0,none⟩)):=by unfold World.cell?;rw[h.cel];rfl
theorem GS.read(h:GS B rc rb pb xb s x ev pv w k sv r)(hf:FrR w' rb pb s k')(hk:k'≤s.size)(hd:(tl s).drop k'=r')(hm:Mod (fun i=>i=pb) w w'):GS B rc rb pb xb s x ev pv w' k' sv r':=
 ⟨hf,hk,hd,(hm.block _ (lQ h.cel) h.ne.2.2.2.2).trans h.cel,h.box.keep hm h.ne.2.2.1,h.row.keep fun g hg=>by
  have h1:=h.own g hg;have h2:=h.lt.2.2.1;exact hm.block g h1.2 (by omega),fun g hg=>⟨(h.own g hg).1,Nat.lt_of_lt_of_le (h.own g hg).2 hm.size⟩,h.lt,h.ne,Nat.le_trans h.bb hm.size⟩
theorem GS.below(h:GS B rc rb pb xb s x ev pv w k sv r)(hb:Below w.heap.size w w'):GS B rc rb pb xb s x ev pv w' k sv r:=
 ⟨h.fr.keep (Mod.of_below hb fun _=>False) id id,h.kle,h.drp,(hb.block _ (lQ h.cel)).trans h.cel,h.box.keep (Mod.of_below hb fun _=>False) id,h.row.keep fun g hg=>hb.block g (h.own g hg).2,fun g hg=>⟨(h.own g hg).1,Nat.lt_of_lt_of_le (h.own g hg).2 hb.size⟩,h.lt,h.ne,Nat.le_trans h.bb hb.size⟩
theorem GS.off(h:GS B rc rb pb xb s x ev pv w k sv r){q:Nat}(hq:B≤q)(hn:∀g,sv.ownBlock=some g→g≠q)(i:Nat)(v:Value):GS B rc rb pb xb s x ev pv (w.setCell ⟨q,i,none⟩ v) k sv r:=by
 have hm:Mod (fun j=>j=q) w (w.setCell ⟨q,i,none⟩ v):=Mod.setCell (F:=fun j=>j=q) (Mod.refl _ _) ⟨q,i,none⟩ (.inl rfl) _;obtain⟨l1,l2,l3,l4⟩:=h.lt;exact⟨h.fr.keep hm (by omega) (by omega),h.kle,h.drp,(hm.block _ (lQ h.cel) (by omega)).trans h.cel,h.box.keep hm (by omega),h.row.keep fun g hg=>hm.block g (h.own g hg).2 (hn g hg),fun g hg=>⟨(h.own g hg).1,Nat.lt_of_lt_of_le (h.own g hg).2 hm.size⟩,h.lt,h.ne,Nat.le_trans h.bb hm.size⟩
theorem GS.pages(h:GS B rc rb pb xb s x ev pv w k sv r){n:Nat}(hn:n=1∨n=2∨n=4)(hs:s.size≤maxLen){v:Int}(hf:fitN v n)(hr:r=pL v n++r'):
  Calls Tryz.prog 179 #[.pointer (some ⟨rb,0,none⟩),.int .i64 n] w fun e w'=>e=.returned (.int .u32 v)∧GS B rc rb pb xb s x ev pv w' (k+n) sv r'∧Mod (fun i=>i=pb) w w':=
 (numV h.fr hs h.kle hn hf (h.drp.trans hr)).mono fun e w' ⟨he,h1,h2,h3,h4⟩=>⟨he,h.read h1 h3 h4 h2,h2⟩
theorem info_page:(Tryz.prog.info? 151).map (fun i=>(i.zero,i.size,i.bytes))=some (some (.agg #[.int .u32 0,.int .u8 0,.bool false,.string ByteArray.empty]),4,24):=by kernel_rfl
theorem get3(h:GS B rc rb pb xb s x ev pv w k sv r)(hs:s.size≤maxLen){p:Fp}(ha:0≤p.addr∧p.addr≤4294967295)(hp:0≤p.perm∧p.perm<256)(ht:p.text.size=256)(hr:r=pageL p++r')(hl:x.sp.length≤70000):
  Calls Tryz.prog 183 #[.pointer (some ⟨rc,0,none⟩),.pointer (some ⟨xb,0,none⟩)] w fun e w'=>e=.returned (.tuple #[])∧∃k' sv',GS B rc rb pb xb s {x with sp:=x.sp++[p]} ev pv w' k' sv' r'∧Mod (fun i=>i=pb∨i=xb∨sv.ownBlock=some i) w w':=by
 obtain⟨so,sc,rfl⟩:=h.row.form;obtain⟨pa,pp,po,pt⟩:=p;simp only at ha hp ht;unfold pageL at hr;simp only[List.append_assoc] at hr;have HN:=Lh (h.pages (.inr (.inr rfl)) hs (v:=pa) ⟨ha.1,by show pa<256 ^ 4;omega⟩ hr);have HS:=Lh hs;have HL:=Lh hl;have HT:=Lh ht;have HP:=Lh hp;have iw:IntKind.u8.wrap pp=pp:=by rw[IntKind.wrap_u8];omega
 have c0:=h.c0;clear h hs hl ht hp ha hr;go_enter func183,ntmps183;go_wp2_with fail;refine HN.out.mono ?_;rintro e w1 ⟨rfl,h1,m1⟩;have hb1:Below w1.heap.size w1 (w1.alloc (.cells #[.int .u32 pa,.int .u8 0,.bool false,.string {data:= #[]}] 151)):=Ba _;have hx1:=heap_alloc_new w1 (.cells #[.int .u32 pa,.int .u8 0,.bool false,.string {data:= #[]}] 151);have h2:=h1.below hb1;have m2:=m1.same (Mod.of_below hb1 _);have hB1:=h1.bb;have hs1:w.heap.size≤w1.heap.size:=m1.size;have c2:=h2.c0;obtain⟨w2,hw2⟩:∃w2,w1.alloc (.cells #[.int .u32 pa,.int .u8 0,.bool false,.string {data:= #[]}] 151)=w2:=⟨_,rfl⟩;obtain⟨qb,hqb⟩:∃qb,w1.heap.size=qb:=⟨_,rfl⟩;rw[hw2] at hb1 hx1 h2 m2;rw[hqb] at hx1 hB1 hs1;have H2:=Lh h2;have M2:=Lh m2;have X2:=Lh hx1;have HB:=Lh (And.intro hB1 hs1);have ho:∀g,(Value.slice so x.sp.length sc).ownBlock=some g→g≠qb:=fun g hg e=>by
  have:=(h1.own g hg).2;omega
 have HO:=Lh ho;clear ho;have HW2:=Lh hw2;have HQb:=Lh hqb;clear h1 m1 HN hb1 hx1 h2 m2 hB1 hs1 hw2 hqb;have HN2:=Lh (H2.out.pages (.inl rfl) HS.out (v:=pp) ⟨HP.out.1,by have:=HP.out.2;show pp<256 ^ 1;omega⟩ rfl);go_wp2_with fail;rw[HW2.out];rw[HQb.out];refine HN2.out.mono ?_;rintro e w3 ⟨rfl,h3,m3⟩;have x3:=(m3.block _ (lQ X2.out) (by have:=HB.out.1;have:=H2.out.lt.2.2.1;omega)).trans X2.out;have f3:∀i,w3.frozen? ⟨qb,i,none⟩=false:=fun i=>by unfold World.frozen?;rw[x3];simp
 have f3':=f3 1;have e3:w3.cell? ⟨qb,1,none⟩=some (.int .u8 0):=by unfold World.cell?;rw[x3];rfl
 have H3:=Lh h3;have M3:=Lh (M2.out.same m3);have X3:=Lh x3;clear h3 m3 x3 f3 HN2 H2 M2 X2 c2;have x4:=heap_setCell_same w3 qb 1 _ _ (.int .u8 pp) X3.out;have h4:GS B rc rb pb xb s x ev pv (w3.setCell ⟨qb,1,none⟩ (.int .u8 pp)) _ (.slice so x.sp.length sc) _:=H3.out.off HB.out.1 HO.out _ _;have m4:Mod (fun i=>i=pb) w (w3.setCell ⟨qb,1,none⟩ (.int .u8 pp)):=M3.out.setCell _ (.inr HB.out.2) _;have c3:=H3.out.c0;have n1:¬(rc=qb):=by have:=HB.out.1;have:=H3.out.lt.1;omega
 have n2:¬(qb=rc):=fun e=>n1 e.symm
 have n3:¬(rb=qb):=by have:=HB.out.1;have:=H3.out.lt.2.1;omega
 have n4:¬(qb=rb):=fun e=>n3 e.symm
 have n5:¬(xb=qb):=by have:=HB.out.1;have:=H3.out.lt.2.2.2;omega
 have n6:¬(qb=xb):=fun e=>n5 e.symm
 have c4:=h4.c0;have HN4:=Lh (h4.pages (.inl rfl) HS.out (v:=bit01 po) (by cases po<;>exact⟨by decide,by decide⟩) rfl);have X4:=Lh x4;have M4:=Lh m4;have hlt4:pb<B:=h4.lt.2.2.1;clear x4 h4 m4 c0 H3 M3;go_wp2_with fail;refine HN4.out.mono ?_;rintro e w5 ⟨rfl,h5,m5⟩;have x5:=(m5.block _ (lQ X4.out) (by have:=HB.out.1;omega)).trans X4.out;have f5:w5.frozen? ⟨qb,2,none⟩=false:=by unfold World.frozen?;rw[x5];simp
 have e5:w5.cell? ⟨qb,2,none⟩=some (.bool false):=by unfold World.cell?;rw[x5];rfl
 have hb5:(bit01 po == 1)=po:=by cases po<;>rfl
 have m5:=M4.out.same m5;have x6:=heap_setCell_same w5 qb 2 _ _ (.bool po) x5;have h6:GS B rc rb pb xb s x ev pv (w5.setCell ⟨qb,2,none⟩ (.bool po)) _ (.slice so x.sp.length sc) _:=h5.off HB.out.1 HO.out _ _;have m6:Mod (fun i=>i=pb) w (w5.setCell ⟨qb,2,none⟩ (.bool po)):=m5.setCell _ (.inr HB.out.2) _;have c5:=h5.c0;have d5:w5.cell? ⟨rb,0,none⟩=some (.pointer (some ⟨pb,0,none⟩)):=by unfold World.cell?;rw[h5.fr.h];rfl
 have c6:=h6.c0;have d6:(w5.setCell ⟨qb,2,none⟩ (.bool po)).cell? ⟨rb,0,none⟩=some (.pointer (some ⟨pb,0,none⟩)):=by unfold World.cell?;rw[h6.fr.h];rfl
 have HT6:=Lh (takeV h6.fr.r HS.out h6.kle HT.out h6.drp);have H6:=Lh h6;have X6:=Lh x6;have M6:=Lh m6;clear h5 x5 m5 x6 h6 m6 HN4 X4 M4 c4 c3;go_wp2_with fail;refine HT6.out.mono ?_;rintro e w7 ⟨rfl,h7,m7,k7,d7⟩;have x7:=(m7.block _ (lQ X6.out) (by have:=HB.out.1;omega)).trans X6.out;have f7:w7.frozen? ⟨qb,3,none⟩=false:=by unfold World.frozen?;rw[x7];simp
 have e7:w7.cell? ⟨qb,3,none⟩=some (.string {data:= #[]}):=by unfold World.cell?;rw[x7];rfl
 have g7:GS B rc rb pb xb s x ev pv w7 _ (.slice so x.sp.length sc) r':=H6.out.read ⟨h7,(m7.block _ (lQ H6.out.fr.h) H6.out.fr.ne).trans H6.out.fr.h⟩ k7 d7 m7;have m7:=M6.out.same m7;have x8:=heap_setCell_same w7 qb 3 _ _ (.string pt) x7;have h8:GS B rc rb pb xb s x ev pv (w7.setCell ⟨qb,3,none⟩ (.string pt)) _ (.slice so x.sp.length sc) _:=g7.off HB.out.1 HO.out _ _;have m8:Mod (fun i=>i=pb) w (w7.setCell ⟨qb,3,none⟩ (.string pt)):=m7.setCell _ (.inr HB.out.2) _;have x8:(w7.setCell ⟨qb,3,none⟩ (.string pt)).heap[qb]? =some (.cells #[.int .u32 pa,.int .u8 pp,.bool po,.string pt] 151 (0,0)):=x8;have q0:(w7.setCell ⟨qb,3,none⟩ (.string pt)).cell? ⟨qb,0,none⟩=some (.int .u32 pa):=by unfold World.cell?;rw[x8];rfl
 have q1:(w7.setCell ⟨qb,3,none⟩ (.string pt)).cell? ⟨qb,1,none⟩=some (.int .u8 pp):=by unfold World.cell?;rw[x8];rfl
 have q2:(w7.setCell ⟨qb,3,none⟩ (.string pt)).cell? ⟨qb,2,none⟩=some (.bool po):=by unfold World.cell?;rw[x8];rfl
 have q3:(w7.setCell ⟨qb,3,none⟩ (.string pt)).cell? ⟨qb,3,none⟩=some (.string pt):=by unfold World.cell?;rw[x8];rfl
 have b8:(w7.setCell ⟨qb,3,none⟩ (.string pt)).cell? ⟨xb,21,none⟩=some (.slice so x.sp.length sc):=h8.box.cell 21 _ rfl;have r0:w7.cell? ⟨qb,0,none⟩=some (.int .u32 pa):=by unfold World.cell?;rw[x7];rfl
 have r1:w7.cell? ⟨qb,1,none⟩=some (.int .u8 pp):=by unfold World.cell?;rw[x7];rfl
 have r2:w7.cell? ⟨qb,2,none⟩=some (.bool po):=by unfold World.cell?;rw[x7];rfl
 have r3:w7.cell? ⟨xb,21,none⟩=some (.slice so x.sp.length sc):=g7.box.cell 21 _ rfl;have hb9:Below (w7.setCell ⟨qb,3,none⟩ (.string pt)).heap.size (w7.setCell ⟨qb,3,none⟩ (.string pt)) ((w7.setCell ⟨qb,3,none⟩ (.string pt)).alloc (.cells #[.int .u32 pa,.int .u8 pp,.bool po,.string pt] 151)):=Ba _;have n9:=heap_alloc_new (w7.setCell ⟨qb,3,none⟩ (.string pt)) (.cells #[.int .u32 pa,.int .u8 pp,.bool po,.string pt] 151);have hzs:(w7.setCell ⟨qb,3,none⟩ (.string pt)).heap.size=w7.heap.size:=by simp[World.setCell]
 rw[hzs] at n9;have H9:=Lh (h8.below hb9);have M9:=Lh (m8.same (Mod.of_below hb9 _));have N9:=Lh n9;have hsz:w.heap.size≤(w7.setCell ⟨qb,3,none⟩ (.string pt)).heap.size:=m8.size;have HSz:=Lh hsz;clear hzs h7 k7 d7 x7 g7 m7 x8 h8 m8 hb9 n9 HT6 H6 X6 M6 c6 d6 hsz c5 d5;obtain⟨i0,hi0,hz0,hz1,hz2⟩:=info_parts info_page;have hll:=HL.out;obtain⟨v10,w10,hrun,r10,m10,o10⟩:=H9.out.row.append (P:=Tryz.prog) (t:=50) (bytes:=24) 50 i0 _ Tryz.underlying50 hi0 hz0 hz1 hz2 rfl (by decide) ⟨w7.heap.size,0,none⟩ 1 1 [.int .u32 pa,.int .u8 pp,.bool po,.string pt] (by decide) rfl (fun j u hu=>by rw[Addr.add_lit];unfold World.cell?;simp only[Nat.zero_add];rw[N9.out];simpa using hu) (fun u hu=>by simp at hu;rcases hu with rfl|rfl|rfl|rfl<;>rfl) (by unfold maxLen;omega) (by omega);obtain⟨s10,k10,rfl⟩:=r10.form;have HX:=Lh H9.out.ne;have HLt:=Lh H9.out.lt;have hno:∀g,(Value.slice so x.sp.length sc).ownBlock=some g→B≤g:=fun g hg=>(H9.out.own g hg).1
 have h10:FBox w10 xb x ev pv (.slice so x.sp.length sc):=H9.out.box.keep m10 fun e=>by have:=hno _ e;have:=HLt.out.2.2.2;omega
 have q10:w10.cell? ⟨xb,21,none⟩=some (.slice so x.sp.length sc):=h10.cell 21 _ rfl;have f10:w10.frozen? ⟨xb,21,none⟩=false:=h10.thaw 21;have hg10:GS B rc rb pb xb s {x with sp:=x.sp++[⟨pa,pp,po,pt⟩]} ev pv (w10.setCell ⟨xb,21,none⟩ (.slice s10 (x.sp.length+1) k10)) (k+4+1+1+256) (.slice s10 (x.sp.length+1) k10) r':=by
  have hm:Mod (fun j=>j=xb) w10 (w10.setCell ⟨xb,21,none⟩ (.slice s10 (x.sp.length+1) k10)):=Mod.setCell (F:=fun j=>j=xb) (Mod.refl _ _) ⟨xb,21,none⟩ (.inl rfl) _;obtain⟨l1,l2,l3,l4⟩:=HLt.out;obtain⟨n1,n2,n3,n4,n5⟩:=HX.out;have hsz:=m10.size;have hbb:=H9.out.bb;have ho:∀g,(Value.slice s10 (x.sp.length+1) k10).ownBlock=some g→B≤g∧g<w10.heap.size:=fun g hg=>by
   obtain⟨g',e1,e2⟩:=r10.lt (by omega);rw[hg] at e1;cases e1;refine⟨?_,e2⟩;rcases o10 with q|⟨z,q,qz⟩
   ·rw[q] at hg;exact hno _ hg
   ·rw[q] at hg;cases hg;omega
  have lo:∀z,z<B→¬(Value.slice so x.sp.length sc).ownBlock=some z:=fun z hz e=>by have:=hno _ e;omega
  exact⟨(H9.out.fr.keep m10 (lo _ l3) (lo _ l2)).keep hm (fun e=>n3 e.symm) (fun e=>n2 e.symm),H9.out.kle,H9.out.drp,(hm.block _ (by omega) fun e=>n1 e.symm).trans ((m10.block _ (by omega) (lo _ l1)).trans H9.out.cel),h10.set 21 _ rfl,by
   have:(x.sp++[(⟨pa,pp,po,pt⟩:Fp)]).length=x.sp.length+1:=by simp
   show SlV _ _ 4 _ (x.sp++[(⟨pa,pp,po,pt⟩:Fp)]).length (pgC (x.sp++[⟨pa,pp,po,pt⟩]))
   rw[this,pgC_app];exact r10.keep fun g hg=>hm.block g (ho g hg).2 (by have:=(ho g hg).1;omega),fun g hg=>⟨(ho g hg).1,Nat.lt_of_lt_of_le (ho g hg).2 hm.size⟩,H9.out.lt,H9.out.ne,by have:=hm.size;omega⟩
 have hm10:Mod (fun i=>i=pb∨i=xb∨(Value.slice so x.sp.length sc).ownBlock=some i) w (w10.setCell ⟨xb,21,none⟩ (.slice s10 (x.sp.length+1) k10)):=
  ((M9.out.mono fun i _ e=>.inl e).same (m10.mono fun i _ e=>.inr (.inr e))).setCell ⟨xb,21,none⟩ (.inl (.inr (.inl rfl))) _
 have HG:=Lh (And.intro hg10 hm10);have HRun:=Lh hrun;clear hrun r10 m10 o10 hno h10 hg10 hm10 H9 M9 N9 HX HLt HSz i0 hi0 hz0 hz1 hz2;go_wp2_with (at_builtin;refine R11.wpList_append_run rfl _ _ _ rfl rfl rfl HRun.out ?_)
 first|exact⟨rfl,_,_,HG.out.1,HG.out.2⟩|(go_end0;exact⟨rfl,_,_,HG.out.1,HG.out.2⟩)
end
end Go.Proofs.YtehihecknhcggaaGreat.Fz
namespace Go.Proofs.YtehihecknhcggaaGreat.Fz
open Go.RowKit Word
section
variable {P:Program} {Q:Exit→Act→World→Prop} {md:Region.Mode} {S:World→Prop}
theorem TN{l:List Oper}{oi:Oper}{fuel:Nat}{listed:Array Bool}{a a':Act}{w:World}(i:Nat)(hS:S w)
  (h:wpAnyH P md l.toArray Q S fuel (listed.setIfInBounds i true) a' w)
  (hi:l[i]? =some oi:=by rfl) (hs:Region.noSelect l.toArray=true:=by kernel_rfl) (hf:Region.free md l.toArray listed i=true:=by kernel_rfl) (hr:(Region.ready md l.toArray listed).contains i=true:=by kernel_rfl)
  (hw:Region.wanted oi (yielded l.toArray a.tmps)=false:=by rfl)
  (hQ:∀c a w,Q (.panic c) (a.put oi.dst undef) w→Q (.panic c) a w:=by exact fun _ _ _ h=>h)
  (ha:a.put oi.dst undef=a':=by simp only[Act.put,Za,Zb,Zc,Zd,Ze,Zf];rfl):wpAnyH P md l.toArray Q S (fuel+1) listed a w:=by
 subst ha;exact wpAnyH_take (by rw[List.getElem?_toArray];exact hi) hs hf hr hQ (Or.inr ⟨hw,rfl⟩) hS h
end
theorem owns_take(l:List Fp)(i:Nat)(hi:i<l.length):owns (l.take (i+1))=owns (l.take i)+(if l[i].own=true then 1 else 0):=by
 unfold owns;rw[List.take_succ_eq_append_getElem hi,List.filter_append,List.length_append]
 congr 1
 by_cases h:l[i].own=true
 ·rw[if_pos h,List.filter_cons_of_pos h];rfl
 ·rw[if_neg h,List.filter_cons_of_neg h];rfl
theorem owns_le(l:List Fp):owns l≤l.length:=List.length_filter_le ..
theorem pg_cells{w:World}{so:Option Addr}{sc:Nat}{l:List Fp}(h:SlV w 151 4 (.slice so l.length sc) l.length (pgC l)){i:Nat}(hi:i<l.length):
  ∃g off,so=some ⟨g,off,none⟩∧g<w.heap.size∧w.cell? ⟨g,off+i*4,none⟩=some (.int .u32 l[i].addr)∧w.cell? ⟨g,off+i*4+1,none⟩=some (.int .u8 l[i].perm)∧w.cell? ⟨g,off+i*4+2,none⟩=some (.bool l[i].own)∧w.cell? ⟨g,off+i*4+3,none⟩=some (.string l[i].text):=by
 have hx:l[i]? =some l[i]:=Zg hi;have h0:=pgC_at l i _ hx;rcases h.2 with⟨e,_⟩|⟨g,off,cap,cur,hv,hg,_⟩
 ·omega
 ·simp only[Value.slice.injEq,true_and] at hv;obtain⟨rfl,rfl⟩:=hv;have hc:=fun j (hj:j<4)=>h.cell (i*4+j) (by have:(i+1)*4≤l.length*4:=Nat.mul_le_mul_right _ hi;omega)
  refine⟨g,off,rfl,lQ hg, ?_, ?_, ?_, ?_⟩
  ·exact(hc 0 (by omega)).trans ((h0 0 (by omega)).trans rfl)
  ·rw[Nat.add_assoc];exact(hc 1 (by omega)).trans ((h0 1 (by omega)).trans rfl)
  ·rw[Nat.add_assoc];exact(hc 2 (by omega)).trans ((h0 2 (by omega)).trans rfl)
  ·rw[Nat.add_assoc];exact(hc 3 (by omega)).trans ((h0 3 (by omega)).trans rfl)
def Fp.okB(p:Fp):Bool:=decide (p.addr % 256=0)&&decide (p.addr<1048576)&&decide (p.perm≤7)&&decide (p.text.size=256)&&(!p.own||decide (p.perm=3)&&decide (256≤p.addr))
theorem Fp.okB_iff{p:Fp}:p.okB=true↔p.may:=by
 unfold Fp.okB Fp.may;simp only[Bool.and_eq_true,Bool.or_eq_true,decide_eq_true_eq,Bool.not_eq_true',and_assoc]
theorem pageA{p:Fp}(a0:0≤p.addr)(w:World):Calls Tryz.prog 188 #[.agg #[.int .u32 p.addr,.int .u8 p.perm,.bool p.own,.string p.text]] w fun e w'=>e=.returned (.bool p.okB)∧Below w.heap.size w w':=by
 obtain⟨pa,pp,po,pt⟩:=p;simp only at a0;unfold Fp.okB;simp only;have HB:=Lh ((Below.refl w.heap.size w).alloc (Nat.le_refl _) (.cells #[.int .u32 pa,.int .u8 pp,.bool po,.string pt] 151))
 by_cases g1:pa % 256=0
 ·have q1:(pa % 256 != 0)=false:=by rw[g1];rfl
  by_cases g2:(1048576:Int)≤pa
  ·have g2':¬pa<1048576:=by omega
   go_enter func188,ntmps188;go_wp2
   first|exact⟨by simp[g1];intro;omega,HB.out⟩|(go_ret;exact⟨by simp[g1];intro;omega,HB.out⟩)
  ·have g2':pa<1048576:=by omega
   by_cases g3:(7:Int)<pp
   ·have g3':¬pp≤7:=by omega
    go_enter func188,ntmps188;go_wp2
    first|exact⟨by simp[g1];intros;omega,HB.out⟩|(go_ret;exact⟨by simp[g1];intros;omega,HB.out⟩)
   ·have g3':pp≤7:=by omega
    by_cases g4:pt.size=256
    ·have q4:((pt.size:Int) != 256)=false:=by rw[g4];rfl
     cases po with
     |false=>
      go_enter func188,ntmps188;go_wp2
      first|exact⟨by simp[g1,g2',g3',g4],HB.out⟩|(go_ret;exact⟨by simp[g1,g2',g3',g4],HB.out⟩)
     |true=>
      by_cases g5:pp=3
      ·subst g5
       by_cases g6:(256:Int)≤pa
       ·go_enter func188,ntmps188;go_wp2
        first|exact⟨by simp[g1,g2',g3',g4,g6],HB.out⟩|(go_ret;exact⟨by simp[g1,g2',g3',g4,g6],HB.out⟩)
       ·go_enter func188,ntmps188;go_wp2
        first|exact⟨by simp[g1,g2',g3',g4,g6],HB.out⟩|(go_ret;exact⟨by simp[g1,g2',g3',g4,g6],HB.out⟩)
      ·have q5:(pp == 3)=false:=by rw[beq_eq_false_iff_ne];exact g5
       go_enter func188,ntmps188;go_wp2
       first|exact⟨by simp[g1,g2',g3',g4,g5],HB.out⟩|(go_ret;exact⟨by simp[g1,g2',g3',g4,g5],HB.out⟩)
    ·have q4:((pt.size:Int) != 256)=true:=by rw[bne_iff_ne];omega
     go_enter func188,ntmps188;go_wp2
     first|exact⟨by simp[g1,g2',g3',g4],HB.out⟩|(go_ret;exact⟨by simp[g1,g2',g3',g4],HB.out⟩)
 ·have q1:(pa % 256 != 0)=true:=by rw[bne_iff_ne];exact g1
  go_enter func188,ntmps188;go_wp2
  first|exact⟨by simp[g1],HB.out⟩|(go_ret;exact⟨by simp[g1],HB.out⟩)
def good(l:List Fp)(i:Nat):Prop:=(∀p,p∈l.take i→p.may)∧(l.take i).Pairwise fun p q=>p.addr<q.addr
theorem good_zero(l:List Fp):good l 0:=⟨fun p hp=>by simp at hp,by simp⟩
theorem good_all{l:List Fp}(h:good l l.length):(∀p,p∈l→p.may)∧l.Pairwise fun p q=>p.addr<q.addr:=by
 unfold good at h
 rwa [List.take_length] at h
theorem good_succ{l:List Fp}{i:Nat}(hi:i<l.length)(h:good l i)(hm:l[i].may)(hu:∀k (e:i=k+1),l[k].addr<l[i].addr):good l (i+1):=by
 unfold good at h⊢;rw[List.take_succ_eq_append_getElem hi];refine⟨fun p hp=> ?_,List.pairwise_append.2 ⟨h.2,List.pairwise_singleton _ _,fun p hp q hq=> ?_⟩⟩
 ·rcases List.mem_append.1 hp with hp|hp
  ·exact h.1 p hp
  ·rw[List.mem_singleton.1 hp];exact hm
 ·rw[List.mem_singleton.1 hq];cases i with
  |zero=>simp at hp
  |succ k=>
   have h0:=hu k rfl;rw[List.take_succ_eq_append_getElem (by omega)] at hp h;rcases List.mem_append.1 hp with hp|hp
   ·have h1:=(List.pairwise_append.1 h.2).2.2 p hp l[k] (List.mem_singleton.2 rfl);omega
   ·rw[List.mem_singleton.1 hp];exact h0
theorem may_pg{x:Fr}{i:Nat}(hi:i<x.sp.length)(h:x.may):x.sp[i].may:=h.pg _ (List.getElem_mem hi)
theorem may_up{x:Fr}{i:Nat}(hi:i<x.sp.length)(h:x.may)(k:Nat)(e:i=k+1):x.sp[k].addr<x.sp[i].addr:=List.pairwise_iff_getElem.1 h.up k i (by omega) hi (by omega)
theorem check_cases(m:Mn):Gp.checkE m=0∨Gp.checkE m=2:=by
 unfold Gp.checkE
 split
 ·exact .inl rfl
 ·exact .inr rfl
def ckRelA(w1:World)(l:List Fp)(vo vi:Value)(wr:World):Prop:=∃i:Nat,i≤l.length∧vi=.int .i64 i∧vo=.int .u32 (owns (l.take i))∧Below w1.heap.size w1 wr∧good l i
theorem checkA{w:World}{x:Fr}{ev pv sv:Value}(h:FrIn w x ev pv sv)(ho:x.ok)(hl:x.sp.length≤70000):
  Calls Tryz.prog 84 #[.agg (x.arr ev pv sv)] w fun e w'=>(x.may∧e=.returned (.int .i64 0)∨¬x.may∧e=.returned (.int .i64 2))∧Below w.heap.size w w':=by
 obtain⟨so,sc,rfl⟩:=h.s.form;have hb:Below w.heap.size w (w.alloc (.cells (x.arr ev pv (.slice so x.sp.length sc)) 52)):=Ba _;have hx:FBox (w.alloc (.cells (x.arr ev pv (.slice so x.sp.length sc)) 52)) w.heap.size x ev pv (.slice so x.sp.length sc):=heap_alloc_new w _;have h1:=h.below hb;obtain⟨w1,hw1⟩:∃w1,w.alloc (.cells (x.arr ev pv (.slice so x.sp.length sc)) 52)=w1:=⟨_,rfl⟩;obtain⟨xb,hxb⟩:∃b,w.heap.size=b:=⟨_,rfl⟩;rw[hw1] at hb hx h1;rw[hxb] at hx;have HB:=Lh hb;have HX:=Lh hx;have HI:=Lh fun V (hV:Below w1.heap.size w1 V)=>h1.below hV
 have HC:Hid (∀V,Below w1.heap.size w1 V→V.cell? ⟨xb,0,none⟩=some (.int .u32 x.m.pages)∧V.cell? ⟨xb,1,none⟩=some ev∧V.cell? ⟨xb,2,none⟩=some pv∧V.cell? ⟨xb,3,none⟩=some (.bool x.m.con)∧V.cell? ⟨xb,4,none⟩=some (.int .u32 (x.r 0))∧V.cell? ⟨xb,21,none⟩=some (.slice so x.sp.length sc)∧V.cell? ⟨xb,22,none⟩=some (.string x.text)∧True):=Lh fun V hV=>by
  have q:=HX.out.keep (Mod.of_below hV fun _=>False) id;exact⟨q.cell 0 _ rfl,q.cell 1 _ rfl,q.cell 2 _ rfl,q.cell 3 _ rfl,q.cell 4 _ rfl,q.cell 21 _ rfl,q.cell 22 _ rfl,trivial⟩
 have HO:=Lh ho;have HL:=Lh hl;have HDm:=Lh fun V (hV:Below w1.heap.size w1 V)=>Dm.check (h1.below hV).m
 obtain⟨c0,c1,c2,c3,c4,c21,c22,_⟩:=HC.out w1 Br;have HR0:Hid (ckRelA w1 x.sp (.int .u32 0) (.int .i64 0) w1):=Lh ⟨0,Nat.zero_le _,rfl,rfl,Below.refl _ _,good_zero _⟩;clear h ho hl hb hx h1;unfold Fr.arr at hw1⊢;go_enter func84,ntmps84;go_wp2;try rw[hw1]
 try rw[hxb]
 clear hw1 hxb;go_loopw [3,10] (fun vo vi wr=>ckRelA w1 x.sp vo vi wr) (fun _ vi _=>x.sp.length - (intOf vi).toNat)
 case atStart=>exact HR0.out
 case round=>
  clear HR0 c0 c1 c2 c3 c4 c21 c22;obtain⟨i,hi,rfl,rfl,hbw,hgi⟩:=hrel;obtain⟨c0,c1,c2,c3,c4,c21,c22,_⟩:=HC.out wr hbw;have HBw:=Lh hbw;clear hbw
  by_cases hin:i<x.sp.length
  ·have ii:(i:Int)<x.sp.length:=by omega
   have hr:=(HI.out wr HBw.out).s;obtain⟨g,off,rfl,hgl,p0,p1,p2,p3⟩:=pg_cells hr hin;obtain⟨hs1,hs2,hs3⟩:=HO.out.s _ (List.getElem_mem hin);have hgs:=good_succ hin hgi;have hnp:=may_pg hin;have hnu:=may_up hin;have hot:=owns_take x.sp i hin;have hle:=owns_le (x.sp.take i);rw[List.length_take] at hle;have hprev:∀k,i=k+1→∃b,wr.cell? ⟨g,off+k*4,none⟩=some (.int .u32 b)∧(¬x.sp[i].addr≤b→x.sp[i].may→good x.sp (i+1))∧(x.sp[i].addr≤b→¬x.may):=fun k hk=>by
    have hk':k<x.sp.length:=by omega
    obtain⟨g',off',e1,_,q0,_⟩:=pg_cells hr hk';simp only[Option.some.injEq,Addr.mk.injEq,and_true] at e1;obtain⟨rfl,rfl⟩:=e1;refine⟨_,q0,fun h1 h2=>hgs h2 (fun k' e=> ?_),fun h1 h2=> ?_⟩
    ·obtain rfl:k'=k:=by omega
     omega
    ·have:=hnu h2 k hk;omega
   generalize hp:x.sp[i]=p at*;obtain⟨pa,pp,po,pt⟩:=p;simp only at p0 p1 p2 p3 hs1 hot;have hb2:Below wr.heap.size wr (wr.alloc (.cells #[.int .u32 pa,.int .u8 pp,.bool po,.string pt] 151)):=Ba _;have hx2:=heap_alloc_new wr (.cells #[.int .u32 pa,.int .u8 pp,.bool po,.string pt] 151);have HPg:=Lh fun V=>pageA (p:=⟨pa,pp,po,pt⟩) hs1.1 V
   have HB2:=Lh (bQ HBw.out hb2);have HHb2:=Lh hb2;have HX2:=Lh hx2;have HOt:=Lh hot;have HLe:=Lh hle;have HC2:Hid (∀V,Below (wr.alloc (.cells #[.int .u32 pa,.int .u8 pp,.bool po,.string pt] 151)).heap.size (wr.alloc (.cells #[.int .u32 pa,.int .u8 pp,.bool po,.string pt] 151)) V→V.cell? ⟨wr.heap.size,0,none⟩=some (.int .u32 pa)∧V.cell? ⟨wr.heap.size,1,none⟩=some (.int .u8 pp)∧V.cell? ⟨wr.heap.size,2,none⟩=some (.bool po)∧V.cell? ⟨wr.heap.size,3,none⟩=some (.string pt)∧V.cell? ⟨xb,21,none⟩=some (.slice (some ⟨g,off,none⟩) x.sp.length sc)∧V.cell? ⟨g,off+i*4,none⟩=some (.int .u32 pa)∧(∀k b,wr.cell? ⟨g,off+k*4,none⟩=some (.int .u32 b)→V.cell? ⟨g,off+k*4,none⟩=some (.int .u32 b))):=Lh fun V hV=>by
    have q:=(hV.block _ (lQ hx2)).trans hx2;have hv2:=bQ hb2 hV;refine⟨?_, ?_, ?_, ?_,(HC.out V (bQ HBw.out hv2)).2.2.2.2.2.1,cellK hv2 p0,fun k b hkb=>cellK hv2 hkb⟩<;>(unfold World.cell?;rw[q];rfl)
   have hiw:(i:Int)≤70000:=by have:=HL.out;omega
   have iw1:IntKind.i64.wrap ((i:Int)+1)=(i:Int)+1:=by rw[IntKind.wrap_i64];omega
   have iw2:IntKind.u32.wrap ((owns (x.sp.take i):Int)+1)=(owns (x.sp.take i):Int)+1:=by have:=HL.out;rw[IntKind.wrap_u32];omega
   clear hr hs2 hs3 hot hle hb2 hx2 hs1 hiw hnu hgi;obtain⟨w2,hw2⟩:∃w2,wr.alloc (.cells #[.int .u32 pa,.int .u8 pp,.bool po,.string pt] 151)=w2:=⟨_,rfl⟩;obtain⟨qb,hqb⟩:∃b,wr.heap.size=b:=⟨_,rfl⟩;rw[hw2] at HB2 HHb2 HX2 HC2;rw[hqb] at HX2 HC2
   by_cases hok:(Fp.okB ⟨pa,pp,po,pt⟩)=true
   ·have hpm:(⟨pa,pp,po,pt⟩:Fp).may:=Fp.okB_iff.1 hok;simp only[hok] at HPg
    by_cases h0:i=0
    ·subst h0;have hgd:good x.sp (0+1):=hgs hpm fun k e=>by omega
     clear hgs hnp hprev hok hpm;rw[Nat.zero_mul,Nat.add_zero] at p0 p1 p2 p3;have HS:Hid (∀V,Below w2.heap.size w2 V→(fun V=>V.cell? ⟨qb,0,none⟩=some (.int .u32 pa)∧V.cell? ⟨qb,1,none⟩=some (.int .u8 pp)∧V.cell? ⟨qb,2,none⟩=some (.bool po)∧V.cell? ⟨qb,3,none⟩=some (.string pt)∧V.cell? ⟨xb,21,none⟩=some (.slice (some ⟨g,off,none⟩) x.sp.length sc)∧True) V):=Lh fun V hV=>by
      obtain⟨q0,q1,q2,q3,q4,q5,q6⟩:=HC2.out V hV;exact⟨q0,q1,q2,q3,q4,trivial⟩
     clear HC2;go_wp2_with fail;try rw[hw2]
     try rw[hqb]
     clear hw2 hqb c0 c1 c2 c3 c4 c21 c22 p0 p1 p2 p3;refine B (fun V=>V.cell? ⟨qb,0,none⟩=some (.int .u32 pa)∧V.cell? ⟨qb,1,none⟩=some (.int .u8 pp)∧V.cell? ⟨qb,2,none⟩=some (.bool po)∧V.cell? ⟨qb,3,none⟩=some (.string pt)∧V.cell? ⟨xb,21,none⟩=some (.slice (some ⟨g,off,none⟩) x.sp.length sc)∧True) (HS.out _ Br.drew) ?_;intro wd hwd hS;have HBd:Hid (Below w2.heap.size w2 wd):=Lh (by subst hwd;exact Br.drew);clear hwd;refine T 0 hS ?_;refine U 1 fun K' hK=> ?_
     go_simp;go_at_call 188;refine(HPg.out _).mono ?_;rintro e w3 ⟨rfl,hb3⟩;have HB3:=Lh (bQ HBd.out hb3);have hS3:=HS.out w3 HB3.out;clear hb3 hS;refine V hK hS3 ?_;clear hK K';refine T 2 hS3 ?_;refine T 3 hS3 ?_;refine T 4 hS3 ?_;refine T 5 hS3 ?_;refine T 6 hS3 ?_;refine TN 7 hS3 ?_;refine TN 8 hS3 ?_;refine TN 9 hS3 ?_;refine TN 10 hS3 ?_;refine TN 11 hS3 ?_;refine TN 12 hS3 ?_;refine TN 13 hS3 ?_;refine TN 14 hS3 ?_;refine TN 15 hS3 ?_;refine TN 16 hS3 ?_;refine TN 17 hS3 ?_;refine TN 18 hS3 ?_;refine TN 19 hS3 ?_;refine TN 20 hS3 ?_;refine T 21 hS3 ?_;refine T 22 hS3 ?_;refine wpAnyH_done (by kernel_rfl) ?_ _;obtain⟨_,_,d2,_⟩:=hS3;have HB4:=Lh (bQ HB2.out HB3.out);clear HS HPg HX2 HHb2;have HGd:Hid (good x.sp (0+1)):=Lh hgd;clear hgd;cases po with
     |true=>
      have fin:ckRelA w1 x.sp (.int .u32 ((owns (x.sp.take 0):Int)+1)) (.int .i64 ((0:Int)+1)) w3:=⟨0+1,hin,by simp,by rw[HOt.out];simp,HB4.out,HGd.out⟩;have Fin:=Lh fin;clear fin;go_wp2;exact⟨Fin.out,by simp[intOf];omega⟩
     |false=>
      have fin:ckRelA w1 x.sp (.int .u32 (owns (x.sp.take 0))) (.int .i64 ((0:Int)+1)) w3:=⟨0+1,hin,by simp,by rw[HOt.out];simp,HB4.out,HGd.out⟩;have Fin:=Lh fin;clear fin;go_wp2;exact⟨Fin.out,by simp[intOf];omega⟩
    ·obtain⟨k,rfl⟩:∃k,i=k+1:=⟨i - 1,by omega⟩;obtain⟨b,hb,hlt1,hlt2⟩:=hprev k rfl;clear hprev;have k0:(0:Int)<(k:Int)+1:=by omega
     have k1:(0:Int)≤(k:Int)+1:=by omega
     have k2:(0:Int)≤(k:Int):=by omega
     have iwk:IntKind.i64.wrap (k:Int)=k:=by have:=HL.out;rw[IntKind.wrap_i64];omega
     have iw3:IntKind.i64.wrap ((k:Int)+1+1)=(k:Int)+1+1:=by have:=HL.out;rw[IntKind.wrap_i64];omega
     have kl:(k:Int)<x.sp.length:=by omega
     by_cases hlt:pa≤b
     ·have hno:=hlt2 hlt;have HNo:=Lh hno;clear hno hlt1 hlt2 hgs hnp hok hpm;have HS:Hid (∀V,Below w2.heap.size w2 V→(fun V=>V.cell? ⟨qb,0,none⟩=some (.int .u32 pa)∧V.cell? ⟨qb,1,none⟩=some (.int .u8 pp)∧V.cell? ⟨qb,2,none⟩=some (.bool po)∧V.cell? ⟨qb,3,none⟩=some (.string pt)∧V.cell? ⟨xb,21,none⟩=some (.slice (some ⟨g,off,none⟩) x.sp.length sc)∧V.cell? ⟨g,off+(k+1)*4,none⟩=some (.int .u32 pa)∧V.cell? ⟨g,off+k*4,none⟩=some (.int .u32 b)∧True) V):=Lh fun V hV=>by
       obtain⟨q0,q1,q2,q3,q4,q5,q6⟩:=HC2.out V hV;exact⟨q0,q1,q2,q3,q4,q5,q6 _ _ hb,trivial⟩
      clear HC2;go_wp2_with fail;try rw[hw2]
      try rw[hqb]
      clear hw2 hqb c0 c1 c2 c3 c4 c21 c22 p0 p1 p2 p3;refine B (fun V=>V.cell? ⟨qb,0,none⟩=some (.int .u32 pa)∧V.cell? ⟨qb,1,none⟩=some (.int .u8 pp)∧V.cell? ⟨qb,2,none⟩=some (.bool po)∧V.cell? ⟨qb,3,none⟩=some (.string pt)∧V.cell? ⟨xb,21,none⟩=some (.slice (some ⟨g,off,none⟩) x.sp.length sc)∧V.cell? ⟨g,off+(k+1)*4,none⟩=some (.int .u32 pa)∧V.cell? ⟨g,off+k*4,none⟩=some (.int .u32 b)∧True) (HS.out _ Br.drew) ?_;intro wd hwd hS;have HBd:Hid (Below w2.heap.size w2 wd):=Lh (by subst hwd;exact Br.drew);clear hwd;refine T 0 hS ?_;refine U 1 fun K' hK=> ?_
      go_simp;go_at_call 188;refine(HPg.out _).mono ?_;rintro e w3 ⟨rfl,hb3⟩;have HB3:=Lh (bQ HBd.out hb3);have hS3:=HS.out w3 HB3.out;clear hb3 hS;refine V hK hS3 ?_;clear hK K';refine T 2 hS3 ?_;refine T 3 hS3 ?_;refine T 4 hS3 ?_;refine T 5 hS3 ?_;refine T 6 hS3 ?_;refine T 7 hS3 ?_;refine T 8 hS3 ?_;refine T 9 hS3 ?_;refine T 10 hS3 ?_;refine T 11 hS3 ?_;refine T 12 hS3 ?_;refine T 13 hS3 ?_;refine T 14 hS3 ?_;refine T 15 hS3 ?_;refine T 16 hS3 ?_;refine T 17 hS3 ?_;refine T 18 hS3 ?_;refine T 19 hS3 ?_;refine T 20 hS3 ?_;refine T 21 hS3 ?_;refine T 22 hS3 ?_;refine wpAnyH_done (by kernel_rfl) ?_ _;obtain⟨_,_,d2,_⟩:=hS3;have HB4:=Lh (bQ HB2.out HB3.out);clear HS HPg HX2 HHb2;have hno:=HNo.out;have HE:=Lh (bQ HB.out HB4.out);have hnm:¬x.may:=hno;have HN:=Lh hnm;clear hnm;go_wp2
      first|exact⟨.inr ⟨HN.out,rfl⟩,HE.out⟩|(go_ret;exact⟨.inr ⟨HN.out,rfl⟩,HE.out⟩)
     ·have hgd:good x.sp (k+1+1):=hlt1 hlt hpm;clear hlt1 hlt2 hgs hnp hok hpm;have HS:Hid (∀V,Below w2.heap.size w2 V→(fun V=>V.cell? ⟨qb,0,none⟩=some (.int .u32 pa)∧V.cell? ⟨qb,1,none⟩=some (.int .u8 pp)∧V.cell? ⟨qb,2,none⟩=some (.bool po)∧V.cell? ⟨qb,3,none⟩=some (.string pt)∧V.cell? ⟨xb,21,none⟩=some (.slice (some ⟨g,off,none⟩) x.sp.length sc)∧V.cell? ⟨g,off+(k+1)*4,none⟩=some (.int .u32 pa)∧V.cell? ⟨g,off+k*4,none⟩=some (.int .u32 b)∧True) V):=Lh fun V hV=>by
       obtain⟨q0,q1,q2,q3,q4,q5,q6⟩:=HC2.out V hV;exact⟨q0,q1,q2,q3,q4,q5,q6 _ _ hb,trivial⟩
      clear HC2;go_wp2_with fail;try rw[hw2]
      try rw[hqb]
      clear hw2 hqb c0 c1 c2 c3 c4 c21 c22 p0 p1 p2 p3;refine B (fun V=>V.cell? ⟨qb,0,none⟩=some (.int .u32 pa)∧V.cell? ⟨qb,1,none⟩=some (.int .u8 pp)∧V.cell? ⟨qb,2,none⟩=some (.bool po)∧V.cell? ⟨qb,3,none⟩=some (.string pt)∧V.cell? ⟨xb,21,none⟩=some (.slice (some ⟨g,off,none⟩) x.sp.length sc)∧V.cell? ⟨g,off+(k+1)*4,none⟩=some (.int .u32 pa)∧V.cell? ⟨g,off+k*4,none⟩=some (.int .u32 b)∧True) (HS.out _ Br.drew) ?_;intro wd hwd hS;have HBd:Hid (Below w2.heap.size w2 wd):=Lh (by subst hwd;exact Br.drew);clear hwd;refine T 0 hS ?_;refine U 1 fun K' hK=> ?_
      go_simp;go_at_call 188;refine(HPg.out _).mono ?_;rintro e w3 ⟨rfl,hb3⟩;have HB3:=Lh (bQ HBd.out hb3);have hS3:=HS.out w3 HB3.out;clear hb3 hS;refine V hK hS3 ?_;clear hK K';refine T 2 hS3 ?_;refine T 3 hS3 ?_;refine T 4 hS3 ?_;refine T 5 hS3 ?_;refine T 6 hS3 ?_;refine T 7 hS3 ?_;refine T 8 hS3 ?_;refine T 9 hS3 ?_;refine T 10 hS3 ?_;refine T 11 hS3 ?_;refine T 12 hS3 ?_;refine T 13 hS3 ?_;refine T 14 hS3 ?_;refine T 15 hS3 ?_;refine T 16 hS3 ?_;refine T 17 hS3 ?_;refine T 18 hS3 ?_;refine T 19 hS3 ?_;refine T 20 hS3 ?_;refine T 21 hS3 ?_;refine T 22 hS3 ?_;refine wpAnyH_done (by kernel_rfl) ?_ _;obtain⟨_,_,d2,_⟩:=hS3;have HB4:=Lh (bQ HB2.out HB3.out);clear HS HPg HX2 HHb2;have HGd:Hid (good x.sp ((k+1)+1)):=Lh hgd;clear hgd;cases po with
      |true=>
       have fin:ckRelA w1 x.sp (.int .u32 ((owns (x.sp.take (k+1)):Int)+1)) (.int .i64 ((k:Int)+1+1)) w3:=⟨(k+1)+1,hin,by simp,by rw[HOt.out];simp,HB4.out,HGd.out⟩;have Fin:=Lh fin;clear fin;go_wp2;exact⟨Fin.out,by simp[intOf];omega⟩
      |false=>
       have fin:ckRelA w1 x.sp (.int .u32 (owns (x.sp.take (k+1)))) (.int .i64 ((k:Int)+1+1)) w3:=⟨(k+1)+1,hin,by simp,by rw[HOt.out];simp,HB4.out,HGd.out⟩;have Fin:=Lh fin;clear fin;go_wp2;exact⟨Fin.out,by simp[intOf];omega⟩
   ·have hok':(Fp.okB ⟨pa,pp,po,pt⟩)=false:=by simpa using hok
    simp only[hok'] at HPg;have hno:¬x.may:=fun hm=>hok (Fp.okB_iff.2 (hnp hm))
    have HNo:=Lh hno;clear hno hgs hnp hprev hok hok';have HS:Hid (∀V,Below w2.heap.size w2 V→(fun V=>V.cell? ⟨qb,0,none⟩=some (.int .u32 pa)∧V.cell? ⟨qb,1,none⟩=some (.int .u8 pp)∧V.cell? ⟨qb,2,none⟩=some (.bool po)∧V.cell? ⟨qb,3,none⟩=some (.string pt)∧V.cell? ⟨xb,21,none⟩=some (.slice (some ⟨g,off,none⟩) x.sp.length sc)∧True) V):=Lh fun V hV=>by
     obtain⟨q0,q1,q2,q3,q4,q5,q6⟩:=HC2.out V hV;exact⟨q0,q1,q2,q3,q4,trivial⟩
    clear HC2;go_wp2_with fail;try rw[hw2]
    try rw[hqb]
    clear hw2 hqb c0 c1 c2 c3 c4 c21 c22 p0 p1 p2 p3;refine B (fun V=>V.cell? ⟨qb,0,none⟩=some (.int .u32 pa)∧V.cell? ⟨qb,1,none⟩=some (.int .u8 pp)∧V.cell? ⟨qb,2,none⟩=some (.bool po)∧V.cell? ⟨qb,3,none⟩=some (.string pt)∧V.cell? ⟨xb,21,none⟩=some (.slice (some ⟨g,off,none⟩) x.sp.length sc)∧True) (HS.out _ Br.drew) ?_;intro wd hwd hS;have HBd:Hid (Below w2.heap.size w2 wd):=Lh (by subst hwd;exact Br.drew);clear hwd;refine T 0 hS ?_;refine U 1 fun K' hK=> ?_
    go_simp;go_at_call 188;refine(HPg.out _).mono ?_;rintro e w3 ⟨rfl,hb3⟩;have HB3:=Lh (bQ HBd.out hb3);have hS3:=HS.out w3 HB3.out;clear hb3 hS;refine V hK hS3 ?_;clear hK K';refine T 2 hS3 ?_;refine T 3 hS3 ?_;refine TN 4 hS3 ?_;refine TN 5 hS3 ?_;refine TN 6 hS3 ?_;refine TN 7 hS3 ?_;refine TN 8 hS3 ?_;refine TN 9 hS3 ?_;refine TN 10 hS3 ?_;refine TN 11 hS3 ?_;refine TN 12 hS3 ?_;refine TN 13 hS3 ?_;refine TN 14 hS3 ?_;refine TN 15 hS3 ?_;refine TN 16 hS3 ?_;refine TN 17 hS3 ?_;refine TN 18 hS3 ?_;refine TN 19 hS3 ?_;refine TN 20 hS3 ?_;refine TN 21 hS3 ?_;refine T 22 hS3 ?_;refine wpAnyH_done (by kernel_rfl) ?_ _;obtain⟨_,_,d2,_⟩:=hS3;have HB4:=Lh (bQ HB2.out HB3.out);clear HS HPg HX2 HHb2;have hno:=HNo.out;have HE:=Lh (bQ HB.out HB4.out);have hnm:¬x.may:=hno;have HN:=Lh hnm;clear hnm;go_wp2
    first|exact⟨.inr ⟨HN.out,rfl⟩,HE.out⟩|(go_ret;exact⟨.inr ⟨HN.out,rfl⟩,HE.out⟩)
  ·obtain rfl:i=x.sp.length:=by omega
   have ii:¬(x.sp.length:Int)<x.sp.length:=by omega
   have hdm:=HDm.out wr HBw.out;have hg:=good_all hgi;unfold Mn.cells at hdm;have HD:=Lh hdm;have HG:=Lh hg;have HBw':=Lh HBw.out;clear hdm hg hgi;go_wp2_with fail;refine HD.out.mono ?_;rintro e w3 ⟨rfl,hb3⟩;obtain⟨c0,c1,c2,c3,c4,c21,c22,_⟩:=HC.out w3 (bQ HBw.out hb3);have HE:=Lh (bQ HB.out (bQ HBw.out hb3));clear hb3 HD;have hcm:=check_cases x.m
   by_cases hm0:Gp.checkE x.m=0
   ·rw[hm0]
    by_cases r0:x.r 0=0
    ·have g0:(x.r 0 != 0)=false:=by rw[r0];rfl
     by_cases o0:x.m.pages<(owns x.sp:Int)
     ·have HN:Hid (¬x.may):=Lh fun h=>by have:=h.own;omega
      go_wp2
      first|exact⟨.inr ⟨HN.out,rfl⟩,HE.out⟩|(go_ret;exact⟨.inr ⟨HN.out,rfl⟩,HE.out⟩)
     ·by_cases t0:(4096:Int)<x.text.size
      ·have HN:Hid (¬x.may):=Lh fun h=>by have:=h.tx;omega
       go_wp2
       first|exact⟨.inr ⟨HN.out,rfl⟩,HE.out⟩|(go_ret;exact⟨.inr ⟨HN.out,rfl⟩,HE.out⟩)
      ·have HY:Hid (x.m.con=true∨x.text.size=0→x.may):=Lh fun h=>⟨HG.out.1,HG.out.2,hm0,r0,by omega,by omega,h⟩
       have HNY:Hid (x.may→x.m.con=true∨x.text.size=0):=Lh fun h=>h.con
       clear hm0 hcm r0;generalize hcn:x.m.con=cn at*;cases cn with
       |true=>
        have hy:=HY.out (.inl rfl);have HZ:=Lh hy;clear hy;go_wp2
        first|exact⟨.inl ⟨HZ.out,rfl⟩,HE.out⟩|(go_ret;exact⟨.inl ⟨HZ.out,rfl⟩,HE.out⟩)
       |false=>
        by_cases hte:x.text= {data:= #[]}
        ·have hy:=HY.out (.inr (by rw[hte];rfl));have HZ:=Lh hy;have e0:(x.text == {data:= #[]})=true:=by rw[hte];rfl
         have e0:(x.text == {data:= #[]})=true:=by rw[hte];rfl
         clear hy;go_wp2
         first|exact⟨.inl ⟨HZ.out,rfl⟩,HE.out⟩|(go_ret;exact⟨.inl ⟨HZ.out,rfl⟩,HE.out⟩)
        ·have HN:Hid (¬x.may):=Lh fun h=>(HNY.out h).elim (fun q=>absurd q (by decide)) fun q=>hte (tl_inj (List.length_eq_zero_iff.1 ((tl_len _).trans q)))
         have e0:x.text.toList.isEmpty=false:=nonempty_str _ (Nat.pos_of_ne_zero fun q=>hte (tl_inj (List.length_eq_zero_iff.1 ((tl_len _).trans q))));clear hte;go_wp2
         first|exact⟨.inr ⟨HN.out,rfl⟩,HE.out⟩|(go_ret;exact⟨.inr ⟨HN.out,rfl⟩,HE.out⟩)
    ·have g0:(x.r 0 != 0)=true:=by rw[bne_iff_ne];exact r0
     have HN:Hid (¬x.may):=Lh fun h=>r0 h.r0
     go_wp2
     first|exact⟨.inr ⟨HN.out,rfl⟩,HE.out⟩|(go_ret;exact⟨.inr ⟨HN.out,rfl⟩,HE.out⟩)
   ·have HN:Hid (¬x.may):=Lh fun h=>hm0 h.m
    rw[hcm.resolve_left hm0];clear hcm;go_wp2
    first|exact⟨.inr ⟨HN.out,rfl⟩,HE.out⟩|(go_ret;exact⟨.inr ⟨HN.out,rfl⟩,HE.out⟩)
theorem page{p:Fp}(h:p.may)(a0:0≤p.addr)(w:World):Calls Tryz.prog 188 #[.agg #[.int .u32 p.addr,.int .u8 p.perm,.bool p.own,.string p.text]] w fun e w'=>e=.returned (.bool true)∧Below w.heap.size w w':=
 (pageA a0 w).mono fun e w' q=>⟨by rw[q.1,Fp.okB_iff.2 h],q.2⟩
theorem check{w:World}{x:Fr}{ev pv sv:Value}(h:FrIn w x ev pv sv)(ho:x.ok)(hm:x.may)(hl:x.sp.length≤70000):
  Calls Tryz.prog 84 #[.agg (x.arr ev pv sv)] w fun e w'=>e=.returned (.int .i64 0)∧Below w.heap.size w w':=
 (checkA h ho hl).mono fun e w' q=>⟨q.1.elim (fun z=>z.2) (fun z=>absurd hm z.1),q.2⟩
end Go.Proofs.YtehihecknhcggaaGreat.Fz
namespace Go.Proofs.YtehihecknhcggaaGreat.Fz
open Go.RowKit Word
theorem one_cell{V:World}{b:Nat}{v:Int}(h:V.heap[b]? =some (.cells #[.int .u32 v] 41 (0,0))):∀i (hi:i<[v].length),∃g off,(some ⟨b,0,none⟩:Option Addr)=some ⟨g,off,none⟩∧V.cell? ⟨g,off+i,none⟩=some (.int .u32 [v][i]):=fun i hi=>by
 obtain rfl:i=0:=by simp at hi;omega
 exact⟨b,0,rfl,by unfold World.cell?;rw[h];rfl⟩
theorem bytesAt(n:Nat)(hn:n=1∨n=2∨n=4){v:Int}(hf:fitN v n){V:World}{b:Nat}(h:V.heap[b]? =some (.cells #[.int .u32 v] 41 (0,0))):
  Calls Tryz.prog 172 #[.int .i64 n,.slice (some ⟨b,0,none⟩) 1 1] V fun e w'=>∃s,e=.returned (.string s)∧tl s=pL v n∧Below V.heap.size V w':=by
 refine(bytes n hn [v] (by simp) (fun x hx=>by rw[List.mem_singleton.1 hx];exact hf) (c:=1) (one_cell h)).mono ?_;rintro e w' ⟨s,rfl,h1,h2⟩;refine⟨s,rfl, ?_,h2⟩;rw[h1];unfold bytesL;rw[List.flatMap_singleton]
theorem manifest0{w:World}{m:Mn}{ea pa:Option Addr}{ec pc:Nat}(hp:fitN m.pages 4):
  Calls Tryz.prog 173 #[.agg #[.int .u32 m.pages,.slice ea 0 ec,.slice pa 0 pc,.bool m.con]] w fun e w'=>∃s,e=.returned (.string s)∧tl s=pL m.pages 4++(pL 0 1++(pL 0 1++pL (bit01 m.con) 1))∧Below w.heap.size w w':=by
 have hb:Below w.heap.size w (w.alloc (.cells #[.int .u32 m.pages,.slice ea 0 ec,.slice pa 0 pc,.bool m.con] 48)):=Ba _;have hx:=heap_alloc_new w (.cells #[.int .u32 m.pages,.slice ea 0 ec,.slice pa 0 pc,.bool m.con] 48);obtain⟨w1,hw1⟩:∃w1,w.alloc (.cells #[.int .u32 m.pages,.slice ea 0 ec,.slice pa 0 pc,.bool m.con] 48)=w1:=⟨_,rfl⟩;obtain⟨mb,hmb⟩:∃b,w.heap.size=b:=⟨_,rfl⟩;rw[hw1] at hb hx;rw[hmb] at hx;have HB:=Lh hb;have HS:Hid (∀V,Below w1.heap.size w1 V→V.cell? ⟨mb,0,none⟩=some (.int .u32 m.pages)∧V.cell? ⟨mb,1,none⟩=some (.slice ea 0 ec)∧V.cell? ⟨mb,2,none⟩=some (.slice pa 0 pc)∧V.cell? ⟨mb,3,none⟩=some (.bool m.con)∧True):=Lh fun V hV=>by
  have q:=(hV.block _ (lQ hx)).trans hx;refine⟨?_, ?_, ?_, ?_,trivial⟩<;>(unfold World.cell?;rw[q];rfl)
 have HF:=Lh hp;have f01:fitN 0 1:=⟨by decide,by decide⟩;have fbt:fitN (bit01 m.con) 1:=by cases m.con<;>exact⟨by decide,by decide⟩
 have HF1:=Lh f01;have HFb:=Lh fbt;have iw:IntKind.u32.wrap 0=0:=rfl;clear hp hb hx f01 fbt;generalize hPQ:(fun(e:Ending) (w':World)=>∃s,e=.returned (.string s)∧tl s=pL m.pages 4++(pL 0 1++(pL 0 1++pL (bit01 m.con) 1))∧Below w.heap.size w w')=PQ;have HPQ:Hid (∀s V,tl s=pL m.pages 4++(pL 0 1++(pL 0 1++pL (bit01 m.con) 1))→Below w1.heap.size w1 V→PQ (.returned (.string s)) V):=Lh fun s V h1 h2=>by rw[←hPQ];exact⟨s,rfl,h1,bQ HB.out h2⟩
 clear hPQ;go_enter func173,ntmps173;go_wp2_with fail;try rw[hw1]
 try rw[hmb]
 clear hw1 hmb;refine B (fun V=>V.cell? ⟨mb,0,none⟩=some (.int .u32 m.pages)∧V.cell? ⟨mb,1,none⟩=some (.slice ea 0 ec)∧V.cell? ⟨mb,2,none⟩=some (.slice pa 0 pc)∧V.cell? ⟨mb,3,none⟩=some (.bool m.con)∧True) (HS.out _ Br.drew) ?_;intro wd hwd hS;have HBd:Hid (Below w1.heap.size w1 wd):=Lh (by subst hwd;exact Br.drew);clear hwd;refine T 0 hS ?_;refine T 1 hS ?_;refine T 4 hS ?_;refine T 5 hS ?_;refine T 6 hS ?_;refine T 7 hS ?_;refine U2 2 8 (fun K' hK=> ?b1) (fun K' hK=> ?b2)
 case' b1=>
  go_simp;have hb2:=bQ HBd.out (Br.alloc (Nat.le_refl _) (.cells #[.int .u32 m.pages] 41));have hx2:=heap_alloc_new wd (.cells #[.int .u32 m.pages] 41);obtain⟨q2,hq2⟩:∃q,wd.heap.size=q:=⟨_,rfl⟩;obtain⟨wa,hwa⟩:∃x,wd.alloc (.cells #[.int .u32 m.pages] 41)=x:=⟨_,rfl⟩;rw[hwa] at hb2 hx2⊢;rw[hq2] at hx2⊢;have HB2:=Lh hb2;have HX2:=Lh hx2;have hS2:=HS.out _ hb2;clear hb2 hx2 hwa hq2;refine V hK hS2 ?_;clear hK K';refine U2 3 8 (fun K' hK=> ?b3) (fun K' hK=> ?b4)
 case' b3=>
  go_simp;go_at_call 172;refine(bytesAt 4 (.inr (.inr rfl)) HF.out HX2.out).mono ?_;rintro e wb ⟨s1,rfl,hs1,hb3⟩;have HS1:=Lh hs1;have HB3:=Lh (bQ HB2.out hb3);have hS3:=HS.out _ HB3.out;clear hs1 hb3;refine V hK hS3 ?_;clear hK K';refine U 8 fun K' hK=> ?_
  go_simp;have hb8:=bQ HB3.out (Br.alloc (Nat.le_refl _) (.cells #[.int .u32 0] 41));have hx8:=heap_alloc_new wb (.cells #[.int .u32 0] 41);obtain⟨q8,hq8⟩:∃q,wb.heap.size=q:=⟨_,rfl⟩;obtain⟨wc,hwc⟩:∃x,wb.alloc (.cells #[.int .u32 0] 41)=x:=⟨_,rfl⟩;rw[hwc] at hb8 hx8⊢;rw[hq8] at hx8⊢;have HB8:=Lh hb8;have HX8:=Lh hx8;have hS8:=HS.out _ hb8;clear hb8 hx8 hwc hq8;refine V hK hS8 ?_;clear hK K';have HX9:=Lh HX8.out;have HB9:=Lh HB8.out;have hS9:=hS8;clear HX8 HB8 hS8 hS3 HB3 HB2 HX2 hS2
 case' b4=>
  go_simp;have hb8:=bQ HB2.out (Br.alloc (Nat.le_refl _) (.cells #[.int .u32 0] 41));have hx8:=heap_alloc_new wa (.cells #[.int .u32 0] 41);obtain⟨q8,hq8⟩:∃q,wa.heap.size=q:=⟨_,rfl⟩;obtain⟨wc,hwc⟩:∃x,wa.alloc (.cells #[.int .u32 0] 41)=x:=⟨_,rfl⟩;rw[hwc] at hb8 hx8⊢;rw[hq8] at hx8⊢;have HB8:=Lh hb8;have HX8:=Lh hx8;have hS8:=HS.out _ hb8;have HX2k:Hid (wc.heap[q2]? =some (.cells #[.int .u32 m.pages] 41 (0,0))):=Lh (by rw[←hwc];exact(Below.heap_alloc _ _ _ (lQ HX2.out)).trans HX2.out);clear hb8 hx8 hwc hq8;refine V hK hS8 ?_;clear hK K';refine U 3 fun K' hK=> ?_
  go_simp;go_at_call 172;refine(bytesAt 4 (.inr (.inr rfl)) HF.out HX2k.out).mono ?_;rintro e wb ⟨s1,rfl,hs1,hb3⟩;have HS1:=Lh hs1;have HB3:=Lh (bQ HB8.out hb3);have hS3:=HS.out _ HB3.out;have hx9:=(hb3.block _ (lQ HX8.out)).trans HX8.out;have HX9:=Lh hx9;have HB9:=Lh HB3.out;have hS9:=hS3;clear hx9;clear hs1 hb3;refine V hK hS3 ?_;clear hK K';clear HX8 HB8 hS8 HB3 HB2 HX2 hS2 hS3 HX2k
 case' b2=>
  go_simp;have hb8:=bQ HBd.out (Br.alloc (Nat.le_refl _) (.cells #[.int .u32 0] 41));have hx8:=heap_alloc_new wd (.cells #[.int .u32 0] 41);obtain⟨q8,hq8⟩:∃q,wd.heap.size=q:=⟨_,rfl⟩;obtain⟨wc,hwc⟩:∃x,wd.alloc (.cells #[.int .u32 0] 41)=x:=⟨_,rfl⟩;rw[hwc] at hb8 hx8⊢;rw[hq8] at hx8⊢;have HB8:=Lh hb8;have HX8:=Lh hx8;have hS8:=HS.out _ hb8;clear hb8 hx8 hwc hq8;refine V hK hS8 ?_;clear hK K';refine U 2 fun K' hK=> ?_
  go_simp;have hb2:=bQ HB8.out (Br.alloc (Nat.le_refl _) (.cells #[.int .u32 m.pages] 41));have hx2:=heap_alloc_new wc (.cells #[.int .u32 m.pages] 41);obtain⟨q2,hq2⟩:∃q,wc.heap.size=q:=⟨_,rfl⟩;obtain⟨wa,hwa⟩:∃x,wc.alloc (.cells #[.int .u32 m.pages] 41)=x:=⟨_,rfl⟩;rw[hwa] at hb2 hx2⊢;rw[hq2] at hx2⊢;have HB2:=Lh hb2;have HX2:=Lh hx2;have hS2:=HS.out _ hb2;have HB2k:Hid (Below wc.heap.size wc wa):=Lh (by rw[←hwa];exact Ba _);clear hb2 hx2 hwa hq2;refine V hK hS2 ?_;clear hK K';have HX8k:=Lh (((HB2k.out.block _ (lQ HX8.out))).trans HX8.out);refine U 3 fun K' hK=> ?_
  go_simp;go_at_call 172;refine(bytesAt 4 (.inr (.inr rfl)) HF.out HX2.out).mono ?_;rintro e wb ⟨s1,rfl,hs1,hb3⟩;have HS1:=Lh hs1;have HB3:=Lh (bQ HB2.out hb3);have hS3:=HS.out _ HB3.out;have hx9:=(hb3.block _ (lQ HX8k.out)).trans HX8k.out;have HX9:=Lh hx9;have HB9:=Lh HB3.out;have hS9:=hS3;clear hx9;clear hs1 hb3;refine V hK hS3 ?_;clear hK K';clear HX8 HB8 hS8 HB3 HB2 HX2 hS2 hS3 HX8k HB2k
 all_goals
  refine U 9 fun K' hK=> ?_
  go_simp;go_at_call 172;refine(bytesAt 1 (.inl rfl) HF1.out HX9.out).mono ?_;rintro e w5 ⟨s2,rfl,hs2,hb5⟩;have HS2:=Lh hs2;have HB5:=Lh (bQ HB9.out hb5);have hS5:=HS.out _ HB5.out;clear hs2 hb5 hS9 HX9 HB9;refine V hK hS5 ?_;clear hK K';have z1:s1.size=4:=by rw[←tl_len,HS1.out];exact pL_len _ _ (by decide)
  have z2:s2.size=1:=by rw[←tl_len,HS2.out];exact pL_len _ _ (by decide)
  have ov:¬(9223372036854775807<s1.size+s2.size):=by omega
  refine T 10 hS5 ?_;refine T 11 hS5 ?_;refine wpAnyH_done (by kernel_rfl) ?_ _;obtain⟨_,d1,d2,d3,_⟩:=hS5;have Z12:Hid (tl (s1++s2)=pL m.pages 4++pL 0 1∧(s1++s2).size=5):=Lh ⟨by rw[tl_app,HS1.out,HS2.out],by rw[ByteArray.size_append];omega⟩;clear z1 z2 ov HS1 HS2;generalize s1++s2=s12 at*;go_wp2;go_loopw [3,22] (fun v3 vi wr=>v3=.string s12∧vi=.int .i64 0∧wr=w5) (fun _ _ _=>0)
  case atStart=>exact⟨rfl,rfl,rfl⟩
  case round=>
   obtain⟨rfl,rfl,rfl⟩:=hrel;have hbr:=(Below.refl wr.heap.size wr).alloc (Nat.le_refl _) (.cells #[.int .u32 0] 41);go_wp2_with fail;refine(bytesAt 1 (.inl rfl) HF1.out (heap_alloc_new wr _)).mono ?_;rintro e w6 ⟨s3,rfl,hs3,hb6⟩;have HB6:=Lh (bQ (bQ HB5.out hbr) hb6);obtain⟨_,_,d2,d3,_⟩:=HS.out w6 HB6.out;have z3:s3.size=1:=by rw[←tl_len,hs3];exact pL_len _ _ (by decide)
   have ov:¬(9223372036854775807<s12.size+s3.size):=by have:=Z12.out.2;omega
   have Z13:Hid (tl (s12++s3)=pL m.pages 4++(pL 0 1++pL 0 1)∧(s12++s3).size=6):=Lh ⟨by rw[tl_app,Z12.out.1,hs3,List.append_assoc],by rw[ByteArray.size_append,Z12.out.2,z3]⟩;clear hs3 hb6 hbr z3;go_wp2;clear ov;generalize s12++s3=s13 at*;go_loopw [3,49] (fun v3 vi wr=>v3=.string s13∧vi=.int .i64 0∧wr=w6) (fun _ _ _=>0)
   case atStart=>exact⟨rfl,rfl,rfl⟩
   case round=>
    obtain⟨rfl,rfl,hwr⟩:=hrel;subst hwr;have hbt:∀W,Calls Tryz.prog 174 #[.bool m.con] W fun e w'=>e=.returned (.int .u32 (bit01 m.con))∧W=w':=fun W=>bit m.con W
    have HBt:=Lh hbt;clear hbt;generalize bit01 m.con=bv at*;go_wp2_with fail;refine(HBt.out _).mono ?_;rintro e w7 ⟨rfl,rfl⟩;have hbr:=(Below.refl wr.heap.size wr).alloc (Nat.le_refl _) (.cells #[.int .u32 bv] 41);go_wp2_with fail;refine(bytesAt 1 (.inl rfl) HFb.out (heap_alloc_new wr _)).mono ?_;rintro e w8 ⟨s4,rfl,hs4,hb8⟩;have z4:s4.size=1:=by rw[←tl_len,hs4];exact pL_len _ _ (by decide)
    have ov:¬(9223372036854775807<s13.size+s4.size):=by have:=Z13.out.2;omega
    have HE:=Lh (HPQ.out (s13++s4) w8 (by rw[tl_app,Z13.out.1,hs4,List.append_assoc,List.append_assoc]) (bQ (bQ HB6.out hbr) hb8));clear hs4 hb8 hbr z4;go_wp2
    first|exact HE.out|(go_ret;exact HE.out)
theorem ptext(s:ByteArray)(hs:s.size<65536)(w:World):Calls Tryz.prog 175 #[.string s] w fun e w'=>∃t,e=.returned (.tuple #[.string t,.int .i64 0])∧tl t=pL s.size 2++tl s∧Below w.heap.size w w':=by
 have hf:fitN s.size 2:=⟨by omega,by show(s.size:Int)<256 ^ 2;omega⟩;have HN:=Lh (num_ok s.size 2 (.inr (.inl rfl)) hf w);have z:=pL_len s.size 2 (by decide);have ov:¬(9223372036854775807<(putS s.size 2).size+s.size):=by unfold pL at z;rw[tl_len] at z;omega
 have m1:¬((65536:Int)<s.size):=by omega
 have m2:¬((65536:Int)≤s.size):=by omega
 have m3:(s.size:Int)≤65536:=by omega
 have m4:min (s.size:Int) 65536=s.size:=by omega
 have iw:IntKind.u32.wrap (s.size:Int)=s.size:=by rw[IntKind.wrap_u32];omega
 have HE:Hid (tl (putS s.size 2++s)=pL s.size 2++tl s):=Lh (tl_app _ _);clear hf z hs;go_enter func175,ntmps175;go_wp2_with fail;refine HN.out.mono ?_;rintro e w1 ⟨rfl,hb⟩;have HB:=Lh hb;clear hb;go_wp2;go_ret2;exact⟨_,rfl,HE.out,HB.out⟩
end Go.Proofs.YtehihecknhcggaaGreat.Fz
