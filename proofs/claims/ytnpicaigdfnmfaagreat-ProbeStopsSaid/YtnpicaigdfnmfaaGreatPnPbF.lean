/- PbF, PbV, PbG, PbH, PbX, PbY, PbK, PbL, PbM, PbN in one text. -/
import Derived.Test.YtnpicaigdfnmfaaGreatPnXoG
import Derived.Test.YtnpicaigdfnmfaaGreatPnSl21
import Derived.Test.YtnpicaigdfnmfaaGreatPnPag
import Derived.Test.YtnpicaigdfnmfaaGreatPnZa
set_option linter.unusedVariables false
set_option linter.unusedSimpArgs false
set_option maxRecDepth 100000
set_option maxHeartbeats 16000000
open Go.Proofs.Tryz
namespace Go.Proofs.YtnpicaigdfnmfaaGreat
open Go.RowKit Pag
namespace Pr
theorem num_step(E:En):E.step.num=E.num:=by
 unfold En.step
 split
 ·rfl
 ·simp only
  split<;>rfl
theorem gn_len{K0:Kn}{E0:En}{T0:List Eve}{i:Nat}{K:Kn}{E:En}{T:List Eve}(h:Gn K0 E0 T0 i K E T):T.length≤T0.length+i∧K.N.sent.length≤K0.N.sent.length+i∧E.num=E0.num:=by
 induction h with
 |nil=>exact⟨by omega,by omega,rfl⟩
 |step h hk h1 h2 ih=>exact⟨by omega,by omega,(num_step _).trans ih.2.2⟩
 | @sys i K E T b h hk h1 h2 ih=>
  have g1:=evL_len (Kl.evt K E.step b E.stop.2.1);have g2:=Xo.sent_do K E.step b E.stop.2.1;refine⟨?_,Nat.le_trans g2 (by omega),(Xo.doE_num _ _ _ _).trans ((num_step _).trans ih.2.2)⟩;rw[List.length_append];omega
theorem run_len{k:Nat}{K0:Kn}{E0:En}{T0:List Eve}{i:Nat}{K:Kn}{E:En}{T:List Eve}(h:RunX k K0 E0 T0 i K E T):T.length≤T0.length+k∧K.N.sent.length≤K0.N.sent.length+k∧E.num=E0.num∧i≤k:=by
 rcases h with⟨h,h1,_⟩|⟨E1,T1,h,h1,h2,h3,hE,hT⟩|⟨m1,K1,E1,T1,b,h,hm,h1,h2,h3,h4,hK,hE,hT⟩
 ·have:=gn_len h;exact⟨by omega,by omega,this.2.2,h1⟩
 ·have g:=gn_len h;rw[hE,hT];refine⟨?_,by omega,(num_step _).trans g.2.2,by omega⟩;rw[List.length_append]
  show T1.length+1≤_
  omega
 ·have g:=gn_len h;have g2:=Xo.sent_do K1 E1.step b 2;have g3:=evL_len (Kl.evt K1 E1.step b 2);rw[hE,hT,hK];refine⟨?_,Nat.le_trans g2 (by omega),(Xo.doE_num _ _ _ _).trans ((num_step _).trans g.2.2),by omega⟩;rw[List.length_append];omega
theorem run_one{K0:Kn}{E0:En}{T0:List Eve}{i:Nat}{K:Kn}{E:En}{T:List Eve}(hk:E0.kind=2)(h:RunX 1 K0 E0 T0 i K E T):i=1∨i=0∧E.kind≠2:=by
 rcases h with⟨h,h1,h2⟩|⟨E1,T1,h,h1,h2,h3,rfl,rfl⟩|⟨m1,K1,E1,T1,b,h,rfl,h1,_⟩
 ·rcases h2 with h2|h2
  ·exact .inl h2
  ·by_cases e:i=0
   ·exact .inr ⟨e,h2⟩
   ·exact .inl (by omega)
 ·exact .inr ⟨by omega,by
   unfold En.step;rw[if_neg (by omega)];have h3':(Cp.stp E1.A E1.r E1.pc).kind=2:=by
    unfold En.stop at h3;rw[if_neg (by omega)] at h3;exact h3
   simp only;rw[if_pos h3'];exact(by decide:(4:Int)≠2)⟩
 ·exact .inl (by omega)
theorem last_len(l:List Int):(last32 l).length≤32:=by
 unfold last32;rw[List.length_drop];omega
theorem last_id(l:List Int)(h:l.length≤32):last32 l=l:=by
 unfold last32;rw[show l.length - 32=0 by omega];rfl
end Pr
end Go.Proofs.YtnpicaigdfnmfaaGreat
namespace Go.Proofs.YtnpicaigdfnmfaaGreat.Sl
open Go.RowKit Pag
theorem lst_drop{w:World}{base g n cap:Nat}{xs:List Int}(h:w.ownsRow base 42 1 (.slice (some ⟨g,0,none⟩) n cap) xs.length (xs.map encU))(j:Nat)(hj:j<xs.length):Lst w (.slice (some ⟨g,j,none⟩) (xs.drop j).length (cap - j)) (xs.drop j)∧xs.length≤cap:=by
 rcases h.2 with⟨e,_⟩|⟨g',cap',cur,e,hb,hg,h1,h2,h3,h4⟩
 ·cases e
 ·cases e;have hl:(xs.drop j).length=xs.length - j:=List.length_drop;refine⟨⟨by rw[List.length_map,Nat.mul_one],.inr ⟨g,j,cap - j,cur,rfl,hg,by omega,by omega,by omega,fun i hi=> ?_⟩⟩,h1⟩;have h5:(cur.toList.take (xs.length*1))[j+i]? =(xs.map encU)[j+i]? :=by rw[h4]
  rw[List.getElem?_take_of_lt (by omega)] at h5;rw[List.getElem?_map,List.getElem?_drop,←List.getElem?_map,←h5]
  simp
theorem clone_own{w:World}{v:Value}{xs:List Int}(h:Lst w v xs)(hp:0<xs.length)(hs:xs.length≤2000000):
  Calls Tryz.prog 60 #[v] w fun e w'=>∃g cap,e=.returned (.slice (some ⟨g,0,none⟩) xs.length cap)∧w'.ownsRow w.heap.size 42 1 (.slice (some ⟨g,0,none⟩) xs.length cap) xs.length (xs.map encU)∧Below w.heap.size w w':=by
 obtain⟨i0,hi0,hz0,hz1,hz2⟩:=info_parts infoU32;rcases h.2 with⟨h0,a,rfl⟩|⟨g,off,cap,cur,rfl,hg,hnc,hcm,hcs,hc⟩
 ·omega
 obtain⟨n,hn⟩:∃n,xs.length=n:=⟨_,rfl⟩;rw[hn] at h hs hnc hc hp⊢;have hq:=fun W=>Lib.run_eql_slice_nil (P:=Tryz.prog) W _ _ (some ⟨g,off,none⟩) n cap 0 0 Tryz.underlying41
 have hcl:∀j u,(xs.map encU)[j]? =some u→(w.alloc (.cells #[] 42)).cell? ((⟨g,off,none⟩:Addr).add j)=some u:=fun j u hu=>by
  have hj:j<n:=by have:=(List.getElem?_eq_some_iff.1 hu).1;simpa [hn] using this
  rw[Addr.add_lit];unfold World.cell?;rw[Below.heap_alloc _ _ _ (lQ hg),hg];exact(hc j (by omega)).trans hu
 have h0:¬n=0:=by omega
 have HB:Hid (Below w.heap.size w (w.alloc (.cells #[] 42))):=Lh (Ba _);have HO:Hid ((w.alloc (.cells #[] 42)).ownsRow w.heap.size 42 1 (.slice (some ⟨w.heap.size,0,none⟩) 0 0) 0 []):=Lh ⟨rfl,.inr ⟨w.heap.size,0, #[],rfl,Nat.le_refl _,heap_alloc_new w _,Nat.le_refl _,by decide,rfl,rfl⟩⟩;have HC:Hid (∀j u,(xs.map encU)[j]? =some u→(w.alloc (.cells #[] 42)).cell? ((⟨g,off,none⟩:Addr).add j)=some u):=Lh hcl;have HLn:=Lh hn;have hml:n≤maxLen:=by unfold maxLen;omega
 clear hn hcl h hg hnc hcm hcs hc;go_enter func60,ntmps60;go_wp2_with (at_builtin;refine wpList_append_lies _ rfl _ _ 41 rfl w.heap.size 42 i0 (.int .u32 0) 1 4 Tryz.underlying41 hi0 hz0 hz1 hz2 rfl (by decide) _ 0 [] rfl HO.out ⟨g,off,none⟩ n cap (xs.map encU) rfl (by rw[List.length_map,HLn.out,Nat.mul_one]) HC.out (by simp[Value.oneCell']) (by omega) (by omega) (by omega) (by simp) _ rfl ?_;intro g2 cap2 w2 hr2 hg2 ho2 hl2;rw[Nat.zero_add,List.nil_append] at hr2;have HR2:=Lh hr2;have HG2:=Lh hg2;clear hr2 hg2 ho2 hl2);have m1:Mod (fun q=>q=w.heap.size) (w.alloc (.cells #[] 42)) w2:=⟨HG2.out.os,HG2.out.tape,HG2.out.output,HG2.out.size,fun q hq hn=>HG2.out.block q hq fun e=>hn (Option.some.inj (show some q=some w.heap.size from e))⟩;have hbl:=Mod.below HB.out m1 (by simp) fun i _ e=>Nat.le_of_eq e.symm
 have hres:∃g cap,Ending.returned (.slice (some ⟨g2,0,none⟩) n cap2)=.returned (.slice (some ⟨g,0,none⟩) n cap)∧w2.ownsRow w.heap.size 42 1 (.slice (some ⟨g,0,none⟩) n cap) n (xs.map encU)∧Below w.heap.size w w2:=⟨g2,cap2,rfl,HR2.out,hbl⟩
 first|(go_ret;exact hres)|(go_ret;simpa using hres)
end Go.Proofs.YtnpicaigdfnmfaaGreat.Sl
namespace Go.Proofs.YtnpicaigdfnmfaaGreat
open Go.RowKit Pag
namespace Pr
def Asd(w:World)(xb:Nat)(tv:Value)(a:KAt)(e:EAt)(A:List Pg)(F:Nat→Prop)(w':World)(tv':Value)(a':KAt)(e':EAt)(A':List Pg)(F':Nat→Prop):Prop:=
 Mod (fun _=>True) w w'∧∀q,q<w.heap.size→a.tag q=0→¬e.foot A q→q≠xb→tv.ownBlock≠some q→¬F q→w'.heap[q]? =w.heap[q]? ∧a'.tag q=0∧¬e'.foot A' q∧tv'.ownBlock≠some q∧¬F' q
namespace Asd
variable {w w' w'':World} {xb:Nat} {tv tv' tv'':Value} {a a' a'':KAt} {e e' e'':EAt} {A A' A'':List Pg} {F F' F'':Nat→Prop}
theorem refl(w:World)(xb:Nat)(tv:Value)(a:KAt)(e:EAt)(A:List Pg)(F:Nat→Prop):Asd w xb tv a e A F w tv a e A F:=⟨Mod.refl _ _,fun q _ h1 h2 _ h4 h5=>⟨rfl,h1,h2,h4,h5⟩⟩
theorem trans(h:Asd w xb tv a e A F w' tv' a' e' A' F')(k:Asd w' xb tv' a' e' A' F' w'' tv'' a'' e'' A'' F''):Asd w xb tv a e A F w'' tv'' a'' e'' A'' F'':=
 ⟨h.1.trans k.1 fun _ _ _=>.inl trivial,fun q hq h1 h2 h3 h4 h5=>by
  obtain⟨g0,g1,g2,g3,g4⟩:=h.2 q hq h1 h2 h3 h4 h5;obtain⟨k0,k1⟩:=k.2 q (Nat.lt_of_lt_of_le hq h.1.size) g1 g2 h3 g3 g4;exact⟨k0.trans g0,k1⟩⟩
theorem below(h:Asd w xb tv a e A F w' tv' a' e' A' F')(hb:Below w'.heap.size w' w''):Asd w xb tv a e A F w'' tv' a' e' A' F':=
 h.trans ⟨Mod.of_below hb _,fun q hq h1 h2 h3 h4 h5=>⟨hb.block q hq,h1,h2,h4,h5⟩⟩
theorem ran(s:XStep w w' xb tv a e A tv' a' e' A')(F:Nat→Prop):Asd w xb tv a e A F w' tv' a' e' A' F:=
 ⟨s.mod.mono fun _ _ _=>trivial,fun q hq h1 h2 h3 h4 h5=>by
  obtain⟨g0,g1,g2,g3⟩:=s.out hq h1 h2 h3 h4;exact⟨g0,g1,g2,g3,h5⟩⟩
theorem prb{G:Nat→Prop}(hm:Mod G w w')(hG:∀q,G q→F q∨w.heap.size≤q)(hF:∀q,F' q→F q∨w.heap.size≤q):Asd w xb tv a e A F w' tv a e A F':=
 ⟨hm.mono fun _ _ _=>trivial,fun q hq h1 h2 h3 h4 h5=>⟨hm.block q hq fun z=>(hG q z).elim h5 fun z=>by omega,h1,h2,h4,fun z=>(hF q z).elim h5 fun z=>by omega⟩⟩
theorem hit(h:Asd w xb tv a e A F w' tv' a' e' A' F'){hb:Nat}(hm:Mod (fun q=>q=hb) w' w'')(hh:w.heap.size≤hb):Asd w xb tv a e A F w'' tv' a' e' A' F':=
 ⟨h.1.trans (hm.mono (G:=fun _=>True) fun _ _ _=>trivial) fun _ _ _=>.inl trivial,fun q hq h1 h2 h3 h4 h5=>by
  obtain⟨g0,g1⟩:=h.2 q hq h1 h2 h3 h4 h5;exact⟨(hm.block q (Nat.lt_of_lt_of_le hq h.1.size) (by omega)).trans g0,g1⟩⟩
def Out(a:KAt)(e:EAt)(A:List Pg)(xb:Nat)(tv:Value)(F:Nat→Prop)(q:Nat):Prop:=a.tag q=0∧¬e.foot A q∧q≠xb∧tv.ownBlock≠some q∧¬F q
theorem out(h:Asd w xb tv a e A F w' tv' a' e' A' F'){q:Nat}(hq:q<w.heap.size)(o:Out a e A xb tv F q):w'.heap[q]? =w.heap[q]? ∧Out a' e' A' xb tv' F' q:=by
 obtain⟨h1,h2,h3,h4,h5⟩:=o;obtain⟨g0,g1,g2,g3,g4⟩:=h.2 q hq h1 h2 h3 h4 h5;exact⟨g0,g1,g2,h3,g3,g4⟩
theorem old(h:Asd w xb tv a e A F w' tv' a' e' A' F'){B:Nat}{v:World}(hb:Below B v w)(hB:B≤w.heap.size)(ho:∀q,q<B→Out a e A xb tv F q):Below B v w'∧∀q,q<B→Out a' e' A' xb tv' F' q:=
 ⟨⟨h.1.os.trans hb.os,h.1.tape.trans hb.tape,h.1.output.trans hb.output,Nat.le_trans hb.size h.1.size,fun q hq=>(h.out (Nat.lt_of_lt_of_le hq hB) (ho q hq)).1.trans (hb.block q hq)⟩,fun q hq=>(h.out (Nat.lt_of_lt_of_le hq hB) (ho q hq)).2⟩
end Asd
abbrev pf(pb mb mc g cap:Nat)(tw:Value):Nat→Prop:=Pb.foot pb mb mc (.slice (some ⟨g,0,none⟩) 1 cap) tw
def GoP(w:World)(base xb:Nat)(S:Nat→Slt)(tv:Value)(T:List Eve)(a:KAt)(K:Kn)(e:EAt)(E:En)(n pb mb mc:Nat)(s:Int→Bool)(k g cap:Nat)(x:Wt)(f:Int→Int)(c:Nat)(tw:Value)(Tr:List Int)(m:Nat)(r:Ending)(w':World):Prop:=
 ∃(kd at':Int) (i:Nat) (tv':Value) (T':List Eve) (a':KAt) (K':Kn) (e':EAt) (E':En) (sn:ByteArray) (f':Int→Int) (c':Nat) (tw':Value) (R:List Int),r=.returned (.tuple #[hit kd at' 0,.int .i64 i,.int .i64 0])∧Pe w' base xb S tv' T' a' K' e' E' n pb mb mc s k g cap ⟨sn,x.at',x.n⟩ f' c' tw' R∧GoX s x K E T f c Tr m kd at' i K' E' T' f' c' R∧Asd w xb tv a e E.A (pf pb mb mc g cap tw) w' tv' a' e' E'.A (pf pb mb mc g cap tw')
def gRel(w:World)(base xb:Nat)(S:Nat→Slt)(tv:Value)(T:List Eve)(a:KAt)(K:Kn)(e:EAt)(E:En)(n pb mb mc:Nat)(s:Int→Bool)(k g cap:Nat)(x:Wt)(f:Int→Int)(c:Nat)(tw:Value)(Tr:List Int)(m hb:Nat)(vi:Value)(wr:World):Prop:=
 ∃(i:Nat) (tv':Value) (T':List Eve) (a':KAt) (K':Kn) (e':EAt) (E':En) (sn:ByteArray) (f':Int→Int) (c':Nat) (tw':Value) (R:List Int),vi=.int .i64 i∧i≤m∧Pe wr base xb S tv' T' a' K' e' E' n pb mb mc s k g cap ⟨sn,x.at',x.n⟩ f' c' tw' R∧
  (Gw s x K E T f c Tr i K' E' T' f' c' R∨i<m∧E'.kind≠2∧GoX s x K E T f c Tr m 3 0 i K' E' T' f' c' R)∧Asd w xb tv a e E.A (pf pb mb mc g cap tw) wr tv' a' e' E'.A (pf pb mb mc g cap tw')∧
  (T'.length≤T.length+i+1∧K'.N.sent.length≤K.N.sent.length+i+1∧(∀y,f' y≤f y+i)∧c'≤c+i∧R.length≤32)∧wr.heap[hb]? =some (.cells #[.int .u8 0,.int .u32 0,.int .i64 0] 65 (0,0))∧(a'.tag hb=0∧¬e'.foot E'.A hb∧hb≠xb∧tv'.ownBlock≠some hb∧¬pf pb mb mc g cap tw' hb)
theorem Pe.side{w w':World}{base xb:Nat}{S:Nat→Slt}{tv:Value}{T:List Eve}{a:KAt}{K:Kn}{e:EAt}{E:En}{n pb mb mc k g cap c:Nat}{s:Int→Bool}{x:Wt}{f:Int→Int}{tw:Value}{Tr:List Int}{F:Nat→Prop}(h:Pe w base xb S tv T a K e E n pb mb mc s k g cap x f c tw Tr)(hm:Mod F w w')(hF:∀q,F q→a.tag q=0∧¬e.foot E.A q∧q≠xb∧tv.ownBlock≠some q∧¬pf pb mb mc g cap tw q):Pe w' base xb S tv T a K e E n pb mb mc s k g cap x f c tw Tr:=
 { h with xe:=h.xe.keep hm fun q z=>⟨(hF q z).1,(hF q z).2.1,(hF q z).2.2.1,(hF q z).2.2.2.1⟩,pr:=h.pr.mod hm fun q hq z=>(hF q z).2.2.2.2 hq }
theorem set_hit{w:World}{hb:Nat}{x y z:Value}(h:w.heap[hb]? =some (.cells #[x,y,z] 65 (0,0)))(kd p n:Int):(((w.setCell ⟨hb,0,none⟩ (.int .u8 kd)).setCell ⟨hb,1,none⟩ (.int .u32 p)).setCell ⟨hb,2,none⟩ (.int .i64 n)).heap[hb]? =some (.cells #[.int .u8 kd,.int .u32 p,.int .i64 n] 65 (0,0))∧Mod (fun q=>q=hb) w (((w.setCell ⟨hb,0,none⟩ (.int .u8 kd)).setCell ⟨hb,1,none⟩ (.int .u32 p)).setCell ⟨hb,2,none⟩ (.int .i64 n)):=by
 have h1:=heap_setCell_same w hb 0 _ _ (.int .u8 kd) h;have h2:=heap_setCell_same _ hb 1 _ _ (.int .u32 p) h1;have h3:=heap_setCell_same _ hb 2 _ _ (.int .i64 n) h2;exact⟨h3,Mod.setCell (F:=fun q=>q=hb) (Mod.setCell (F:=fun q=>q=hb) (Mod.setCell (F:=fun q=>q=hb) (Mod.refl _ _) ⟨hb,0,none⟩ (.inl rfl) _) ⟨hb,1,none⟩ (.inl rfl) _) ⟨hb,2,none⟩ (.inl rfl) _⟩
theorem hit_cells{w:World}{hb:Nat}{x y z:Value}(h:w.heap[hb]? =some (.cells #[x,y,z] 65 (0,0))):w.cell? ⟨hb,0,none⟩=some x∧w.cell? ⟨hb,1,none⟩=some y∧w.cell? ⟨hb,2,none⟩=some z∧∀j,w.frozen? ⟨hb,j,none⟩=false:=by
 refine⟨?_, ?_, ?_,fun j=> ?_⟩
 ·unfold World.cell?;rw[h];rfl
 ·unfold World.cell?;rw[h];rfl
 ·unfold World.cell?;rw[h];rfl
 ·unfold World.frozen?;rw[h];simp
theorem gw_le{s:Int→Bool}{x:Wt}{K0:Kn}{E0:En}{T0:List Eve}{f0:Int→Int}{c0:Nat}{R0:List Int}{i:Nat}{K:Kn}{E:En}{T:List Eve}{f:Int→Int}{c:Nat}{R:List Int}(h:Gw s x K0 E0 T0 f0 c0 R0 i K E T f c R):T.length≤T0.length+i∧K.N.sent.length≤K0.N.sent.length+i∧E.num=E0.num:=by
 induction h with
 |nil=>exact⟨by omega,by omega,rfl⟩
 |step h hk hb hr hs ih=>
  have g:=run_len hr;exact⟨by omega,by omega,g.2.2.1.trans ih.2.2⟩
def kindAt(w:World)(b:Nat):Nat:=match w.cell? ⟨b,4,none⟩ with|some (.int _ k)=>if k=2 then 1 else 0|_=>0
theorem kind_le(w:World)(b:Nat):kindAt w b≤1:=by
 unfold kindAt
 split
 ·split<;>omega
 ·omega
theorem kind_env{w:World}{e:EAt}{E:En}(h:Env w e E){b:Nat}(hb:e.eb=b):kindAt w b=if E.kind=2 then 1 else 0:=by
 subst hb;have:w.cell? ⟨e.eb,4,none⟩=some (.int .u8 E.kind):=by
  unfold World.cell?;rw[h.blk];rfl
 unfold kindAt;rw[this]
theorem go{w:World}{base xb:Nat}{S:Nat→Slt}{tv:Value}{Te:List Eve}{a:KAt}{K:Kn}{e:EAt}{E:En}{n pb mb mc k g cap c:Nat}{s:Int→Bool}{x:Wt}{f:Int→Int}{tw:Value}{Tr:List Int}(h:Pe w base xb S tv Te a K e E n pb mb mc s k g cap x f c tw Tr)(m:Nat)(hm:m≤1000)(a0:0≤x.at')(a1:x.at'≤4294967295)(hT:Te.length≤90000)(hN:K.N.sent.length≤90000)(hf:∀y,f y≤900000)(hc:c≤900000)(hR:Tr.length≤32):
  Calls Tryz.prog 27 #[.pointer (some ⟨pb,0,none⟩),.int .i64 m] w (GoP w base xb S tv Te a K e E n pb mb mc s k g cap x f c tw Tr m):=by
 have HFin:=Lh fun V kd at' (i:Nat) tv' T' a' K' e' E' sn f' c' tw' R g1 g2 g3=>(show GoP w base xb S tv Te a K e E n pb mb mc s k g cap x f c tw Tr m (.returned (.tuple #[hit kd at' 0,.int .i64 i,.int .i64 0])) V from⟨kd,at',i,tv',T',a',K',e',E',sn,f',c',tw',R,rfl,g1,g2,g3⟩)
 generalize GoP w base xb S tv Te a K e E n pb mb mc s k g cap x f c tw Tr m=PQ at*;have HEb:=Lh h.sl.2;have hA:=(Below.refl w.heap.size w).alloc (Nat.le_refl _) (.cells #[.int .u8 0,.int .u32 0,.int .i64 0] 65);have hN0:=heap_alloc_new w (.cells #[.int .u8 0,.int .u32 0,.int .i64 0] 65);have h1:=h.below hA;have hfr:=h.xe.fresh (Nat.le_refl w.heap.size);have hpf:¬pf pb mb mc g cap tw w.heap.size:=fun z=>Nat.lt_irrefl _ (h.lt z)
 have hm0:(0:Int)≤m:=by omega
 have hm1:(m:Int)≤65536:=by omega
 obtain⟨w1,hw1⟩:∃y,w.alloc (.cells #[.int .u8 0,.int .u32 0,.int .i64 0] 65)=y:=⟨_,rfl⟩;obtain⟨hb,hhb⟩:∃y,w.heap.size=y:=⟨_,rfl⟩;rw[hw1] at hA hN0 h1;rw[hhb] at hN0 hfr hpf;have HR0:Hid (gRel w base xb S tv Te a K e E n pb mb mc s k g cap x f c tw Tr m hb (.int .i64 0) w1):=Lh ⟨0,tv,Te,a,K,e,E,x.seen,f,c,tw,Tr,rfl,by omega,h1,.inl .nil,(Asd.refl w xb tv a e E.A _).below hA,⟨by omega,by omega,fun y=>by omega,by omega,hR⟩,hN0,hfr.1,hfr.2.1,hfr.2.2.1,hfr.2.2.2,hpf⟩;have HBd:=Lh (And.intro hm (And.intro a0 (And.intro a1 (And.intro hT (And.intro hN (And.intro hf hc))))));clear h hm a0 a1 hT hN hf hc hR hA hN0 h1 hfr hpf;go_enter func27,ntmps27;go_wp2_with fail;clear hw1;go_loopw [5] (fun vi wr=>gRel w base xb S tv Te a K e E n pb mb mc s k g cap x f c tw Tr m hb vi wr) (fun vi wr=>2*(m - (intOf vi).toNat)+kindAt wr e.eb)
 case atStart=>exact HR0.out
 case round=>
  clear HR0;obtain⟨i,tv',T',a',K',e',E',sn,f',c',tw',R,rfl,him,hpe,hgw,has,hbd,hhit,hap⟩:=hrel;have heb:e'.eb=e.eb:=Option.some.inj (hpe.sl.2.symm.trans HEb.out);have HKd:=Lh (kind_env hpe.xe.j.en heb);clear heb;have HP:=Lh hpe;have HG:=Lh hgw;have HA:=Lh has;have HB:=Lh hbd;have HH:=Lh hhit;have HAp:=Lh hap;obtain⟨p0,p1,p2,p3,p4,p5,_⟩:=hpe.pr.cells;obtain⟨t0,t1,t2,tf⟩:=hit_cells hhit;have tf0:=tf 0;have tf1:=tf 1;have tf2:=tf 2;clear hpe hgw has hbd hhit hap tf
  by_cases hin:i<m
  ·have hin':(i:Int)<m:=by omega
   have HSt:Hid (∀V,Below wr.heap.size wr V→Calls Tryz.prog 58 #[.pointer (some ⟨xb,0,none⟩),.int .i64 n] V (Ex.StateP V E')):=Lh fun V hV=>Ex.state (HP.out.below hV).xe.x n HP.out.n1.1 HP.out.n1.2 HP.out.sl.1 HP.out.sl.2 (HP.out.below hV).xe.j.en
   have HS:Hid (∀V,Below wr.heap.size wr V→V.cell? ⟨pb,0,none⟩=some (.pointer (some ⟨xb,0,none⟩))∧V.cell? ⟨pb,1,none⟩=some (.int .i64 n)∧True):=Lh fun V hV=>⟨(HP.out.below hV).pr.cells.1,(HP.out.below hV).pr.cells.2.1,trivial⟩
   go_wp2_with fail;refine B (fun V=>V.cell? ⟨pb,0,none⟩=some (.pointer (some ⟨xb,0,none⟩))∧V.cell? ⟨pb,1,none⟩=some (.int .i64 n)∧True) (HS.out _ Br.drew) fun wd hwd hS=> ?_
   have HBw:=Lh (show Below wr.heap.size wr wd by rw[hwd];exact Br.drew);clear hwd p0 p1 p2 p3 p4 p5 t0 t1 t2 tf0 tf1 tf2;refine T 0 hS ?_;refine T 1 hS ?_;refine T 2 hS ?_;refine T 3 hS ?_;refine T 4 hS ?_;refine T 5 hS ?_;refine T 6 hS ?_;refine T 7 hS ?_;refine U 8 fun K'' hK=> ?_
   go_simp;go_at_call 58;refine(HSt.out wd HBw.out).mono ?_;rintro r w2 ⟨rfl,hb2⟩;have HB2:=Lh (bQ HBw.out hb2);have hS:=HS.out w2 HB2.out;clear hb2;refine V hK hS ?_;clear hK K'';have hfl:(Instr.field 147 (.agg #[.int .u8 E'.kind,.int .u32 E'.code,.int .i64 E'.why]) 0).run Tryz.prog w2=.ok (.int .u8 E'.kind) w2:=by kernel_rfl
   refine U 9 fun K'' hK=> ?_
   go_simp;refine V hK hS ?_;clear hK K'' hfl;refine T 10 hS ?_;refine wpAnyH_done (by kernel_rfl) ?_ _;have HP2:=Lh (HP.out.below HB2.out);have HA2:=Lh (HA.out.below HB2.out);have HH2:=Lh ((HB2.out.block _ (lQ HH.out)).trans HH.out);clear hS HP HA HH HSt HS HB2 HBw;obtain⟨t0,t1,t2,tf⟩:=hit_cells HH2.out;have tf0:=tf 0;have tf1:=tf 1;have tf2:=tf 2;clear tf
   by_cases hk:E'.kind=2
   ·have hgw:Gw s x K E Te f c Tr i K' E' T' f' c' R:=HG.out.elim id fun z=>absurd hk z.2.1
    have HGw:=Lh hgw;clear hgw HG;have HS:Hid (∀V,Below w2.heap.size w2 V→V.cell? ⟨pb,0,none⟩=some (.pointer (some ⟨xb,0,none⟩))∧V.cell? ⟨pb,1,none⟩=some (.int .i64 n)∧True):=Lh fun V hV=>⟨(HP2.out.below hV).pr.cells.1,(HP2.out.below hV).pr.cells.2.1,trivial⟩
    go_wp2_with fail;refine B (fun V=>V.cell? ⟨pb,0,none⟩=some (.pointer (some ⟨xb,0,none⟩))∧V.cell? ⟨pb,1,none⟩=some (.int .i64 n)∧True) (HS.out _ Br.drew) fun wd hwd hS=> ?_
    have HBw:=Lh (show Below w2.heap.size w2 wd by rw[hwd];exact Br.drew);clear hwd t0 t1 t2 tf0 tf1 tf2;refine T 0 hS ?_;refine T 1 hS ?_;refine T 2 hS ?_;refine T 3 hS ?_;refine T 4 hS ?_;refine T 5 hS ?_;refine T 6 hS ?_;refine T 7 hS ?_;refine U 8 fun K'' hK=> ?_
    go_simp;go_at_call 29;refine((HP2.out.xq).c wd HBw.out).mono ?_;rintro r w3 ⟨rfl,rfl⟩;refine V hK hS ?_;clear hK K'';refine U 9 fun K'' hK=> ?_
    go_simp;go_at_call 30;refine(Cp.pc_ok (HP2.out.below HBw.out).xq.g).mono ?_;rintro r w3 ⟨rfl,rfl⟩;refine V hK hS ?_;clear hK K'';refine T 10 hS ?_;refine wpAnyH_done (by kernel_rfl) ?_ _;have HP3:=Lh (HP2.out.below HBw.out);have HA3:=Lh (HA2.out.below HBw.out);have HH3:=Lh ((HBw.out.block _ (lQ HH2.out)).trans HH2.out);clear hS HP2 HA2 HH2 HS HBw;obtain⟨p0,p1,p2,p3,p4,p5,_⟩:=HP3.out.pr.cells;obtain⟨t0,t1,t2,tf⟩:=hit_cells HH3.out;have tf0:=tf 0;have tf1:=tf 1;have tf2:=tf 2;clear tf;have hl:=HP3.out.pr.bk.look E'.pc HP3.out.xe.j.en.cp.p0 HP3.out.xe.j.en.cp.p1;obtain⟨z,hz⟩:∃z,(decide (0<i)&&s E'.pc)=z:=⟨_,rfl⟩;have HZ:=Lh hz;clear hz;go_upto_region 9 with(fail);go_cut [59] (fun s59 wx=>s59=.bool z∧wx=wd)
    case first=>
     by_cases h0:i=0
     ·subst h0;obtain rfl:z=false:=by rw[←HZ.out];rfl
      clear hl HZ;go_wp2;go_meet;exact⟨rfl,rfl⟩
     ·have h0':(0:Int)<i:=by omega
      have hz:s E'.pc=z:=by rw[←HZ.out,decide_eq_true (by omega)];rfl
      rw[hz] at hl;clear hz HZ;go_wp2;go_meet;exact⟨rfl,rfl⟩
    case rest=>
     obtain⟨rfl,rfl⟩:=hcut;clear hl;cases z with
     |true=>
      have h0:0<i∧s E'.pc=true:=by simpa using HZ.out
      have hgo:GoX s x K E Te f c Tr m 1 E'.pc i K' E' T' f' c' R:=.stop HGw.out hin hk h0.1 h0.2;obtain⟨q1,q2⟩:=set_hit HH3.out 1 E'.pc 0;have HQ1:=Lh q1;have HE:=Lh (HFin.out _ 1 E'.pc i tv' T' a' K' e' E' sn f' c' tw' R (HP3.out.side q2 fun q z=>z▸HAp.out) hgo (HA3.out.hit q2 (Nat.le_of_eq hhb)));clear q1 q2 hgo h0;go_wp2;exact bodyPost_ret (results_three Tryz.results27 rfl rfl rfl (load_hit HQ1.out)) rfl HE.out
     |false=>
      have hbr:i=0∨s E'.pc=false:=by
       have:=HZ.out;simp at this;rcases Nat.eq_zero_or_pos i with q|q
       ·exact .inl q
       ·exact .inr (this q)
      have HBr:=Lh hbr;clear hbr HZ;go_wp2_with fail;refine(see HP3.out.pr HP3.out.xq HBd.out.2.1 HBd.out.2.2.1).mono ?_;rintro r w4 ⟨rfl,hp4,hm4⟩;have hpe4:=HP3.out.prb hm4 (fun q z=>.inl (.inr (.inr (.inr (.inl (by rw[z];rfl)))))) hp4 fun q z=>.inl z
      have hgx:hb≠g:=fun z=>HAp.out.2.2.2.2 (.inr (.inr (.inr (.inl (by rw[z];rfl)))))
      have HP4:=Lh hpe4;have HA4:=Lh (HA3.out.trans (Asd.prb hm4 (fun q z=>.inl (.inr (.inr (.inr (.inl (by rw[z];rfl)))))) fun q z=>.inl z));have HH4:=Lh ((hm4.block _ (lQ HH3.out) hgx).trans HH3.out);have HRn:Hid (∀V,Below w4.heap.size w4 V→Calls Tryz.prog 35 #[.pointer (some ⟨xb,0,none⟩),.int .i64 n,.int .i64 1] V (RunG V base xb S tv' T' a' K' e' E' 1)):=Lh fun V hV=>Ex.runG (HP4.out.below hV).xe n HP4.out.n1.1 HP4.out.n1.2 HP4.out.sl.1 HP4.out.sl.2 HP4.out.num 1 (by omega) (by have:=HBd.out;have:=HB.out;omega) (by have:=HBd.out;have:=HB.out;omega)
      have HS:Hid (∀V,Below w4.heap.size w4 V→V.cell? ⟨pb,0,none⟩=some (.pointer (some ⟨xb,0,none⟩))∧V.cell? ⟨pb,1,none⟩=some (.int .i64 n)∧True):=Lh fun V hV=>⟨(HP4.out.below hV).pr.cells.1,(HP4.out.below hV).pr.cells.2.1,trivial⟩
      clear hp4 hm4 hpe4 hgx HP3 HA3 HH3 p0 p1 p2 p3 p4 p5 t0 t1 t2 tf0 tf1 tf2;go_wp2_with fail;refine B (fun V=>V.cell? ⟨pb,0,none⟩=some (.pointer (some ⟨xb,0,none⟩))∧V.cell? ⟨pb,1,none⟩=some (.int .i64 n)∧True) (HS.out _ Br.drew) fun wd hwd hS=> ?_
      have HBw:=Lh (show Below w4.heap.size w4 wd by rw[hwd];exact Br.drew);clear hwd;refine T 0 hS ?_;refine T 1 hS ?_;refine T 2 hS ?_;refine T 3 hS ?_;refine T 4 hS ?_;refine T 5 hS ?_;refine T 6 hS ?_;refine T 7 hS ?_;refine U 8 fun K'' hK=> ?_
      go_simp;go_at_call 35;refine(HRn.out wd HBw.out).mono ?_;rintro r w5 ⟨m1,tv2,T2,a2,K2,e2,E2,rfl,hx2,hst2,hru2⟩;have hnum:=(run_len hru2).2.2.1;have hpe5:=(HP4.out.below HBw.out).ran hx2 hst2 hnum;have hh5:=HAp.out;obtain⟨b1,b2,b3,b4⟩:=hst2.out (Nat.lt_of_lt_of_le (lQ HH4.out) HBw.out.size) hh5.1 hh5.2.1 hh5.2.2.1 hh5.2.2.2.1;have HP5:=Lh hpe5;have HA5:=Lh ((HA4.out.below HBw.out).trans (Asd.ran hst2 _));have HH5:=Lh (b1.trans ((HBw.out.block _ (lQ HH4.out)).trans HH4.out));have HAp5:=Lh (And.intro b2 (And.intro b3 (And.intro hh5.2.2.1 (And.intro b4 hh5.2.2.2.2))));have HRu:=Lh hru2;have hS:w5.cell? ⟨pb,0,none⟩=some (.pointer (some ⟨xb,0,none⟩))∧w5.cell? ⟨pb,1,none⟩=some (.int .i64 n)∧True:=⟨hpe5.pr.cells.1,hpe5.pr.cells.2.1,trivial⟩;have hone:=run_one hk hru2;have HP5pc:=Lh (And.intro HP4.out.xe.j.en.cp.p0 HP4.out.xe.j.en.cp.p1);clear hx2 hst2 hru2 hnum hpe5 hh5 b1 b2 b3 b4 HBw HS HRn HP4 HA4 HH4 HAp;refine V hK hS ?_;clear hK K'';refine T 9 hS ?_;refine T 10 hS ?_;refine T 11 hS ?_;refine T 12 hS ?_;refine T 13 hS ?_;refine wpAnyH_done (by kernel_rfl) ?_ _;clear hS;rcases hone with rfl|⟨rfl,hk2⟩
      ·obtain⟨p0,p1,p2,p3,p4,p5,pfz⟩:=HP5.out.pr.cells;have hlk:=HP5.out.pr.ct.look E'.pc HP5pc.out.1 HP5pc.out.2;have hb4:=HB.out.2.2.1 E'.pc;have hb5:=HP5.out.pr.ct.bd E'.pc;have hbd6:=HBd.out.2.2.2.2.2.1 E'.pc;have hmm:=HBd.out.1;obtain⟨w6,hrun,hc6,hm6⟩:=HP5.out.pr.ct.put E'.pc HP5pc.out.1 HP5pc.out.2 (by omega) (by have:=HBd.out.2.2.2.2.2.2;have:=HB.out.2.2.2.1;omega);have iw:IntKind.u64.wrap (f' E'.pc+1)=f' E'.pc+1:=by rw[IntKind.wrap_u64];omega
       go_upto_region 16 with(fail);have hpe6:=HP5.out.prb hm6 (fun q z=>.inl (.inr (.inr (.inl z)))) (HP5.out.pr.setC hc6 hm6) (fun q z=>.inl z);have HP6:=Lh hpe6;have HA6:=Lh (HA5.out.trans (Asd.prb (F':=pf pb mb mc g cap tw') hm6 (fun q z=>.inl (.inr (.inr (.inl z)))) fun q z=>.inl z));have HH6:=Lh ((hm6.block _ (lQ HH5.out) fun z=>HAp5.out.2.2.2.2 (.inr (.inr (.inl z)))).trans HH5.out);clear hc6 hm6 hpe6 hrun iw hlk hb4 hb5 hbd6 hmm p0 p1 p2 p3 p4 p5 pfz HP5 HA5 HH5;obtain⟨so,sc,rfl⟩:∃o cc,tw'=.slice o R.length cc:=by
        rcases HP6.out.pr.tr.2 with⟨h1,h0⟩|⟨g1,cap1,cur,h1,_⟩
        ·exact⟨none,0,by rw[h1,h0]⟩
        ·exact⟨_,cap1,h1⟩
       have hA7:=(Below.refl w6.heap.size w6).alloc (Nat.le_refl _) (.cells #[.int .u32 E'.pc] 42);have hN7:=heap_alloc_new w6 (.cells #[.int .u32 E'.pc] 42);obtain⟨w7,hw7⟩:∃y,w6.alloc (.cells #[.int .u32 E'.pc] 42)=y:=⟨_,rfl⟩;rw[hw7] at hA7 hN7;have HP7:=Lh (HP6.out.below hA7);have HA7:=Lh (HA6.out.below hA7);have HH7:=Lh ((hA7.block _ (lQ HH6.out)).trans HH6.out);have HN7:=Lh hN7;have HLr:=Lh (show R.length≤1000000 from by have:=HB.out;omega);have HB7:=Lh (show base≤w7.heap.size from HP7.out.xe.b0);obtain⟨p0,p1,p2,p3,p4,p5,pfz⟩:=HP6.out.pr.cells;clear hA7 hN7 pfz p0 p1 p2 p3 p4 HP6 HA6 HH6
       ·go_upto_if 103 with(at_builtin;refine wpList_app_u32 (by rfl) _ _ (by rfl) base _ _ (by rfl) HP7.out.pr.tr _ E'.pc (by rfl) HN7.out HLr.out HB7.out ?_;intro g9 cap9 w9 hr9 hg9 ho9;obtain⟨d0,d1,d2,d3⟩:=HP7.out.pr.setT hg9 hr9 (ho9.imp id fun q=>Nat.le_of_eq q.symm);have HD2:=Lh d2;have HD3:=Lh d3;have HO9:=Lh ho9;clear d2 d3 hr9 hg9 ho9 p5);have hpe10:=HP7.out.prb HD3.out (fun q z=>.inl (z.elim .inl fun z=>.inr (.inr (.inr (.inr z))))) HD2.out (fun q z=>by
         rcases z with z|z|z|z|z
         ·exact .inl (.inl z)
         ·exact .inl (.inr (.inl z))
         ·exact .inl (.inr (.inr (.inl z)))
         ·exact .inl (.inr (.inr (.inr (.inl z))))
         ·have z2:some g9=some q:=z;cases z2;exact HO9.out.imp (fun o=>.inr (.inr (.inr (.inr o)))) fun o=>Nat.le_of_eq o.symm)
        have hA10:=Asd.prb (tv:=tv2) (a:=a2) (e:=e2) (A:=E2.A) (xb:=xb) (F:=pf pb mb mc g cap (.slice so R.length sc)) (F':=pf pb mb mc g cap (.slice (some ⟨g9,0,none⟩) (R.length+1) cap9)) HD3.out (fun q z=>.inl (z.elim .inl fun z=>.inr (.inr (.inr (.inr z))))) (fun q z=>by
         rcases z with z|z|z|z|z
         ·exact .inl (.inl z)
         ·exact .inl (.inr (.inl z))
         ·exact .inl (.inr (.inr (.inl z)))
         ·exact .inl (.inr (.inr (.inr (.inl z))))
         ·have z2:some g9=some q:=z;cases z2;exact HO9.out.imp (fun o=>.inr (.inr (.inr (.inr o)))) fun o=>Nat.le_of_eq o.symm)
        obtain⟨k1,k2,k3,k4,k5⟩:=hA10.2 hb (lQ HH7.out) HAp5.out.1 HAp5.out.2.1 HAp5.out.2.2.1 HAp5.out.2.2.2.1 HAp5.out.2.2.2.2;have HP10:=Lh hpe10;have HA10:=Lh (HA7.out.trans hA10);have HH10:=Lh (k1.trans HH7.out);have HAp10:=Lh (And.intro k2 (And.intro k3 (And.intro HAp5.out.2.2.1 (And.intro k4 k5))));clear hpe10 hA10 k1 k2 k3 k4 k5 HP7 HA7 HH7 HN7 HB7 HLr HAp5 HD2 HD3 HO9 d0 d1 hw7;generalize w9.setCell ⟨pb,5,none⟩ (.slice (some ⟨g9,0,none⟩) (R.length+1) cap9)=w10 at*;have HRR:=Lh HB.out.2.2.2.2;go_cut [] (fun wx=>∃g1 cap1:Nat,Pe wx base xb S tv2 T2 a2 K2 e2 E2 n pb mb mc s k g cap ⟨Sp.getS E'.A x.at' x.n 0,x.at',x.n⟩ (cnt1 f' E'.pc) (if f' E'.pc=0 then c'+1 else c') (.slice (some ⟨g1,0,none⟩) (last32 (R++[E'.pc])).length cap1) (last32 (R++[E'.pc]))∧Asd w xb tv a e E.A (pf pb mb mc g cap tw) wx tv2 a2 e2 E2.A (pf pb mb mc g cap (.slice (some ⟨g1,0,none⟩) (last32 (R++[E'.pc])).length cap1))∧wx.heap[hb]? =some (.cells #[.int .u8 0,.int .u32 0,.int .i64 0] 65 (0,0))∧(a2.tag hb=0∧¬e2.foot E2.A hb∧hb≠xb∧tv2.ownBlock≠some hb∧¬pf pb mb mc g cap (.slice (some ⟨g1,0,none⟩) (last32 (R++[E'.pc])).length cap1) hb))
        case first=>
         obtain⟨p0,p1,p2,p3,p4,p5,pfz⟩:=HP10.out.pr.cells
         by_cases h32:R.length+1≤32
         ·have h32':(R.length:Int)+1≤32:=by omega
          have hln:last32 (R++[E'.pc])=R++[E'.pc]:=last_id _ (by rw[List.length_append];exact h32);have hl2:(R++[E'.pc]).length=R.length+1:=by rw[List.length_append];rfl
          have HLn:=Lh (And.intro hln hl2);clear hln hl2;go_wp2_with fail;go_meet;refine⟨g9,cap9, ?_⟩;rw[HLn.out.1,HLn.out.2];exact⟨HP10.out,HA10.out,HH10.out,HAp10.out⟩
         ·have h33:R.length=32:=by have:=HRR.out;omega
          have hdl:(R++[E'.pc]).length=33:=by rw[List.length_append,h33];rfl
          obtain⟨hls,hcp⟩:=Sl.lst_drop HP10.out.pr.tr 1 (by omega);have hdd:(List.drop 1 (R++[E'.pc])).length=32:=by rw[List.length_drop,hdl]
          have hld:last32 (R++[E'.pc])=List.drop 1 (R++[E'.pc]):=by unfold last32;rw[hdl]
          rw[hdl] at hcp;obtain⟨D,hD⟩:∃D,List.drop 1 (R++[E'.pc])=D:=⟨_,rfl⟩;rw[hD] at hls hdd hld;rw[hdd] at hls;have HLs:=Lh hls;have HDd:=Lh (And.intro hdd hld);rw[show R.length+1=33 by omega] at p5;have HP5:=Lh p5;have pf5:=pfz 5;have iw1:IntKind.i64.wrap 1=1:=by decide
          have hc9:¬cap9=1:=by omega
          have hgt:(32:Int)<(R.length:Int)+1:=by omega
          have H33:=Lh h33;clear hls hdd hld hdl pfz h32 hD h33;go_upto_region 18 with fail;refine LB (fun V=>V.cell? ⟨pb,5,none⟩=some (.slice (some ⟨g9,0,none⟩) 33 cap9)∧True) 15 ⟨HP5.out,trivial⟩ fun wd hwd hS=> ?_
          have HBw:=Lh (show Below w10.heap.size w10 wd by rw[hwd];exact Br.drew);clear hwd p0 p1 p2 p3 p4 p5 pf5;refine LT 0 hS ?_;refine LT 1 hS ?_;refine LT 2 hS ?_;refine LT 3 hS ?_;refine LT 4 hS ?_;refine LT 5 hS ?_;refine LT 6 hS ?_;refine LT 7 hS ?_;refine LT 8 hS ?_;refine LU 9 fun K'' hK=> ?_
          go_simp;refine LV hK (fun _=>hS) ?_;clear hK K'';refine LT 10 hS ?_;refine LT 11 hS ?_;refine LU 12 fun K'' hK=> ?_
          go_simp;have hpd:=HP10.out.below HBw.out;have hld:Sl.Lst wd (.slice (some ⟨g9,1,none⟩) 32 (cap9 - 1)) D:=SlV.keep HLs.out fun q hq=>HBw.out.block q (by cases hq;exact(row_lt HP10.out.pr.tr rfl).2)
          refine(Sl.clone_own hld (by rw[HDd.out.1];decide) (by rw[HDd.out.1];decide)).mono ?_;rintro r w11 ⟨g1,cap1,rfl,hr11,hb11⟩;have hg1:=(row_lt hr11 rfl).1;obtain⟨d0,d1,d2,d3⟩:=hpd.pr.setT (w5:=w11) ⟨hb11.os,hb11.tape,hb11.output,hb11.size,fun q hq _=>hb11.block q hq⟩ (row_base hr11 hpd.xe.b0) (.inr hg1);rw[H33.out] at d1;have hS11:w11.cell? ⟨pb,5,none⟩=some (.slice (some ⟨g9,0,none⟩) 33 cap9)∧True:=⟨d1,trivial⟩;have hft:∀q,pf pb mb mc g cap (.slice (some ⟨g1,0,none⟩) D.length cap1) q→pf pb mb mc g cap (.slice (some ⟨g9,0,none⟩) (R.length+1) cap9) q∨wd.heap.size≤q:=fun q z=>by
           rcases z with z|z|z|z|z
           ·exact .inl (.inl z)
           ·exact .inl (.inr (.inl z))
           ·exact .inl (.inr (.inr (.inl z)))
           ·exact .inl (.inr (.inr (.inr (.inl z))))
           ·have z2:some g1=some q:=z;cases z2;exact .inr hg1
          have hmF:∀q,(q=pb∨(Value.slice (some ⟨g9,0,none⟩) (R.length+1) cap9).ownBlock=some q)→pf pb mb mc g cap (.slice (some ⟨g9,0,none⟩) (R.length+1) cap9) q∨wd.heap.size≤q:=fun q z=>.inl (z.elim .inl fun z=>.inr (.inr (.inr (.inr z))))
          have hpe12:=hpd.prb d3 hmF d2 hft;have ha12:=Asd.prb (tv:=tv2) (a:=a2) (e:=e2) (A:=E2.A) (xb:=xb) (F:=pf pb mb mc g cap (.slice (some ⟨g9,0,none⟩) (R.length+1) cap9)) (F':=pf pb mb mc g cap (.slice (some ⟨g1,0,none⟩) D.length cap1)) d3 hmF hft;have hhd:=(HBw.out.block hb (lQ HH10.out)).trans HH10.out;obtain⟨k1,k2,k3,k4,k5⟩:=ha12.2 hb (lQ hhd) HAp10.out.1 HAp10.out.2.1 HAp10.out.2.2.1 HAp10.out.2.2.2.1 HAp10.out.2.2.2.2;have HE12:=Lh (And.intro hpe12 (And.intro ((HA10.out.below HBw.out).trans ha12) (And.intro (k1.trans hhd) (And.intro k2 (And.intro k3 (And.intro HAp10.out.2.2.1 (And.intro k4 k5)))))));clear hpe12 ha12 hhd k1 k2 k3 k4 k5 hft hmF d2 d3 hr11 hb11 hg1 hld hpd hS;refine LV hK (fun _=>hS11) ?_;clear hK K'';refine LU 13 fun K'' hK=> ?_
          go_simp;refine LV hK (fun _=>hS11) ?_;clear hK K'';refine LT 14 hS11 ?_;refine LU 15 fun K'' hK=> ?_
          go_simp;generalize w11.setCell ⟨pb,5,none⟩ (.slice (some ⟨g1,0,none⟩) D.length cap1)=w12 at*;refine LV hK (fun e=>absurd rfl e) ?_;clear hK K'';refine E_done (by kernel_rfl) ?_ _;clear hS11 d0 d1;go_wp2_with fail;go_meet;refine⟨g1,cap1, ?_⟩;rw[HDd.out.2];exact HE12.out
        case rest=>
        clear HP10 HA10 HH10 HAp10;obtain⟨g1,cap1,hpe10,ha10,hh10,hap10⟩:=hcut;have HP10:=Lh hpe10;have HA10:=Lh ha10;have HH10:=Lh hh10;have HAp10:=Lh hap10;clear hpe10 ha10 hh10 hap10;go_wp2_with fail;refine(changed HP10.out.pr HP10.out.xq HBd.out.2.1 HBd.out.2.2.1).mono ?_;rintro r w11 ⟨rfl,hb11⟩;have HP11:=Lh (HP10.out.below hb11);have HA11:=Lh (HA10.out.below hb11);have HH11:=Lh ((hb11.block _ (lQ HH10.out)).trans HH10.out);clear hb11 HP10 HA10 HH10;obtain⟨z,hz⟩:∃z,(!decide (Sp.getS E'.A x.at' x.n 0=Sp.getS E2.A x.at' x.n 0))=z:=⟨_,rfl⟩;have HZ:=Lh hz;simp only[hz];clear hz;cases z with
        |false=>
         have hg2:Gw s x K E Te f c Tr (i+1) K2 E2 T2 (cnt1 f' E'.pc) (if f' E'.pc=0 then c'+1 else c') (last32 (R++[E'.pc])):=Gw.step HGw.out hk HBr.out HRu.out (by have:=HZ.out;simpa using this);have hgl:=gw_le hg2;have hrel:gRel w base xb S tv Te a K e E n pb mb mc s k g cap x f c tw Tr m hb (.int .i64 ((i+1:Nat):Int)) w11:=⟨i+1,tv2,T2,a2,K2,e2,E2,_,cnt1 f' E'.pc,if f' E'.pc=0 then c'+1 else c',.slice (some ⟨g1,0,none⟩) (last32 (R++[E'.pc])).length cap1,last32 (R++[E'.pc]),rfl,hin,HP11.out,.inl hg2,HA11.out,⟨by omega,by omega,fun y=>by
          have h1:=HB.out.2.2.1 y;have h2:=HB.out.2.2.1 E'.pc;unfold cnt1
          split
          ·rename_i q;rw[q];omega
          ·omega,by
          have:=HB.out.2.2.2.1
          split<;>omega,last_len _⟩,HH11.out,HAp10.out⟩
         have HRel:=Lh hrel;have hkl:=kind_le w11 e.eb;have HKl:=Lh (show 2*(m - (i+1))+kindAt w11 e.eb<2*(m - i)+kindAt wr e.eb by omega);clear hrel hgl hg2 hkl HP11 HA11 HH11;go_wp2;have h9:=HRel.out;rw[show((i+1:Nat):Int)=(i:Int)+1 by omega] at h9;refine⟨h9, ?_⟩;have h8:=HKl.out;simp only[intOf];rw[show((i:Int)+1).toNat=i+1 by omega,show((i:Int)).toNat=i by omega];exact h8
        |true=>
         have hne:Sp.getS E'.A x.at' x.n 0≠Sp.getS E2.A x.at' x.n 0:=by have:=HZ.out;simpa using this
         have hgo:GoX s x K E Te f c Tr m 2 E2.pc (i+1) K2 E2 T2 (cnt1 f' E'.pc) (if f' E'.pc=0 then c'+1 else c') (last32 (R++[E'.pc])):=GoX.watch HGw.out hin hk HBr.out HRu.out hne;have HGo:=Lh hgo;have HS:Hid (∀V,Below w11.heap.size w11 V→V.cell? ⟨pb,0,none⟩=some (.pointer (some ⟨xb,0,none⟩))∧V.cell? ⟨pb,1,none⟩=some (.int .i64 n)∧True):=Lh fun V hV=>⟨(HP11.out.below hV).pr.cells.1,(HP11.out.below hV).pr.cells.2.1,trivial⟩
         clear hne hgo;go_wp2_with fail;refine B (fun V=>V.cell? ⟨pb,0,none⟩=some (.pointer (some ⟨xb,0,none⟩))∧V.cell? ⟨pb,1,none⟩=some (.int .i64 n)∧True) (HS.out _ Br.drew) fun wd hwd hS=> ?_
         have HBw:=Lh (show Below w11.heap.size w11 wd by rw[hwd];exact Br.drew);clear hwd;refine T 0 hS ?_;refine T 1 hS ?_;refine T 2 hS ?_;refine T 3 hS ?_;refine T 4 hS ?_;refine T 5 hS ?_;refine T 6 hS ?_;refine T 7 hS ?_;refine T 10 hS ?_;refine T 12 hS ?_;refine U 8 fun K'' hK=> ?_
         go_simp;go_at_call 29;refine((HP11.out.xq).c wd HBw.out).mono ?_;rintro r w12 ⟨rfl,rfl⟩;refine V hK hS ?_;clear hK K'';refine U 9 fun K'' hK=> ?_
         go_simp;go_at_call 30;refine(Cp.pc_ok (HP11.out.below HBw.out).xq.g).mono ?_;rintro r w12 ⟨rfl,rfl⟩;refine V hK hS ?_;clear hK K'';refine T 11 hS ?_;have hh12:=(HBw.out.block _ (lQ HH11.out)).trans HH11.out;obtain⟨t0,t1,t2,tf⟩:=hit_cells hh12;have tf0:=tf 0;have tf1:=tf 1;have tf2:=tf 2;obtain⟨q1,q2⟩:=set_hit hh12 2 E2.pc 0;have hpe13:=(HP11.out.below HBw.out).side q2 fun q z=>z▸HAp10.out
         have HQ1:=Lh q1;have HE:=Lh (HFin.out _ 2 E2.pc (i+1) tv2 T2 a2 K2 e2 E2 _ (cnt1 f' E'.pc) (if f' E'.pc=0 then c'+1 else c') (.slice (some ⟨g1,0,none⟩) (last32 (R++[E'.pc])).length cap1) (last32 (R++[E'.pc])) hpe13 HGo.out ((HA11.out.below HBw.out).hit q2 (Nat.le_of_eq hhb)));have hS13:_∧_∧True:=⟨hpe13.pr.cells.1,hpe13.pr.cells.2.1,trivial⟩;clear q1 q2 hpe13 tf hh12 HS HBw hS;refine U 13 fun K'' hK=> ?_
         go_simp;refine V hK hS13 ?_;clear hK K'';refine T 14 hS13 ?_;refine T 15 hS13 ?_;refine wpAnyH_done (by kernel_rfl) ?_ _;clear hS13 t0 t1 t2 tf0 tf1 tf2;go_wp2;exact bodyPost_ret (results_three Tryz.results27 rfl rfl rfl (load_hit HQ1.out)) rfl HE.out
      ·have hgo:GoX s x K E Te f c Tr m 3 0 i K2 E2 T2 f' c' R:=.fault HGw.out hin hk HBr.out HRu.out hk2;have hrl:=run_len HRu.out;have heb2:e2.eb=e.eb:=Option.some.inj (HP5.out.sl.2.symm.trans HEb.out);have hk5:=kind_env HP5.out.xe.j.en heb2;have hrel:gRel w base xb S tv Te a K e E n pb mb mc s k g cap x f c tw Tr m hb (.int .i64 i) w5:=⟨i,tv2,T2,a2,K2,e2,E2,_,f',c',tw',R,rfl,him,HP5.out,.inr ⟨hin,hk2,hgo⟩,HA5.out,⟨by have:=HB.out;have:=gw_le HGw.out;omega,by have:=HB.out;have:=gw_le HGw.out;omega,HB.out.2.2.1,HB.out.2.2.2.1,HB.out.2.2.2.2⟩,HH5.out,HAp5.out⟩;have HRel:=Lh hrel;rw[if_neg hk2] at hk5;have HK5:=Lh hk5;have HK1:=Lh (HKd.out.trans (if_pos hk));clear hrel hrl heb2 hgo hk5;go_wp2;exact⟨HRel.out,by rw[HK5.out,HK1.out];omega⟩
   ·have hgo:GoX s x K E Te f c Tr m 3 0 i K' E' T' f' c' R:=HG.out.elim (fun z=>.over z hin hk) fun z=>z.2.2
    obtain⟨q1,q2⟩:=set_hit HH2.out 3 0 0;have HQ1:=Lh q1;have HE:=Lh (HFin.out _ 3 0 i tv' T' a' K' e' E' sn f' c' tw' R (HP2.out.side q2 fun q z=>z▸HAp.out) hgo (HA2.out.hit q2 (Nat.le_of_eq hhb)));clear q1 q2 hgo;go_wp2;exact bodyPost_ret (results_three Tryz.results27 rfl rfl rfl (load_hit HQ1.out)) rfl HE.out
  ·obtain rfl:i=m:=by omega
   have hend:Gw s x K E Te f c Tr i K' E' T' f' c' R:=HG.out.elim id fun z=>absurd z.1 hin
   obtain⟨q1,q2⟩:=set_hit HH.out 0 0 0;have HQ1:=Lh q1;have hres:=HFin.out (((wr.setCell ⟨hb,0,none⟩ (.int .u8 0)).setCell ⟨hb,1,none⟩ (.int .u32 0)).setCell ⟨hb,2,none⟩ (.int .i64 0)) 0 0 i tv' T' a' K' e' E' sn f' c' tw' R (HP.out.side q2 fun q z=>z▸HAp.out) (.none hend) (HA.out.hit q2 (Nat.le_of_eq hhb));have HE:=Lh hres;clear hres q1 q2 hend;go_wp2;exact bodyPost_ret (results_three Tryz.results27 rfl rfl rfl (load_hit HQ1.out)) rfl HE.out
end Pr
open Go.RowKit Pag
namespace Ex
variable {w w':World} {xb kb:Nat} {S:Nat→Slt} {tv:Value}
theorem ofN(h:Ex w xb kb S tv)(n:Nat)(n1:1≤n)(n8:n≤8)(hs:(S n).is=false):Calls Tryz.prog 55 #[.pointer (some ⟨xb,0,none⟩),.int .i64 n] w fun e w'=>e=.returned (.pointer none)∧w=w':=by
 have HH:=Lh (h.has n n1 n8);rw[hs] at HH;clear h hs;go_enter func55,ntmps55;go_wp2_with fail;refine HH.out.mono ?_;rintro e w1 ⟨rfl,rfl⟩;go_wp2;go_ret;exact⟨rfl,rfl⟩
theorem cpuO(h:Ex w xb kb S tv)(n:Nat)(n1:1≤n)(n8:n≤8)(hs:(S n).is=false):Calls Tryz.prog 29 #[.pointer (some ⟨xb,0,none⟩),.int .i64 n] w fun r w'=>r=.returned (.pointer none)∧w=w':=by
 have HO:=Lh (h.ofN n n1 n8 hs);clear h hs;go_enter func29,ntmps29;go_wp2_with fail;refine HO.out.mono ?_;rintro r w1 ⟨rfl,rfl⟩;go_wp2_with fail;refine(Ev.cpu_nil w).mono ?_;rintro r w1 ⟨rfl,rfl⟩;go_wp2;go_ret;exact⟨rfl,rfl⟩
end Ex
namespace Pr
theorem go_arg(w:World)(pb:Nat)(n:Int)(hn:n<0):Calls Tryz.prog 27 #[.pointer (some ⟨pb,0,none⟩),.int .i64 n] w fun r w'=>r=.returned (.tuple #[hit 0 0 0,.int .i64 0,.int .i64 2])∧Below w.heap.size w w':=by
 go_enter func27,ntmps27;go_wp2;exact bodyPost_ret (results_three Tryz.results27 rfl rfl rfl (load_hit (heap_alloc_new w _))) rfl ⟨rfl,(Below.refl w.heap.size w).alloc (Nat.le_refl _) _⟩
end Pr
end Go.Proofs.YtnpicaigdfnmfaaGreat
namespace Go.Proofs.YtnpicaigdfnmfaaGreat.Pr
open Go.RowKit Word Cp
def code43:Nat→Ins:=fun i=>if i=0 then⟨17,1,1,0,1⟩ else if i=1 then⟨36,0,0,1,512⟩ else⟨40,0,0,0,256⟩
def perm43:Nat→Int:=fun i=>if i=0 then 8 else if i=1 then 4 else 3
def st43(B1 B2:Nat):Cp.St:=⟨none,0,0,fun _=>0,256,some ⟨B1,0,none⟩,3,3,perm43,256,some ⟨B2,0,none⟩,3,3,code43,0, { data:= #[] }⟩
def en43:En:=⟨1,2,0,0,ByteArray.empty,[],madeA perm43 3 256 (strOfNums (textL code43 3)) 0 ByteArray.empty,regsK (fun _=>0) (min 0 16),256⟩
def e1:En:=en43.step
def e2:En:=e1.step
def e3:En:=e2.step
def e4:En:=e3.step
theorem p43:(en43.pc,e1.pc,e2.pc,e3.pc,e4.pc)=(256,264,272,256,264):=by kernel_rfl
theorem k43':(en43.kind,e1.kind,e2.kind,e3.kind,e4.kind)=(2,2,2,2,2):=by kernel_rfl
theorem s43':(en43.stop.1,e1.stop.1,e2.stop.1,e3.stop.1)=(0,0,0,0):=by kernel_rfl
theorem b43:((Sp.getS en43.A 512 4 0).data.toList,(Sp.getS e1.A 512 4 0).data.toList,(Sp.getS e2.A 512 4 0).data.toList,(Sp.getS e3.A 512 4 0).data.toList,(Sp.getS e4.A 512 4 0).data.toList)=([0,0,0,0],[0,0,0,0],[1,0,0,0],[1,0,0,0],[1,0,0,0]):=by kernel_rfl
theorem l43:(en43.A.length,(st43 0 0).pgs.length)=(2,2):=by kernel_rfl
theorem gn_zero{K0:Kn}{E0:En}{T0:List Eve}{K:Kn}{E:En}{T:List Eve}(h:Gn K0 E0 T0 0 K E T):K=K0∧E=E0∧T=T0:=by
 cases h;exact⟨rfl,rfl,rfl⟩
theorem run_step{K0:Kn}{E0:En}{T0:List Eve}{m:Nat}{K:Kn}{E:En}{T:List Eve}(hk:E0.kind=2)(hs:E0.stop.1=0)(h:RunX 1 K0 E0 T0 m K E T):m=1∧K=K0∧E=E0.step∧T=T0:=by
 rcases h with⟨h,h1,h2⟩|⟨E1,T1,h,h1,h2,h3,h4,h5⟩|⟨m1,K1,E1,T1,b,h,hm,h1,h2,h3,_⟩
 ·by_cases e:m=0
  ·subst e;obtain⟨_,rfl,_⟩:=gn_zero h;exact absurd hk (h2.resolve_left (by omega))
  ·obtain rfl:m=1:=by omega
   cases h with
   |step g hk' g1 g2=>
    obtain⟨rfl,rfl,rfl⟩:=gn_zero g;exact⟨rfl,rfl,rfl,rfl⟩
   |sys b g hk' g1 g2=>
    obtain⟨_,rfl,_⟩:=gn_zero g;omega
 ·obtain rfl:m=0:=by omega
  obtain⟨_,rfl,_⟩:=gn_zero h;omega
 ·obtain rfl:m1=0:=by omega
  obtain⟨_,rfl,_⟩:=gn_zero h;omega
end Go.Proofs.YtnpicaigdfnmfaaGreat.Pr
namespace Go.Proofs.YtnpicaigdfnmfaaGreat.Pr
open Go.RowKit
variable {s:Int→Bool} {x:Wt} {K0 K:Kn} {E0 E:En} {T0 T:List Eve} {f0 f:Int→Int} {c0 c:Nat} {R0 R:List Int}
theorem gw_one(hk:E0.kind=2)(hs:E0.stop.1=0)(hp:s E0.step.pc=true){i:Nat}(h:Gw s x K0 E0 T0 f0 c0 R0 i K E T f c R):(i=0∧K=K0∧E=E0∧T=T0∧f=f0∧c=c0∧R=R0)∨(i=1∧K=K0∧E=E0.step∧T=T0∧f=cnt1 f0 E0.pc∧c=(if f0 E0.pc=0 then c0+1 else c0)∧R=last32 (R0++[E0.pc])):=by
 induction h with
 |nil=>exact .inl ⟨rfl,rfl,rfl,rfl,rfl,rfl,rfl⟩
 |step h hk' hb hr hg ih=>
  rcases ih with⟨rfl,rfl,rfl,rfl,rfl,rfl,rfl⟩|⟨rfl,rfl,rfl,rfl,rfl,rfl,rfl⟩
  ·obtain⟨_,rfl,rfl,rfl⟩:=run_step hk hs hr;exact .inr ⟨rfl,rfl,rfl,rfl,rfl,rfl,rfl⟩
  ·rcases hb with hb|hb
   ·omega
   ·rw[hp] at hb;cases hb
theorem go_break(hk:E0.kind=2)(hs:E0.stop.1=0)(hk1:E0.step.kind=2)(hp:s E0.step.pc=true){m:Nat}(hm:1<m)(hg:Sp.getS E0.A x.at' x.n 0=Sp.getS E0.step.A x.at' x.n 0){kd p:Int}{i:Nat}(h:GoX s x K0 E0 T0 f0 c0 R0 m kd p i K E T f c R):
  kd=1∧p=E0.step.pc∧i=1∧K=K0∧E=E0.step∧T=T0∧f=cnt1 f0 E0.pc∧c=(if f0 E0.pc=0 then c0+1 else c0)∧R=last32 (R0++[E0.pc]):=by
 cases h with
 |none h=>rcases gw_one hk hs hp h with⟨q,_⟩|⟨q,_⟩<;>omega
 |over h hi hk'=>
  rcases gw_one hk hs hp h with⟨_,_,rfl,_⟩|⟨_,_,rfl,_⟩
  ·exact absurd hk hk'
  ·exact absurd hk1 hk'
 |fault h hi hk' hb hr hn=>
  rcases gw_one hk hs hp h with⟨rfl,_,rfl,_⟩|⟨rfl,_,rfl,_⟩
  ·have:=(run_step hk hs hr).1;omega
  ·rcases hb with hb|hb
   ·omega
   ·rw[hp] at hb;cases hb
 |stop h hi hk' h0 hs'=>
  rcases gw_one hk hs hp h with⟨rfl,_⟩|⟨rfl,rfl,rfl,rfl,rfl,rfl,rfl⟩
  ·omega
  ·exact⟨rfl,rfl,rfl,rfl,rfl,rfl,rfl,rfl,rfl⟩
 |watch h hi hk' hb hr hn=>
  rcases gw_one hk hs hp h with⟨rfl,_,rfl,_⟩|⟨rfl,_,rfl,_⟩
  ·obtain⟨_,_,rfl,_⟩:=run_step hk hs hr;exact absurd hg hn
  ·rcases hb with hb|hb
   ·omega
   ·rw[hp] at hb;cases hb
theorem gw_none(hk:E0.kind=2)(hs:E0.stop.1=0)(hg:Sp.getS E0.A x.at' x.n 0≠Sp.getS E0.step.A x.at' x.n 0){i:Nat}(h:Gw s x K0 E0 T0 f0 c0 R0 i K E T f c R):i=0∧K=K0∧E=E0∧T=T0∧f=f0∧c=c0∧R=R0:=by
 induction h with
 |nil=>exact⟨rfl,rfl,rfl,rfl,rfl,rfl,rfl⟩
 |step h hk' hb hr hg' ih=>
  obtain⟨rfl,rfl,rfl,rfl,rfl,rfl,rfl⟩:=ih;obtain⟨_,_,rfl,_⟩:=run_step hk hs hr;exact absurd hg' hg
theorem go_watch(hk:E0.kind=2)(hs:E0.stop.1=0)(hg:Sp.getS E0.A x.at' x.n 0≠Sp.getS E0.step.A x.at' x.n 0){m:Nat}(hm:0<m){kd p:Int}{i:Nat}(h:GoX s x K0 E0 T0 f0 c0 R0 m kd p i K E T f c R):
  kd=2∧p=E0.step.pc∧i=1∧K=K0∧E=E0.step∧T=T0∧f=cnt1 f0 E0.pc∧c=(if f0 E0.pc=0 then c0+1 else c0)∧R=last32 (R0++[E0.pc]):=by
 cases h with
 |none h=>have:=(gw_none hk hs hg h).1;omega
 |over h hi hk'=>obtain⟨_,_,rfl,_⟩:=gw_none hk hs hg h;exact absurd hk hk'
 |fault h hi hk' hb hr hn=>
  obtain⟨_,_,rfl,_⟩:=gw_none hk hs hg h;have:=(run_step hk hs hr).1;omega
 |stop h hi hk' h0 hs'=>have:=(gw_none hk hs hg h).1;omega
 |watch h hi hk' hb hr hn=>
  obtain⟨rfl,rfl,rfl,rfl,rfl,rfl,rfl⟩:=gw_none hk hs hg h;obtain⟨_,rfl,rfl,rfl⟩:=run_step hk hs hr;exact⟨rfl,rfl,rfl,rfl,rfl,rfl,rfl,rfl,rfl⟩
theorem gw_two(hk:E0.kind=2)(hs:E0.stop.1=0)(hk1:E0.step.kind=2)(hs1:E0.step.stop.1=0)(hp:s E0.step.step.pc=true){i:Nat}(h:Gw s x K0 E0 T0 f0 c0 R0 i K E T f c R):(i=0∧K=K0∧E=E0∧T=T0∧f=f0∧c=c0∧R=R0)∨(i=1∧K=K0∧E=E0.step∧T=T0∧f=cnt1 f0 E0.pc∧c=(if f0 E0.pc=0 then c0+1 else c0)∧R=last32 (R0++[E0.pc]))∨
  (i=2∧K=K0∧E=E0.step.step∧T=T0∧f=cnt1 (cnt1 f0 E0.pc) E0.step.pc∧c=(if cnt1 f0 E0.pc E0.step.pc=0 then(if f0 E0.pc=0 then c0+1 else c0)+1 else(if f0 E0.pc=0 then c0+1 else c0))∧R=last32 (last32 (R0++[E0.pc])++[E0.step.pc])):=by
 induction h with
 |nil=>exact .inl ⟨rfl,rfl,rfl,rfl,rfl,rfl,rfl⟩
 |step h hk' hb hr hg ih=>
  rcases ih with⟨rfl,rfl,rfl,rfl,rfl,rfl,rfl⟩|⟨rfl,rfl,rfl,rfl,rfl,rfl,rfl⟩|⟨rfl,rfl,rfl,rfl,rfl,rfl,rfl⟩
  ·obtain⟨_,rfl,rfl,rfl⟩:=run_step hk hs hr;exact .inr (.inl ⟨rfl,rfl,rfl,rfl,rfl,rfl,rfl⟩)
  ·obtain⟨_,rfl,rfl,rfl⟩:=run_step hk1 hs1 hr;exact .inr (.inr ⟨rfl,rfl,rfl,rfl,rfl,rfl,rfl⟩)
  ·rcases hb with hb|hb
   ·omega
   ·rw[hp] at hb;cases hb
theorem go_two(hk:E0.kind=2)(hs:E0.stop.1=0)(hk1:E0.step.kind=2)(hs1:E0.step.stop.1=0)(hk2:E0.step.step.kind=2)(hp1:s E0.step.pc=false)(hp:s E0.step.step.pc=true){m:Nat}(hm:2<m)(hg:Sp.getS E0.A x.at' x.n 0=Sp.getS E0.step.A x.at' x.n 0)(hg1:Sp.getS E0.step.A x.at' x.n 0=Sp.getS E0.step.step.A x.at' x.n 0){kd p:Int}{i:Nat}(h:GoX s x K0 E0 T0 f0 c0 R0 m kd p i K E T f c R):
  kd=1∧p=E0.step.step.pc∧i=2∧K=K0∧E=E0.step.step∧T=T0∧f=cnt1 (cnt1 f0 E0.pc) E0.step.pc∧c=(if cnt1 f0 E0.pc E0.step.pc=0 then(if f0 E0.pc=0 then c0+1 else c0)+1 else(if f0 E0.pc=0 then c0+1 else c0)):=by
 cases h with
 |none h=>rcases gw_two hk hs hk1 hs1 hp h with⟨q,_⟩|⟨q,_⟩|⟨q,_⟩<;>omega
 |over h hi hk'=>
  rcases gw_two hk hs hk1 hs1 hp h with⟨_,_,rfl,_⟩|⟨_,_,rfl,_⟩|⟨_,_,rfl,_⟩
  ·exact absurd hk hk'
  ·exact absurd hk1 hk'
  ·exact absurd hk2 hk'
 |fault h hi hk' hb hr hn=>
  rcases gw_two hk hs hk1 hs1 hp h with⟨rfl,_,rfl,_⟩|⟨rfl,_,rfl,_⟩|⟨rfl,_,rfl,_⟩
  ·have:=(run_step hk hs hr).1;omega
  ·have:=(run_step hk1 hs1 hr).1;omega
  ·rcases hb with hb|hb
   ·omega
   ·rw[hp] at hb;cases hb
 |stop h hi hk' h0 hs'=>
  rcases gw_two hk hs hk1 hs1 hp h with⟨rfl,_⟩|⟨rfl,_,rfl,_⟩|⟨rfl,rfl,rfl,rfl,rfl,rfl,_⟩
  ·omega
  ·rw[hp1] at hs';cases hs'
  ·exact⟨rfl,rfl,rfl,rfl,rfl,rfl,rfl,rfl⟩
 |watch h hi hk' hb hr hn=>
  rcases gw_two hk hs hk1 hs1 hp h with⟨rfl,_,rfl,_⟩|⟨rfl,_,rfl,_⟩|⟨rfl,_,rfl,_⟩
  ·obtain⟨_,_,rfl,_⟩:=run_step hk hs hr;exact absurd hg hn
  ·obtain⟨_,_,rfl,_⟩:=run_step hk1 hs1 hr;exact absurd hg1 hn
  ·rcases hb with hb|hb
   ·omega
   ·rw[hp] at hb;cases hb
end Go.Proofs.YtnpicaigdfnmfaaGreat.Pr
namespace Go.Proofs.YtnpicaigdfnmfaaGreat.Pk
open Go.RowKit Go.Maps Go.Shelf Pag
attribute [local go_sem] Oper.semAt_some
theorem keys1{H:Type}(n:Nat)(hn:1≤n)(l Bm b nn:Nat)(D0:DataW H){R:Value→Option (DataW H×List MemPlace)}(J Jx:List Int→World→Prop)
  (hY:∀pre x W,J pre W→pre.length<Maps.size D0→YieldAt Fence.wide (n - 1) Tryz.prog l #[encU x] W fun e W'=>(e=.returned (.bool true)∧J (pre++[x]) W'∧KeepsWalks W W')∨(e=.returned (.bool false)∧Jx (pre++[x]) W'))
  (W:World) (hJ:AbidesFrom W.heap.size J) (hm:W.cell? ⟨Bm,0,none⟩=some (.map (some b))) (hown:W.ownsMap Tryz.prog 42 R b nn D0) (h0:J [] W):
  CallsIn Fence.wide n Tryz.prog 114 #[.func (.yield l) #[] #[],.pointer (some ⟨Bm,0,none⟩)] W fun e W'=>(∃v,e=.returned v)∧
   ((∃ss:List Int,(ss.Nodup∧∀x,x∈ss↔has D0 (.int .u32 x)=true)∧J ss W')∨(∃pre:List Int,pre.Nodup∧Jx pre W')):=by
 have hK:=int_keyed (P:=Tryz.prog) Tryz.underlying42;refine callsIn_of_wp func114 rfl trivial ?_ rfl;simp only[ntmps114,List.size_toArray,List.length_cons,List.length_nil,Nat.reduceAdd,Nat.reduceSub,Array.replicate_succ,Array.replicate_zero,List.push_toArray,List.append_toArray,List.nil_append,List.cons_append]
 gi_wp2_with (first
  |(gi_at_range;refine wpListIn_range_own _ rfl _ 127 rfl 42 149 hK Tryz.underlying127 _ b nn _ rfl hown ?_;intro w0 hrg0 hg0 hs0)
  |gi_in)
 go_frame
 gi_loopw [3] (fun _ wr=>∃(left:Lit→Bool) (cnt:Nat) (ss:List Int),wr.ranges Tryz.prog 42 R b W.heap.size nn D0 left cnt∧ss.length+cnt≤Maps.size D0∧Come D0 left ss∧J ss wr)
  (fun _ wr=>wr.rangeLeft b W.heap.size)
 case atStart=>exact⟨_,_,[],hrg0,by simp,Come.start D0,hJ [] W w0 none h0 hg0 (fun r e=>by cases e)⟩
 case round=>
  obtain⟨left,cnt,ss,hrg,hcs,hC,hJs⟩:=hrel
  gi_wp2_with (first
   |(gi_at_next;refine wpListIn_next_ranges _ rfl _ rfl 42 hK R encU id (fun key kl hk=>by obtain⟨x,hx,_⟩:=keyOf_u32 Tryz.underlying42 hk;exact⟨x,hx⟩) (fun v _ _=>⟨v,rfl⟩) b W.heap.size nn _ _ _ rfl hrg ?_ ?_)
   |gi_in)
  ·intro hc0 hl0
   gi_wp2
   go_end0;exact⟨⟨_,rfl⟩,.inl ⟨ss,⟨hC.1,fun x=>by rw[hC.2 x,hl0];simp⟩,hJs⟩⟩
  ·intro x c kl yd yp w2 cnt2 hkey hlk hv hat hrg2 hlt hg2 hs2 hen;obtain⟨x',ex,rfl,_⟩:=keyOf_u32 Tryz.underlying42 hkey;obtain rfl:x=x':=encU_inj ex;have hJ2:J ss w2:=hJ ss wr w2 (some W.heap.size) hJs hg2 (fun r e=>by cases e;exact⟨Nat.le_refl _,hrg.iter_walk⟩);obtain⟨fn,tmps,assign,body,hy,hR⟩:=hY ss x w2 hJ2 (by omega);clear hs2
   gi_wp2
   refine hR.mono ?_;have hC2:=hC.step hlk hat
   rintro e W3 (⟨rfl,hJ3,hk3⟩|⟨rfl,hJx3⟩)
   ·gi_wp2
    have hrg3:=hrg2.of_walks hk3;go_roundw
    case rel=>exact⟨_,cnt2,ss++[x],hrg3,by simp;omega,hC2,hJ3⟩
    case measure=>rw[hrg3.left_eq,hrg.left_eq];exact hlt
   ·gi_wp2
    refine bodyPost_ret (results_none rfl _ _ _) rfl ?_;exact⟨⟨_,rfl⟩,.inr ⟨ss++[x],hC2.1,hJx3⟩⟩
theorem keys_stops{H:Type}(n:Nat)(hn:1≤n)(Bm b nn:Nat)(D0:DataW H){R:Value→Option (DataW H×List MemPlace)}(w:World)(hBm:Bm<w.heap.size)(hm:w.cell? ⟨Bm,0,none⟩=some (.map (some b)))(hown:w.ownsMap Tryz.prog 42 R b nn D0):
  SeqStopsK Fence.wide n Tryz.prog 114 #[.pointer (some ⟨Bm,0,none⟩)] (fun x:Int=> #[encU x]) KeepsWalks (fun ss=>ss.Nodup∧∀x,x∈ss↔has D0 (.int .u32 x)=true) (fun pre=>pre.Nodup) (Maps.size D0) w:=fun l J Jx W hW hJ _ hY h0=>by
 have hown':W.ownsMap Tryz.prog 42 R b nn D0:=by
  have hbl:=hown.lt;obtain⟨es,clock,hb,rest⟩:=hown;exact⟨es,clock,(hW.block b hbl).trans hb,rest⟩
 exact keys1 n hn l Bm b nn D0 J Jx hY W hJ ((hW.cell (p:=⟨Bm,0,none⟩) hBm).trans hm) hown' h0
theorem keys(n:Nat)(mb:Option Nat)(w:World):CallsIn Fence.wide n Tryz.prog 64 #[.map mb] w fun e w'=>e=.returned (.func (.func 114) #[] #[.pointer (some ⟨w.heap.size,0,none⟩)])∧w'=w.alloc (.cells #[.map mb] 127):=by
 refine callsIn_of_wp func64 rfl trivial ?_ rfl;simp only[ntmps64,List.size_toArray,List.length_cons,List.length_nil,Nat.reduceAdd,Nat.reduceSub,Array.replicate_succ,Array.replicate_zero,List.push_toArray,List.append_toArray,List.nil_append,List.cons_append]
 gi_wp2
 go_ret;exact⟨rfl,rfl⟩
end Go.Proofs.YtnpicaigdfnmfaaGreat.Pk
namespace Go.Proofs.YtnpicaigdfnmfaaGreat
open Go.RowKit Go.Maps Go.Shelf Pag
namespace Pr
theorem info_ct:(Tryz.prog.info? 161).map (fun i=>(i.zero,i.size,i.bytes))=some (some (.agg #[.int .u32 0,.int .u64 0]),2,16):=by kernel_rfl
def ctC(f:Int→Int)(l:List Int):List Value:=l.flatMap fun x=>[.int .u32 x,.int .u64 (f x)]
theorem ctC_snoc(f:Int→Int)(l:List Int)(x:Int):ctC f (l++[x])=ctC f l++[.int .u32 x,.int .u64 (f x)]:=by
 unfold ctC;rw[List.flatMap_append,List.flatMap_cons,List.flatMap_nil,List.append_nil]
theorem wpList_app_ct{w:World}{ops:Array Oper}{rest:List Oper}{o:Oper}{a:Act}{Q:Exit→Act→World→Prop}(hgd:o.guard=none)(s x:Operand)
  (ho:o.op=.call { callee:=.builtin .append,args:= #[s,x],argTypes:= #[73,73] }) (base:Nat) (v:Value) (f:Int→Int) (T:List Int) (hs:a.eval s=v) (h:w.ownsRow base 161 2 v T.length (ctC f T)) (b:Nat) (t:Int)
  (hx:a.eval x=.slice (some ⟨b,0,none⟩) 1 1) (hb:w.heap[b]? =some (.cells #[.int .u32 t,.int .u64 (f t)] 161 (0,0))) (hl:T.length≤1000000) (hbase:base≤w.heap.size)
  (H:∀g cap w',w'.ownsRow base 161 2 (.slice (some ⟨g,0,none⟩) (T.length+1) cap) (T++[t]).length (ctC f (T++[t]))→w.grownBy w' v.ownBlock→(v.ownBlock=some g∨g=w.heap.size)→wpList Tryz.prog ops Q rest (a.put o.dst (.slice (some ⟨g,0,none⟩) (T.length+1) cap)) w'):wpList Tryz.prog ops Q (o::rest) a w:=by
 obtain⟨i0,hi,hz0,hz1,hz2⟩:=info_parts info_ct;refine wpList_append_lies w hgd s x _ ho base 161 i0 (.agg #[.int .u32 0,.int .u64 0]) 2 16 Tryz.underlying73 hi hz0 hz1 hz2 rfl (by omega) v T.length (ctC f T) hs h ⟨b,0,none⟩ 1 1 [.int .u32 t,.int .u64 (f t)] hx rfl (World.news_of_block hb) (fun x hx=>by simp at hx;rcases hx with rfl|rfl<;>rfl) (by omega) (by unfold maxLen;omega) (by omega) hbase _ rfl fun g cap w' h2 h3 h4 h5=>H _ _ _ ?_ h3 h4
 rw[List.length_append,ctC_snoc];exact h2
def CountsP(w:World)(n:Nat)(r:Ending)(w':World):Prop:=∃o cap,r=.returned (.slice o n cap)∧Below w.heap.size w w'
theorem row_at{w:World}{base n:Nat}{v:Value}{xs:List Int}(h:w.ownsRow base 42 1 v xs.length (xs.map encU)):∃o cc,v=.slice o xs.length cc∧∀T x U,xs=T++x::U→∃g,o=some ⟨g,0,none⟩∧g<w.heap.size∧w.cell? ⟨g,T.length,none⟩=some (.int .u32 x):=by
 rcases h.2 with⟨rfl,hz⟩|⟨g,cap,cur,rfl,_,hg,r1,r2,r3,r4⟩
 ·refine⟨none,0,by rw[hz],fun T x U e=> ?_⟩;rw[e] at hz;simp at hz
 ·refine⟨_,cap,rfl,fun T x U e=>⟨g,rfl,lQ hg, ?_⟩⟩;have h2:(cur.toList.take (xs.length*1))[T.length]? =(xs.map encU)[T.length]? :=by rw[r4]
  rw[List.getElem?_take_of_lt (by rw[e];simp),List.getElem?_map] at h2;have h3:xs[T.length]? =some x:=by rw[e];simp
  rw[h3] at h2;unfold World.cell?;rw[hg]
  simpa using h2
def cRel(w2:World)(f:Int→Int)(ss:List Int)(vi vl:Value)(wr:World):Prop:=
 ∃(T U:List Int) (so:Option Addr) (sc:Nat),ss=T++U∧vi=.int .i64 T.length∧vl=.slice so T.length sc∧wr.ownsRow w2.heap.size 161 2 (.slice so T.length sc) T.length (ctC f T)∧Below w2.heap.size w2 wr
theorem cRel.next{w2 wr w5:World}{f:Int→Int}{T U:List Int}{x:Int}{so:Option Addr}{sc g cap:Nat}(hb:Below w2.heap.size w2 wr)(hr:wr.ownsRow w2.heap.size 161 2 (.slice so T.length sc) T.length (ctC f T))(o:Obj)(hg:(wr.alloc o).grownBy w5 (Value.slice so T.length sc).ownBlock)(h5:w5.ownsRow w2.heap.size 161 2 (.slice (some ⟨g,0,none⟩) (T.length+1) cap) (T++[x]).length (ctC f (T++[x]))):cRel w2 f (T++x::U) (.int .i64 ((T.length:Int)+1)) (.slice (some ⟨g,0,none⟩) (T.length+1) cap) w5:=by
 have hl:(T++[x]).length=T.length+1:=by simp
 have m1:Mod (fun q=>(Value.slice so T.length sc).ownBlock=some q) (wr.alloc o) w5:=⟨hg.os,hg.tape,hg.output,hg.size,fun q hq hn=>hg.block q hq fun e=>hn e.symm⟩;have hb1:=hb.alloc hb.size o;refine⟨T++[x],U,some ⟨g,0,none⟩,cap,by simp,by rw[hl];rfl,by rw[hl],by rw[hl] at h5⊢;exact h5,Mod.below hb1 m1 hb1.size fun k _ e=>(row_lt hr e).1⟩
theorem counts{w:World}{base pb xb mb mc k c:Nat}{n:Int}{s:Int→Bool}{wv tv:Value}{W:List Wt}{f:Int→Int}{Tr:List Int}(h:Pb w base pb xb n mb mc s k wv W f c tv Tr)(l:List Int)(hl:l.Nodup)(hm:∀x,x∈l↔f x≠0)(hb:∀x,x∈l→0≤x∧x≤4294967295)(hc:l.length≤c)(hcs:c<65536)(hls:l.length≤1000):
  Calls Tryz.prog 32 #[.pointer (some ⟨pb,0,none⟩)] w (CountsP w l.length):=by
 obtain⟨c0,c1,c2,c3,c4,c5,_⟩:=h.cells;have HCt:Hid (∀V,Below w.heap.size w V→Cnt V mc f c):=Lh fun V hV=>h.ct.mod (Mod.of_below hV fun _=>False) id
 have HPc:Hid (∀V,Below w.heap.size w V→V.cell? ⟨pb,4,none⟩=some (.map (some mc))):=Lh fun V hV=>(h.below hV).cells.2.2.2.2.1
 have hcl:=h.ct.lt;obtain⟨D,m,ho,hv,hs⟩:=h.ct.map;have hh:∀x,has D (.int .u32 x)=decide (f x≠0):=by
  intro x
  by_cases g:f x=0
  ·rw[has_false_of_atKey fun z=>by rw[hv,if_pos g]];simp[g]
  ·rw[has_true_of_atKey (y:=.lit (.int .u64 (f x))) fun zd=>by rw[hv,if_neg g]];simp[g]
 have hbel:Below w.heap.size w (w.alloc (.cells #[.map (some mc)] 127)):=(Below.refl _ w).alloc (Nat.le_refl _) _;have hst:=Pk.keys_stops (R:=plainElem (H:=Unit) Tryz.prog 149) 3 (by omega) w.heap.size mc m D (w.alloc (.cells #[.map (some mc)] 127)) (by simp) (by simp) (by
  obtain⟨es,clock,hb',rest⟩:=ho;exact⟨es,clock,(hbel.block mc hcl).trans hb',rest⟩)
 have hperm:∀ss:List Int,(ss.Nodup∧∀x,x∈ss↔has D (.int .u32 x)=true)→ss.Perm l:=fun ss g=>(List.perm_ext_iff_of_nodup g.1 hl).2 fun x=>by rw[g.2,hh,hm];simp
 have HS:=Lh (callsIn_wide.1 (sorted 6 (by omega) 114 #[.pointer (some ⟨w.heap.size,0,none⟩)] (enters_of func114 (by kernel_rfl) rfl) _ _ (Maps.size D) (by omega) _ hst (fun ss g=>by
  have:=(hperm ss g).length_eq;omega)))
 have HK:=Lh (callsIn_wide.1 (Pk.keys 6 (some mc) w));have HPe:=Lh hperm;have HB:=Lh hb;have HBel:=Lh hbel;have HFin:Hid (∀V o cap,Below w.heap.size w V→CountsP w l.length (.returned (.slice o l.length cap)) V):=Lh fun V o cap hV=>⟨o,cap,rfl,hV⟩
 generalize CountsP w l.length=PQ at*;have HLs:=Lh hls;clear h hst hperm hh ho hv hs hcl hbel hb hl hm hc hcs hls;go_enter func32,ntmps32;go_wp2_with fail;refine HK.out.mono ?_;rintro r w1 ⟨rfl,rfl⟩;go_wp2_with fail;refine HS.out.mono ?_;rintro r w2 ⟨v,ss,rfl,⟨ys,hys,hp⟩,hpw,hrow,hb2⟩;have hpe:=hp.trans (HPe.out ys hys);obtain⟨vo,vc,rfl,hat⟩:=row_at (n:=0) hrow;have HAt:=Lh hat
 have HPm:=Lh hpe;have HB2:=Lh (HBel.out.trans (hb2.mono (by simp)));have hss:(ss.length:Int)≤1000:=by have:=hpe.length_eq;have:=HLs.out;omega
 clear hrow hat hpe hp hys hpw hb2 c0 c1 c2 c3 c4 c5 HS HK HPe HBel HLs;go_wp2_with fail;go_loopw [14,2] (fun vi vl wr=>cRel w2 f ss vi vl wr) (fun vi vl wr=>ss.length - (intOf vi).toNat)
 case atStart=>exact⟨[],ss,none,0,rfl,rfl,rfl,World.ownsRow_nil _ _ _ _,Below.refl _ _⟩
 case round=>
  obtain⟨T,U,so,sc,hTU,rfl,rfl,hr,hb⟩:=hrel;have hbw:=HB2.out.trans (hb.mono HB2.out.size);cases U with
  |nil=>
   have hln:=HPm.out.length_eq;have htl:T.length=ss.length:=by rw[hTU,List.append_nil]
   have HE:=Lh (HFin.out wr so sc hbw);rw[←hln,←htl] at HE;have hno:¬((T.length:Int)<ss.length):=by omega
   clear hr hb hbw hln htl hTU;go_wp2
   first|exact HE.out|(go_ret;exact HE.out)
  |cons x U=>
   obtain⟨g,rfl,hgl,hx⟩:=HAt.out T x U hTU;have hxr:wr.cell? ⟨g,T.length,none⟩=some (.int .u32 x):=(hb.cell (p:=⟨g,T.length,none⟩) hgl).trans hx;have hc4:=HPc.out wr hbw;have hxb:=HB.out x (HPm.out.subset (by rw[hTU];simp));have hlk0:=(HCt.out wr hbw).look x hxb.1 hxb.2;have hin:(T.length:Int)<ss.length:=by rw[hTU,List.length_append,List.length_cons];omega
   have HR:=Lh hr;have HB3:=Lh hb;have HN:=Lh (heap_alloc_new wr (.cells #[.int .u32 x,.int .u64 (f x)] 161));have hr1:(wr.alloc (.cells #[.int .u32 x,.int .u64 (f x)] 161)).ownsRow w2.heap.size 161 2 (.slice so T.length sc) T.length (ctC f T):=ownsRow_keep hr fun q hq=>((Below.refl wr.heap.size wr).alloc (Nat.le_refl _) _).block q (row_lt hr hq).2
   have HR1:=Lh hr1;have HBs:Hid (w2.heap.size≤(wr.alloc (.cells #[.int .u32 x,.int .u64 (f x)] 161)).heap.size):=Lh (by have:=hb.size;simp;omega);have HTl:Hid (T.length≤1000000):=Lh (by omega);have HTU:=Lh hTU;clear hr hb hbw hx hxb hr1 hTU hgl;go_wp2_with (at_builtin;refine wpList_app_ct (by rfl) _ _ (by rfl) w2.heap.size _ f T (by rfl) HR1.out _ x (by rfl) HN.out HTl.out HBs.out ?_;intro g' cap' w5 hr5 hg5 ho5;have HRel:=Lh (cRel.next (U:=U) HB3.out HR.out _ hg5 hr5);clear hr5 hg5 ho5);have hrel:=HRel.out;rw[←HTU.out] at hrel;have HRel2:=Lh hrel;clear hrel;go_roundw
   case rel=>exact HRel2.out
   case measure=>
    simp only[intOf];omega
end Pr
end Go.Proofs.YtnpicaigdfnmfaaGreat
namespace Go.Proofs.YtnpicaigdfnmfaaGreat.Pr
open Go.RowKit Word Cp
def pm43:Array Value:= #[.int .u8 8,.int .u8 4,.int .u8 3]
def ca43:Array Value:= #[.int .u8 17,.int .u8 1,.int .u8 1,.int .u8 0,.int .u32 1,.int .u8 36,.int .u8 0,.int .u8 0,.int .u8 1,.int .u32 512,.int .u8 40,.int .u8 0,.int .u8 0,.int .u8 0,.int .u32 256]
theorem code43_ok(i:Nat):(code43 i).ok:=by
 unfold code43
 split
 ·exact⟨by decide,by decide,by decide,by decide,by decide,by decide,by decide,by decide,by decide,by decide⟩
 ·split
  ·exact⟨by decide,by decide,by decide,by decide,by decide,by decide,by decide,by decide,by decide,by decide⟩
  ·exact⟨by decide,by decide,by decide,by decide,by decide,by decide,by decide,by decide,by decide,by decide⟩
theorem st43_ok{w:World}{P C:Nat}(h0:w.heap[P]? =some (.cells pm43 5 (0,0)))(h1:w.heap[C]? =some (.cells ca43 116 (0,0))):(st43 P C).ok w where
 rrow:=fun h=>absurd h (Nat.not_lt_zero _)
 rbd:=fun i hi=>absurd hi (Nat.not_lt_zero _)
 rlen:=(by decide:(0:Nat)≤9223372036854775807)
 p0:=(by decide:(0:Int)≤256)
 p1:=(by decide:(256:Int)≤4294967295)
 prow:=fun _=>⟨P,0,rfl,lQ h0,fun i hi=>by
  have:i=0∨i=1∨i=2:=by have:i<3:=hi;omega
  rcases this with rfl|rfl|rfl<;>(unfold World.cell?;rw[h0];rfl)⟩
 pbd:=fun i hi=>by
  show 0≤perm43 i∧perm43 i≤255
  unfold perm43
  split
  ·omega
  ·split<;>omega
 plen:=(by decide:3≤16)
 a0:=(by decide:(0:Int)≤256)
 a1:=(by decide:(256:Int)≤65535)
 crow:=fun _=>⟨C,0,rfl,fun i hi=>by
  have:i=0∨i=1∨i=2:=by have:i<3:=hi;omega
  rcases this with rfl|rfl|rfl<;>(refine⟨?_, ?_, ?_, ?_, ?_⟩<;>(unfold World.cell?;rw[h1];rfl))⟩
 cbd:=fun i hi=>code43_ok i
 clen:=(by decide:3≤1000)
 w0:=(by decide:(0:Int)≤0)
 w1:=(by decide:(0:Int)≤65535)
 tlen:=(by decide:(0:Nat)≤65536)
def b43s:Int→Bool:=fun y=>if y=264 then true else false
def w43(sn:ByteArray):Wt:=⟨sn,512,4⟩
theorem bytes_eq{a b:ByteArray}{l:List UInt8}(h1:a.data.toList=l)(h2:b.data.toList=l):a=b:=by
 obtain⟨⟨a⟩⟩:=a;obtain⟨⟨b⟩⟩:=b;simp only at h1 h2;rw[h1,h2]
theorem like_getS{E F:En}(h:En.Like E F)(x n:Int):Sp.getS E.A x n 0=Sp.getS F.A x n 0:=Cor.getS h.A x n 0
section
variable {x:Wt} {K0 K:Kn} {E0 E:En} {T0 T:List Eve} {f0 f:Int→Int} {c0 c:Nat} {R0 R:List Int} {kd p:Int} {i:Nat} {sn:ByteArray}
theorem go1(hL:En.Like E0 en43)(h:GoX b43s (w43 sn) K0 E0 T0 f0 c0 R0 9 kd p i K E T f c R):
  kd=1∧p=264∧i=1∧K=K0∧En.Like E e1∧T=T0∧f=cnt1 f0 256∧c=(if f0 256=0 then c0+1 else c0)∧R=last32 (R0++[256]):=by
 have hp:=p43;have hk:=k43';have hs:=s43';have hb:=b43;simp only[Prod.mk.injEq] at hp hk hs hb;have L1:En.Like E0.step e1:=hL.step;have q0:E0.pc=256:=hL.pc.trans hp.1;have q1:E0.step.pc=264:=L1.pc.trans hp.2.1;have r:=go_break (hL.kind.trans hk.1) (by rw[hL.stop];exact hs.1) (L1.kind.trans hk.2.1) (by rw[q1];rfl) (by omega) (by
  rw[like_getS hL,like_getS L1];exact bytes_eq hb.1 hb.2.1) h
 rw[q0,q1] at r;obtain⟨r1,r2,r3,r4,r5,r6,r7,r8,r9⟩:=r;exact⟨r1,r2,r3,r4,r5▸L1,r6,r7,r8,r9⟩
theorem go2(hL:En.Like E0 e1)(h:GoX b43s (w43 sn) K0 E0 T0 f0 c0 R0 9 kd p i K E T f c R):
  kd=2∧p=272∧i=1∧K=K0∧En.Like E e2∧T=T0∧f=cnt1 f0 264∧c=(if f0 264=0 then c0+1 else c0)∧R=last32 (R0++[264]):=by
 have hp:=p43;have hk:=k43';have hs:=s43';have hb:=b43;simp only[Prod.mk.injEq] at hp hk hs hb;have L1:En.Like E0.step e2:=hL.step;have q0:E0.pc=264:=hL.pc.trans hp.2.1;have q1:E0.step.pc=272:=L1.pc.trans hp.2.2.1;have r:=go_watch (hL.kind.trans hk.2.1) (by rw[hL.stop];exact hs.2.1) (by
  rw[like_getS hL,like_getS L1];intro e;have q1:=congrArg (fun z:ByteArray=>z.data.toList) e;have q2:(Sp.getS e1.A 512 4 0).data.toList=(Sp.getS e2.A 512 4 0).data.toList:=q1;rw[hb.2.1,hb.2.2.1] at q2;exact absurd q2 (by decide)) (by omega) h
 rw[q0,q1] at r;obtain⟨r1,r2,r3,r4,r5,r6,r7,r8,r9⟩:=r;exact⟨r1,r2,r3,r4,r5▸L1,r6,r7,r8,r9⟩
theorem go3(hL:En.Like E0 e2)(h:GoX b43s (w43 sn) K0 E0 T0 f0 c0 R0 9 kd p i K E T f c R):
  kd=1∧p=264∧i=2∧K=K0∧En.Like E e4∧T=T0∧f=cnt1 (cnt1 f0 272) 256∧c=(if cnt1 f0 272 256=0 then(if f0 272=0 then c0+1 else c0)+1 else(if f0 272=0 then c0+1 else c0)):=by
 have hp:=p43;have hk:=k43';have hs:=s43';have hb:=b43;simp only[Prod.mk.injEq] at hp hk hs hb;have L1:En.Like E0.step e3:=hL.step;have L2:En.Like E0.step.step e4:=L1.step;have q0:E0.pc=272:=hL.pc.trans hp.2.2.1;have q1:E0.step.pc=256:=L1.pc.trans hp.2.2.2.1;have q2:E0.step.step.pc=264:=L2.pc.trans hp.2.2.2.2;have r:=go_two (hL.kind.trans hk.2.2.1) (by rw[hL.stop];exact hs.2.2.1) (L1.kind.trans hk.2.2.2.1) (by rw[L1.stop];exact hs.2.2.2) (L2.kind.trans hk.2.2.2.2) (by rw[q1];rfl) (by rw[q2];rfl) (by omega) (by
  rw[like_getS hL,like_getS L1];exact bytes_eq hb.2.2.1 hb.2.2.2.1) (by rw[like_getS L1,like_getS L2];exact bytes_eq hb.2.2.2.1 hb.2.2.2.2) h
 rw[q0,q1,q2] at r;obtain⟨r1,r2,r3,r4,r5,r6,r7,r8⟩:=r;exact⟨r1,r2,r3,r4,r5▸L2,r6,r7,r8⟩
end
theorem pgs43(P C:Nat):(st43 P C).pgs=madeA perm43 3 256 (strOfNums (textL code43 3)) 0 ByteArray.empty:=rfl
theorem like43{P C:Nat}{A:List Pg}(h:cores A=cores (st43 P C).pgs):En.Like { En.new 1 256 A with r:=(st43 P C).regs } en43:=⟨rfl,rfl,rfl,rfl,rfl,rfl,h.trans (congrArg cores (pgs43 P C)),rfl,rfl⟩
def f43:Int→Int:=cnt1 (cnt1 (cnt1 (cnt1 (fun _=>0) 256) 264) 272) 256
theorem f43_at(y:Int):y∈[(256:Int),264,272]↔f43 y≠0:=by
 unfold f43 cnt1
 by_cases a:y=256
 ·subst a;decide
 ·by_cases b:y=272
  ·subst b;decide
  ·by_cases c:y=264
   ·subst c;decide
   ·simp[a,b,c]
end Go.Proofs.YtnpicaigdfnmfaaGreat.Pr
namespace Go.Proofs.YtnpicaigdfnmfaaGreat
open Go.RowKit
namespace Pr
theorem laid{w0 w w6 w7 w8:World}{xb:Nat}{a:KAt}{rb sb:Nat}{b:RkAt}{e:EAt}{E:En}{fb:Nat}(hp:Px w0 w xb (s43 (some e.eb)) (.slice none 0 0) a k44 rb sb (s43 (some fb)) (.slice none 0 0) b k44)(hen:Env w e E)(hnum:E.num=1)(hef:∀k,e.foot E.A k→a.tag k=0∧k≠xb∧w0.heap.size≤k)
  {pb mb mc:Nat} {s:Int→Bool} {k:Nat} {wv:Value} {x:Wt} (hb6:Below w.heap.size w w6) (m7:Mod (fun g=>g=mb) w6 w7) (m8:Mod (fun g=>g=pb∨(Value.slice none 0 0).ownBlock=some g) w7 w8) (h8:Pb w8 w.heap.size pb xb 1 mb mc s k wv [x] (fun _=>0) 0 (.slice none 0 0) []):
  ∃g cap,wv=.slice (some ⟨g,0,none⟩) 1 cap∧Pe w8 w.heap.size xb (s43 (some e.eb)) (.slice none 0 0) [] a k44 e E 1 pb mb mc s k g cap x (fun _=>0) 0 (.slice none 0 0) []∧Below w0.heap.size w0 w8∧∀q,q<w0.heap.size→Asd.Out a e E.A xb (.slice none 0 0) (pf pb mb mc g cap (.slice none 0 0)) q:=by
 obtain⟨b1,b2,b3⟩:=h8.b0;have hB:Below w.heap.size w w8:=by
  have h67:=Mod.below hb6 m7 hb6.size fun i _ e=>by omega
  refine Mod.below h67 m8 h67.size fun i _ e=> ?_
  rcases e with e|e
  ·omega
  ·cases e
 obtain⟨g,cap,rfl⟩:∃g cap,wv=.slice (some ⟨g,0,none⟩) 1 cap:=by
  rcases h8.wr.2 with⟨_,h0⟩|⟨g,cap,cur,rfl,_⟩
  ·cases h0
  ·exact⟨g,cap,rfl⟩
 have hft:∀q,pf pb mb mc g cap (.slice none 0 0) q→w.heap.size≤q:=fun q hq=>by
  rcases hq with hq|hq|hq|hq|hq
  ·omega
  ·omega
  ·omega
  ·exact(row_lt h8.wr hq).1
  ·cases hq
 refine⟨g,cap,rfl,⟨⟨hp.x.below hB,KE.below ⟨hp.k,hen,fun x hx=>(hef x hx).1⟩ hB,by rw[hnum];decide,World.ownsRow_nil _ _ _ _,hB.size,hp.n1.1,fun z=>(hef xb z).2.1 rfl,fun g hg=>(nomatch hg)⟩,h8,by rw[hnum];rfl,⟨by omega,by omega⟩,⟨rfl,rfl⟩,fun q hq=> ?_⟩,hp.bel.trans (hB.mono hp.bel.size),fun q hq=>⟨Decidable.byContradiction fun z=>absurd (hp.a0 q z) (by omega),fun z=>absurd (hef q z).2.2 (by omega),fun z=>absurd hp.z.1 (by omega),fun z=>(nomatch z),fun z=>absurd (hft q z) (by have:=hp.bel.size;omega)⟩⟩;have h1:=hft q hq;obtain⟨g1,_,g2,_⟩:=hp.new h1;exact⟨g1,fun z=>absurd (hen.lt q z) (by omega),g2,fun z=>(nomatch z)⟩
theorem cnt1_le{f:Int→Int}{n:Int}(h:∀y,f y≤n)(p:Int):∀y,cnt1 f p y≤n+1:=by
 intro y;unfold cnt1
 split
 ·have:=h p;omega
 ·have:=h y;omega
theorem nest43(w:World)(o:Obj):(((w.alloc (.cells pm43 5)).alloc (.cells ca43 116)).alloc o).heap[w.heap.size]? =some (.cells pm43 5 (0,0))∧(((w.alloc (.cells pm43 5)).alloc (.cells ca43 116)).alloc o).heap[w.heap.size+1]? =some (.cells ca43 116 (0,0))∧Below w.heap.size w (((w.alloc (.cells pm43 5)).alloc (.cells ca43 116)).alloc o):=by
 have a1:=heap_alloc_new w (.cells pm43 5);have s1:(w.alloc (.cells pm43 5)).heap.size=w.heap.size+1:=by simp
 have b1:=(Below.refl w.heap.size w).alloc (Nat.le_refl _) (.cells pm43 5);generalize w.alloc (.cells pm43 5)=w1 at*;have a2:=heap_alloc_new w1 (.cells ca43 116);have b2:=(Below.refl w1.heap.size w1).alloc (Nat.le_refl _) (.cells ca43 116);have s2:(w1.alloc (.cells ca43 116)).heap.size=w.heap.size+2:=by simp[s1]
 generalize w1.alloc (.cells ca43 116)=w2 at*;have b3:=(Below.refl w2.heap.size w2).alloc (Nat.le_refl _) o;rw[s1] at a2;refine⟨?_, ?_,(b1.trans (b2.mono (by omega))).trans (b3.mono (by omega))⟩
 ·rw[b3.block _ (by omega),b2.block _ (by omega)];exact a1
 ·rw[b3.block _ (by omega)];exact a2
theorem boxed{w:World}{base xb:Nat}{S:Nat→Slt}{tv:Value}{T:List Eve}{a:KAt}{K:Kn}{e:EAt}{E:En}{n pb mb mc:Nat}{s:Int→Bool}{k g cap:Nat}{x:Wt}{f:Int→Int}{c:Nat}{tw:Value}{Tr:List Int}(h:Pe w base xb S tv T a K e E n pb mb mc s k g cap x f c tw Tr)(kd p m:Int):
  Pe (w.alloc (.cells #[.int .u8 kd,.int .u32 p,.int .i64 m] 65)) base xb S tv T a K e E n pb mb mc s k g cap x f c tw Tr∧(w.alloc (.cells #[.int .u8 kd,.int .u32 p,.int .i64 m] 65)).heap[w.heap.size]? =some (.cells #[.int .u8 kd,.int .u32 p,.int .i64 m] 65 (0,0))∧Asd.Out a e E.A xb tv (pf pb mb mc g cap tw) w.heap.size∧Below w.heap.size w (w.alloc (.cells #[.int .u8 kd,.int .u32 p,.int .i64 m] 65)):=by
 have hA:=(Below.refl w.heap.size w).alloc (Nat.le_refl _) (.cells #[.int .u8 kd,.int .u32 p,.int .i64 m] 65);obtain⟨h1,h2,h3,h4⟩:=h.xe.fresh (Nat.le_refl w.heap.size);exact⟨h.below hA,heap_alloc_new w _,⟨h1,h2,h3,h4,fun z=>Nat.lt_irrefl _ (h.lt z)⟩,hA⟩
theorem alive43(w:World):Calls Tryz.prog 18 #[] w fun r w'=>r=.returned (.bool true)∧Below w.heap.size w w':=by
 generalize hPQ:(fun(r:Ending) (w':World)=>r=.returned (.bool true)∧Below w.heap.size w w')=PQ;have HPQ:Hid (∀V,Below w.heap.size w V→PQ (.returned (.bool true)) V):=Lh fun V h=>by rw[←hPQ];exact⟨rfl,h⟩
 clear hPQ;go_enter func18,ntmps18;go_wp2_with fail;refine(fun(F:∀V,V.heap[w.heap.size]? =some (.cells pm43 5 (0,0))→V.heap[w.heap.size+1]? =some (.cells ca43 116 (0,0))→Below w.heap.size w V→Calls Tryz.prog _ #[.agg (st43 w.heap.size (w.heap.size+1)).cells] V _)=>F _ (nest43 w _).1 (nest43 w _).2.1 (nest43 w _).2.2) ?_;intro w3 h0 h1 hb3;have HX:Hid (∀V,Below w3.heap.size w3 V→(st43 w.heap.size (w.heap.size+1)).ok V):=Lh fun V hV=>st43_ok ((hV.block _ (lQ h0)).trans h0) ((hV.block _ (lQ h1)).trans h1)
 have HB3:=Lh hb3;clear h0 h1 hb3;refine(one w3 _).mono ?_;rintro r w4 ⟨lb,rfl,hl4,hlb,hb4⟩;have HBg:=Lh (begun (st43 w.heap.size (w.heap.size+1)) (fun V hV=>HX.out V (bQ hb4 hV)) hl4);have HB4:=Lh (HB3.out.trans (hb4.mono HB3.out.size));clear hl4 hlb hb4;go_wp2_with fail;refine HBg.out.mono ?_;rintro r w5 ⟨xb,a,rb,sb,b,rfl,(⟨g1,_⟩|⟨_,e,C,fb,hpx,hen,hco,hef⟩)⟩
 ·exfalso
  have hl:(st43 w.heap.size (w.heap.size+1)).pgs.length=2:=by
   have:=l43;simp only[Prod.mk.injEq] at this;exact this.2
  omega
 obtain⟨E,he1,he2,he3,he4⟩:∃E:En,Env w5 e E∧En.Like E en43∧E.num=1∧∀k,e.foot E.A k→a.tag k=0∧k≠xb∧w4.heap.size≤k:=⟨_,hen,like43 hco,rfl,hef⟩;have HPx:=Lh hpx;have HEn:=Lh he1;have HLk:=Lh he2;have HNm:=Lh (And.intro he3 he4);clear hpx hen hco hef he1 he2 he3 he4 HBg HX;go_wp2_with fail;refine(new w5 xb 1 (cb:=e.cb) fun V hV=>Ex.cpuS (HPx.out.x.below hV) 1 (by omega) (by omega) rfl rfl (HEn.out.below hV)).mono ?_;rintro r w6 ⟨pb,mb,mc,rfl,hp6,hb6⟩;have HP6:=Lh hp6;have HB6:=Lh hb6;clear hp6 hb6;go_wp2_with fail;refine(break' HP6.out 264 (by omega) (by omega) (by omega)).mono ?_;rintro r w7 (⟨h,_⟩|⟨_,rfl,hp7,hm7⟩)
 ·cases h
 have HP7:=Lh hp7;have HM7:=Lh hm7;clear hp7 hm7;go_wp2_with fail;refine(watch HP7.out 512 4 (by omega) (by omega) (by simp)).mono ?_;rintro r w8 ⟨rfl,wv,hp8,hm8,_⟩;obtain⟨g,cap,rfl,hpe,hbl,hol⟩:=laid HPx.out HEn.out HNm.out.1 HNm.out.2 HB6.out HM7.out hm8 hp8;have hpe:Pe w8 w5.heap.size xb (s43 (some e.eb)) (.slice none 0 0) [] a k44 e E 1 pb mb mc b43s (0+1) g cap (w43 { data:= #[] }) (fun _=>0) 0 (.slice none 0 0) []:=hpe;have HGo:=Lh (go hpe 9 (by omega) (by decide) (by decide) (by decide) (by decide) (fun y=>by decide) (by decide) (by decide));have HBl:=Lh hbl;have HOl:=Lh hol;have hsz:=hbl.size;clear hp8 hm8 hpe hbl hol HPx HEn HNm HP6 HB6 HP7 HM7;have HZ:=Lh hsz;clear hsz;go_wp2_with fail;refine HGo.out.mono ?_;rintro r w9 ⟨kd,p,i,tv1,T1,a1,K1,ea1,E1,sn1,f1,c1,tw1,R1,rfl,hpe,hgo,has⟩;obtain⟨rfl,rfl,rfl,rfl,hL,rfl,rfl,rfl,rfl⟩:=go1 HLk.out hgo;obtain⟨hbl,hol⟩:=has.old HBl.out HZ.out HOl.out;have hpe1:Pe w9 w5.heap.size xb (s43 (some e.eb)) tv1 [] a1 k44 ea1 E1 1 pb mb mc b43s 1 g cap (w43 sn1) (cnt1 (fun _=>0) 256) 1 tw1 [256]:=hpe;obtain⟨hp10,hn10,ho10,hb10⟩:=boxed hpe1 1 264 0;obtain⟨b1,hb1⟩:∃y,w9.heap.size=y:=⟨_,rfl⟩;obtain⟨w10,hw10⟩:∃y,w9.alloc (.cells #[.int .u8 1,.int .u32 264,.int .i64 0] 65)=y:=⟨_,rfl⟩;rw[hw10] at hp10 hn10 hb10;have HGo2:=Lh (go hp10 9 (by omega) (show(0:Int)≤512 by decide) (show(512:Int)≤4294967295 by decide) (by decide) (by decide) (fun y=>Int.le_trans (cnt1_le (n:=0) (fun _=>Int.le_refl 0) 256 y) (by decide)) (by decide) (by decide));have HBl2:=Lh (hbl.trans (hb10.mono hbl.size));have HOl2:=Lh hol;have HZ2:=Lh (Nat.le_trans hbl.size hb10.size);rw[hb1] at hn10 ho10;have HBx1:=Lh (And.intro hn10 ho10);have HL1:=Lh hL;clear hpe hgo has hbl hol hpe1 hp10 hn10 ho10 hb10 hL HLk HGo HBl HOl HZ;have HWw:=Lh hw10;have HBb:=Lh hb1;clear hw10 hb1;unfold hit;go_wp2_with fail;rw[HWw.out,HBb.out];clear HWw HBb;refine HGo2.out.mono ?_;rintro r w11 ⟨kd,p,i,tv2,T2,a2,K2,ea2,E2,sn2,f2,c2,tw2,R2,rfl,hpe,hgo,has⟩;obtain⟨rfl,rfl,rfl,rfl,hL,rfl,rfl,rfl,rfl⟩:=go2 HL1.out hgo;obtain⟨hbl,hol⟩:=has.old HBl2.out HZ2.out HOl2.out;have hpe2:Pe w11 w5.heap.size xb (s43 (some e.eb)) tv2 [] a2 k44 ea2 E2 1 pb mb mc b43s 1 g cap (w43 sn2) (cnt1 (cnt1 (fun _=>0) 256) 264) 2 tw2 [256,264]:=hpe;obtain⟨hh1,hq1⟩:=has.out (lQ HBx1.out.1) HBx1.out.2;have hx1:=hh1.trans HBx1.out.1;obtain⟨hp12,hn12,ho12,hb12⟩:=boxed hpe2 2 272 0;have hy1:=(hb12.block _ (lQ hx1)).trans hx1;obtain⟨b2,hb2⟩:∃y,w11.heap.size=y:=⟨_,rfl⟩;obtain⟨w12,hw12⟩:∃y,w11.alloc (.cells #[.int .u8 2,.int .u32 272,.int .i64 0] 65)=y:=⟨_,rfl⟩;rw[hw12] at hp12 hn12 hb12 hy1;have HGo3:=Lh (go hp12 9 (by omega) (show(0:Int)≤512 by decide) (show(512:Int)≤4294967295 by decide) (by decide) (by decide) (fun y=>Int.le_trans (cnt1_le (n:=1) (cnt1_le (n:=0) (fun _=>Int.le_refl 0) 256) 264 y) (by decide)) (by decide) (by decide));have HBl3:=Lh (hbl.trans (hb12.mono hbl.size));have HOl3:=Lh hol;have HZ3:=Lh (Nat.le_trans hbl.size hb12.size);rw[hb2] at hn12 ho12;have HBx2:=Lh (And.intro (And.intro hn12 ho12) (And.intro hy1 hq1));have HL2:=Lh hL;clear hpe hgo has hbl hol hpe2 hp12 hn12 ho12 hb12 hL hh1 hq1 hx1 hy1 HL1 HGo2 HBl2 HOl2 HZ2 HBx1;have HWw:=Lh hw12;have HBb:=Lh hb2;clear hw12 hb2;unfold hit;go_wp2_with fail;rw[HWw.out,HBb.out];clear HWw HBb;refine HGo3.out.mono ?_;rintro r w13 ⟨kd,p,i,tv3,T3,a3,K3,ea3,E3,sn3,f3,c3,tw3,R3,rfl,hpe,hgo,has⟩;obtain⟨rfl,rfl,rfl,rfl,hL,rfl,rfl,rfl⟩:=go3 HL2.out hgo;obtain⟨hbl,hol⟩:=has.old HBl3.out HZ3.out HOl3.out;have hpe3:Pe w13 w5.heap.size xb (s43 (some e.eb)) tv3 [] a3 k44 ea3 E3 1 pb mb mc b43s 1 g cap (w43 sn3) f43 3 tw3 R3:=hpe;obtain⟨hh1,_⟩:=has.out (lQ HBx2.out.2.1) HBx2.out.2.2;obtain⟨hh2,_⟩:=has.out (lQ HBx2.out.1.1) HBx2.out.1.2;have hx1:=hh1.trans HBx2.out.2.1;have hx2:=hh2.trans HBx2.out.1.1;obtain⟨hp14,hn14,ho14,hb14⟩:=boxed hpe3 1 264 0;have hy1:=(hb14.block _ (lQ hx1)).trans hx1;have hy2:=(hb14.block _ (lQ hx2)).trans hx2;obtain⟨b3,hb3⟩:∃y,w13.heap.size=y:=⟨_,rfl⟩;obtain⟨w14,hw14⟩:∃y,w13.alloc (.cells #[.int .u8 1,.int .u32 264,.int .i64 0] 65)=y:=⟨_,rfl⟩;rw[hw14] at hp14 hn14 hb14 hy1 hy2;have HP14:=Lh hp14;have HBl4:=Lh (hbl.trans (hb14.mono hbl.size));rw[hb3] at hn14;have HBx3:=Lh (And.intro hy1 (And.intro hy2 hn14));clear hpe hgo has hbl hol hpe3 hp14 hn14 ho14 hb14 hL hh1 hh2 hx1 hx2 hy1 hy2 HL2 HGo3 HBl3 HOl3 HZ3 HBx2;have HWw:=Lh hw14;have HBb:=Lh hb3;clear hw14 hb3;unfold hit;go_wp2_with fail;rw[HWw.out,HBb.out];clear HWw HBb;refine(new_no w14 xb 2 (Ex.cpuO HP14.out.xe.x 2 (by omega) (by omega) rfl)).mono ?_;rintro r w15 ⟨rfl,rfl⟩;go_wp2_with fail;refine(go_arg w14 pb (-1) (by omega)).mono ?_;rintro r w15 ⟨rfl,hb15⟩;have hA:=(Below.refl w15.heap.size w15).alloc (Nat.le_refl _) (.cells #[.int .u8 0,.int .u32 0,.int .i64 0] 65);have hb16:=bQ hb15 hA;have HP16:=Lh (HP14.out.below hb16);have HBl5:=Lh (HBl4.out.trans (hb16.mono HBl4.out.size));obtain⟨d0,d1,d2,_⟩:=hit_cells ((hb16.block _ (lQ HBx3.out.1)).trans HBx3.out.1);obtain⟨e0,e1',e2',_⟩:=hit_cells ((hb16.block _ (lQ HBx3.out.2.1)).trans HBx3.out.2.1);obtain⟨f0,f1,f2,_⟩:=hit_cells ((hb16.block _ (lQ HBx3.out.2.2)).trans HBx3.out.2.2);obtain⟨w16,hw16⟩:∃y,w15.alloc (.cells #[.int .u8 0,.int .u32 0,.int .i64 0] 65)=y:=⟨_,rfl⟩;rw[hw16] at HP16 HBl5 d0 d1 d2 e0 e1' e2' f0 f1 f2;have HWw:=Lh hw16;clear hA hb16 hb15 HP14 HBl4 HBx3 hw16;unfold hit;go_upto_region 11 with fail;rw[HWw.out];clear HWw;go_wp2_with fail;clear d0 d1 d2 e0 e1' e2' f0 f1 f2;refine(counts HP16.out.pr [256,264,272] (by decide) f43_at (fun x hx=>by simp at hx;rcases hx with rfl|rfl|rfl<;>decide) (by decide) (by decide) (by decide)).mono ?_;rintro r w17 ⟨o,cc,rfl,hb17⟩;have HP17:=Lh (HP16.out.below hb17);have HBl6:=Lh (HBl5.out.trans (hb17.mono HBl5.out.size));clear hb17 HP16 HBl5;go_wp2_with fail;refine(break' HP17.out.pr 264 (by omega) (by omega) (by omega)).mono ?_;rintro r w18 (⟨_,rfl,rfl⟩|⟨h,_⟩)
 ·go_wp2_with fail;refine(clear_no HP17.out.pr 1 (by omega) (by omega) (by decide)).mono ?_;rintro r w18 ⟨rfl,rfl⟩;have HE:=Lh (HPQ.out _ (HB4.out.trans (HBl6.out.mono HB4.out.size)));go_wp2
  first|exact HE.out|(go_ret;exact HE.out)
 ·exact absurd h (by decide)
end Pr
end Go.Proofs.YtnpicaigdfnmfaaGreat
