/- Wi22B, HvyA, EnvG, Wi22C, Wi22D, Same22 in one text. -/
import Derived.Test.YtjjdjpdmgaipeaaGreatCwQuad
import Derived.Test.YtjjdjpdmgaipeaaGreatCwCpuW
import Derived.Test.YtjjdjpdmgaipeaaGreatCwReg
import Derived.Deep.RegionHeld3
import Derived.Test.YtjjdjpdmgaipeaaGreatCwRefW
import Derived.Laws.StructEq
import Derived.Test.YtjjdjpdmgaipeaaGreatCwKdoG
import Derived.Test.YtjjdjpdmgaipeaaGreatCwRegU
import Derived.Test.YtjjdjpdmgaipeaaGreatCwZa
set_option linter.unusedVariables false
set_option linter.unusedSimpArgs false
set_option maxRecDepth 100000
set_option maxHeartbeats 16000000
open Go.Proofs.Tryz
namespace Go.Proofs.YtjjdjpdmgaipeaaGreat
open Go.RowKit
namespace L22
open In
def wtT(q:Int→Nat)(l:List ClI):Nat→Int
 |0=>0
 |i+1=>match l[i]? with
  |some z=>if Ni.portB z.fr=true then IntKind.i64.wrap (wtT q l i+q (Ni.portV z.fr 22)) else wtT q l i
  |none=>wtT q l i
def wtO(q:Int→Nat)(hp:Int→Bool)(l:List ClI):Nat→Int
 |0=>0
 |i+1=>match l[i]? with
  |some z=>if Ni.portB z.fr=true∧hp (Ni.portV z.fr 22)=false then IntKind.i64.wrap (wtO q hp l i+q (Ni.portV z.fr 22)) else wtO q hp l i
  |none=>wtO q hp l i
theorem wtO_same{q q':Int→Nat}{hp:Int→Bool}(h:∀p,q' p=q p∨hp p=true)(l:List ClI):∀i,wtO q' hp l i=wtO q hp l i
 |0=>rfl
 |i+1=>by
  unfold wtO;rw[wtO_same h l i];cases l[i]? with
  |none=>rfl
  |some z=>
   show(if _ then _ else _)=(if _ then _ else _)
   by_cases g:Ni.portB z.fr=true∧hp (Ni.portV z.fr 22)=false
   ·rw[if_pos g,if_pos g];rcases h (Ni.portV z.fr 22) with e|e
    ·rw[e]
    ·rw[g.2] at e;cases e
   ·rw[if_neg g,if_neg g]
def wtRel(w:World)(K:Kn)(l:List ClI)(v4 v5 v6:Value)(wr:World):Prop:=∃i:Nat,i≤l.length∧v4=.int .i64 (wtT (fun p=>(K.N.q p).length) l i)∧v5=.int .i64 (wtO (fun p=>(K.N.q p).length) (fun p=>Gp.hasPort (K.g 1) p) l i)∧v6=.int .i64 i∧Below w.heap.size w wr
theorem waiting{w:World}{a:KAt}{K:Kn}(hk:Knl w a K){la:Option Addr}{lcap:Nat}{l:List ClI}(hl:Cls w la l):
  Calls Tryz.prog 92 #[.pointer (some ⟨a.kb,0,none⟩),.slice la l.length lcap] w fun e w'=>e=.returned (.tuple #[.int .i64 (wtT (fun p=>(K.N.q p).length) l l.length),.int .i64 (wtO (fun p=>(K.N.q p).length) (fun p=>Gp.hasPort (K.g 1) p) l l.length)])∧Below w.heap.size w w':=by
 have HK:=Lh fun V (hV:Below w.heap.size w V)=>hk.below hV
 have HL:=Lh fun V (hV:Below w.heap.size w V)=>hl.below hV
 have HLn:=Lh hl.len;obtain⟨mb,V0,sv0,hnc,_⟩:=hk.nic;have HNc:=Lh fun V (hV:Below w.heap.size w V)=>hnc.keep (G:=fun _=>False) (Mod.of_below hV _) fun _ _ g=>g
 have HR0:Hid (wtRel w K l (.int .i64 0) (.int .i64 0) (.int .i64 0) w):=Lh ⟨0,Nat.zero_le _,rfl,rfl,rfl,Below.refl _ _⟩;obtain⟨q,hq⟩:∃q:Int→Nat,(fun p=>(K.N.q p).length)=q:=⟨_,rfl⟩;obtain⟨hpt,hhp⟩:∃h:Int→Bool,(fun p=>Gp.hasPort (K.g 1) p)=h:=⟨_,rfl⟩;have HQ:=Lh fun p=>congrFun hq p
 have HH:=Lh fun p=>congrFun hhp p
 unfold wtRel at HR0;rw[hq,hhp] at HR0⊢;clear hk hl hnc hq hhp;go_enter func92,ntmps92;go_wp2;go_loopw [4,5,6,7,8,9] (fun v4 v5 v6 _ _ _ wr=>∃i:Nat,i≤l.length∧v4=.int .i64 (wtT q l i)∧v5=.int .i64 (wtO q hpt l i)∧v6=.int .i64 i∧Below w.heap.size w wr) (fun _ _ v6 _ _ _ _=>l.length - (intOf v6).toNat)
 case atStart=>exact HR0.out
 case round=>
  clear HR0;obtain⟨i,hi,rfl,rfl,rfl,hbw⟩:=hrel;have HBw:=Lh hbw;clear hbw
  by_cases hin:i<l.length
  ·have ii:(i:Int)<l.length:=by omega
   obtain⟨g,o,ea,hc⟩:=(HL.out wr HBw.out).cell i hin;have hz6:wr.cell? ⟨g,o+i*7+6,none⟩=some (.string l[i].fr):=hc 6 (by omega);have hsz:=((HL.out wr HBw.out).ok i hin).f;have hT:wtT q l (i+1)=if Ni.portB l[i].fr=true then IntKind.i64.wrap (wtT q l i+q (Ni.portV l[i].fr 22)) else wtT q l i:=by
    show(match l[i]? with|some z=>_|none=>_)=_
    rw[Zg hin]
   have hO:wtO q hpt l (i+1)=if Ni.portB l[i].fr=true∧hpt (Ni.portV l[i].fr 22)=false then IntKind.i64.wrap (wtO q hpt l i+q (Ni.portV l[i].fr 22)) else wtO q hpt l i:=by
    show(match l[i]? with|some z=>_|none=>_)=_
    rw[Zg hin]
   have iw:IntKind.i64.wrap ((i:Int)+1)=(i:Int)+1:=by have:=HLn.out;rw[IntKind.wrap_i64];omega
   generalize l[i].fr=t at*;subst ea;have HTo:=Lh fun V=>Ni.to_ t hsz V
   have hpv:=Ni.portV_bd t 22 (Nat.le_refl _);obtain⟨p,hp⟩:∃p,Ni.portV t 22=p:=⟨_,rfl⟩;rw[hp] at hT hO HTo hpv;obtain⟨sT,hsT⟩:∃s,wtT q l i=s:=⟨_,rfl⟩;obtain⟨sO,hsO⟩:∃s,wtO q hpt l i=s:=⟨_,rfl⟩;rw[hsT] at hT⊢;rw[hsO] at hO⊢;have HPv:=Lh hpv;clear hc hsz hp hpv hsT hsO;cases hpb:Ni.portB t with
   |false=>
    have fin:∀W,Below wr.heap.size wr W→∃j:Nat,j≤l.length∧Value.int .i64 sT=.int .i64 (wtT q l j)∧Value.int .i64 sO=.int .i64 (wtO q hpt l j)∧Value.int .i64 ((i:Int)+1)=.int .i64 j∧Below w.heap.size w W:=fun W hW=>⟨i+1,hin,by rw[hT,hpb];rfl,by rw[hO,hpb];rfl,by simp,below_th HBw.out hW⟩
    have Fin:=Lh fin;rw[hpb] at HTo;clear fin hT hO;go_wp2_with fail;refine(HTo.out _).mono ?_;rintro r w5 ⟨rfl,hb5⟩;have HE:=Lh (Fin.out w5 hb5);clear hb5 hz6;go_wp2;exact⟨HE.out,by simp[intOf];omega⟩
   |true=>
    rw[hpb] at HTo;rw[hpb,if_pos rfl] at hT;have HTt:=Lh hT;clear hT;obtain⟨sT',hsT'⟩:∃s,IntKind.i64.wrap (sT+q p)=s:=⟨_,rfl⟩;have HTt:Hid (wtT q l (i+1)=sT'):=Lh (HTt.out.trans hsT');have hqp:(K.N.q p).length=q p:=HQ.out p;have hhp:Gp.hasPort (K.g 1) p=hpt p:=HH.out p;have HLe:Hid (∀W,Below w.heap.size w W→Calls Tryz.prog 197 #[.pointer (some ⟨a.nb,0,none⟩),.int .u16 p] W fun e w'=>e=.returned (.int .i64 (q p))∧W=w'):=Lh fun W hW=>by rw[←hqp];exact Ni.len (HNc.out W hW) p HPv.out.1 HPv.out.2
    have HPo:Hid (∀W,Below w.heap.size w W→Calls Tryz.prog 97 #[.pointer (some ⟨a.c.cb,0,none⟩),.int .i64 1,.int .u16 p] W fun e w'=>e=.returned (.bool (hpt p))∧Below W.heap.size W w'):=Lh fun W hW=>by rw[←hhp];exact Ca.port (HK.out W hW).caps (n:=1) ⟨by decide,by decide⟩ p
    clear hqp hhp;cases hhv:hpt p with
    |true=>
     rw[hhv] at HPo;have fin:∀W,Below w.heap.size w W→∃j:Nat,j≤l.length∧Value.int .i64 sT'=.int .i64 (wtT q l j)∧Value.int .i64 sO=.int .i64 (wtO q hpt l j)∧Value.int .i64 ((i:Int)+1)=.int .i64 j∧Below w.heap.size w W:=fun W hW=>⟨i+1,hin,by rw[HTt.out],by rw[hO,hpb,hhv];rfl,by simp,hW⟩
     have Fin:=Lh fin;clear fin hO hhv hpb;go_wp2_with fail;refine(HTo.out _).mono ?_;rintro r w5 ⟨rfl,hb5⟩;have HB5:=Lh (below_th HBw.out hb5);clear hb5 hz6;go_wp2_with fail;refine(Kl.nic (HK.out _ HB5.out)).mono ?_;rintro r w6 ⟨rfl,rfl⟩;go_wp2_with fail;refine(HLe.out _ HB5.out).mono ?_;rintro r w6 ⟨rfl,rfl⟩;go_wp2_with fail;refine(Kl.caps (HK.out _ HB5.out)).mono ?_;rintro r w6 ⟨rfl,rfl⟩;go_wp2_with fail;refine(HPo.out _ HB5.out).mono ?_;rintro r w6 ⟨rfl,hb6⟩;have HE:=Lh (Fin.out w6 (below_th HB5.out hb6));clear hb6;go_wp2;exact⟨HE.out,by simp[intOf];omega⟩
    |false=>
     rw[hhv] at HPo;rw[hpb,hhv,if_pos ⟨rfl,rfl⟩] at hO;obtain⟨sO',hsO'⟩:∃s,IntKind.i64.wrap (sO+q p)=s:=⟨_,rfl⟩;rw[hsO'] at hO;have fin:∀W,Below w.heap.size w W→∃j:Nat,j≤l.length∧Value.int .i64 sT'=.int .i64 (wtT q l j)∧Value.int .i64 sO'=.int .i64 (wtO q hpt l j)∧Value.int .i64 ((i:Int)+1)=.int .i64 j∧Below w.heap.size w W:=fun W hW=>⟨i+1,hin,by rw[HTt.out],by rw[hO],by simp,hW⟩
     have Fin:=Lh fin;clear fin hO hhv hpb;go_wp2_with fail;refine(HTo.out _).mono ?_;rintro r w5 ⟨rfl,hb5⟩;have HB5:=Lh (below_th HBw.out hb5);clear hb5 hz6;go_wp2_with fail;refine(Kl.nic (HK.out _ HB5.out)).mono ?_;rintro r w6 ⟨rfl,rfl⟩;go_wp2_with fail;refine(HLe.out _ HB5.out).mono ?_;rintro r w6 ⟨rfl,rfl⟩;go_wp2_with fail;refine(Kl.caps (HK.out _ HB5.out)).mono ?_;rintro r w6 ⟨rfl,rfl⟩;go_wp2_with fail;refine(HPo.out _ HB5.out).mono ?_;rintro r w6 ⟨rfl,hb6⟩;have HE:=Lh (Fin.out w6 (below_th HB5.out hb6));clear hb6;go_wp2;exact⟨HE.out,by simp[intOf];omega⟩
  ·obtain rfl:i=l.length:=by omega
   have ii:¬(l.length:Int)<l.length:=by omega
   go_wp2
   first|exact⟨rfl,HBw.out⟩|(go_ret2;exact⟨rfl,HBw.out⟩)
end L22
open Go.RowKit Word
namespace Cp
def heavyV(x:St):Bool:=decide ((40:Int)<x.rn)||decide ((16:Int)<x.pn)||decide ((200:Int)<x.cn)||decide ((2048:Int)<x.text.size)
theorem heavy06(w:World)(x:St):Calls Tryz.prog 65 #[.agg x.cells] w fun e w'=>e=.returned (.bool (heavyV x))∧Below w.heap.size w w':=by
 have hb:Below w.heap.size w (w.alloc (.cells x.cells 34)):=(Below.refl _ _).alloc (Nat.le_refl _) _;obtain⟨b0,b1,b2,b3,b4,b5,b6⟩:=(⟨heap_alloc_new w _⟩:StBox (w.alloc (.cells x.cells 34)) w.heap.size x).cells;have HB:=Lh hb;have HE:Hid (heavyV x=(decide ((40:Int)<x.rn)||decide ((16:Int)<x.pn)||decide ((200:Int)<x.cn)||decide ((2048:Int)<x.text.size))):=Lh rfl;generalize heavyV x=E at*;unfold St.cells at*;cases h1:decide ((40:Int)<x.rn)<;>cases h2:decide ((16:Int)<x.pn)<;>cases h3:decide ((200:Int)<x.cn)<;>cases h4:decide ((2048:Int)<x.text.size)
 all_goals
  go_enter func65,ntmps65;go_wp2;go_ret;exact⟨by rw[HE.out,h1,h2,h3,h4];rfl,HB.out⟩
end Cp
open Go.RowKit Word
namespace Cp
theorem RowN.below{k:IntKind}{w w':World}{a:Option Addr}{n:Nat}{f:Nat→Int}(h:RowN k w a n f)(hb:Below w.heap.size w w'):RowN k w' a n f:=fun hn=>by
 obtain⟨b,off,e,hl,hc⟩:=h hn;exact⟨b,off,e,Nat.lt_of_lt_of_le hl hb.size,fun i hi=>(World.cell?_of_block (w:=w) (hb.block b hl)).trans (hc i hi)⟩
theorem St.pre.toOk{w w':World}{x:St}(h:x.pre w)(hb:Below w.heap.size w w')(hh:heavyV x=false):x.ok w':=by
 unfold heavyV at hh;simp only[Bool.or_eq_false_iff,decide_eq_false_iff_not] at hh;exact⟨h.rrow.below hb,h.rbd,h.rlen,h.p0,h.p1,h.prow.below hb,h.pbd,by omega,h.a0,h.a1,h.crow.below hb,h.cbd,by omega,h.w0,h.w1,by omega⟩
theorem eqState(k n y:Int)(w:World):(binOp .eql 58 (.agg #[.int .u8 k,.int .u32 n,.int .i64 y]) (.agg #[.int .u8 k,.int .u32 n,.int .i64 y])).run Tryz.prog w=.ok (.bool true) w:=by
 simp[go_sem,Tryz.underlying58]
end Cp
end Go.Proofs.YtjjdjpdmgaipeaaGreat
namespace Go.Proofs.YtjjdjpdmgaipeaaGreat.Sl
open Go.RowKit Pag
theorem clone2{w:World}{v:Value}{xs:List Int}(h:Lst w v xs)(hs:xs.length≤2000000):
  Calls Tryz.prog 85 #[v] w fun e w'=>∃v',e=.returned v'∧Lst w' v' xs∧(∀b,v'.ownBlock=some b→w.heap.size≤b∧b<w'.heap.size)∧Below w.heap.size w w':=by
 obtain⟨i0,hi0,hz0,hz1,hz2⟩:=info_parts infoU32;have H:=Lh h;rcases h.2 with⟨h0,a,rfl⟩|⟨g,off,cap,cur,rfl,hg,hnc,hcm,hcs,hc⟩
 ·obtain rfl:xs=[]:=List.length_eq_zero_iff.1 h0;clear h h0;cases a with
  |none=>
   go_enter func85,ntmps85;have hq:=fun W=>Lib.run_eql_slice_nil (P:=Tryz.prog) W _ _ none 0 0 0 0 Tryz.underlying23
   go_wp2
   first
    |(go_ret;exact⟨_,rfl,H.out,fun b hb=>(nomatch hb),Below.refl _ _⟩)
    |(refine bodyPost_ret (v:=.slice none 0 0) (by simp[results,Tryz.results85,go_sem, *]) rfl ?_;exact⟨_,rfl,H.out,fun b hb=>(nomatch hb),Below.refl _ _⟩)
  |some a=>
   have hq:=fun W=>Lib.run_eql_slice_nil (P:=Tryz.prog) W _ _ (some a) 0 0 0 0 Tryz.underlying23
   go_enter func85,ntmps85;have HB:Hid (Below w.heap.size w (w.alloc (.cells #[] 22))):=Lh ((Below.refl _ _).alloc (Nat.le_refl _) _);have HL:Hid (Lst (w.alloc (.cells #[] 22)) (.slice (some ⟨w.heap.size,0,none⟩) 0 0) []):=Lh ⟨rfl,.inl ⟨rfl,_,rfl⟩⟩;go_wp2;go_ret;exact⟨_,rfl,HL.out,fun b hb=>by injection hb with hb;exact⟨Nat.le_of_eq hb,by rw[←hb];simp⟩,HB.out⟩
 ·obtain⟨n,hn⟩:∃n,xs.length=n:=⟨_,rfl⟩;rw[hn] at h hs hnc hc⊢;have hq:=fun W=>Lib.run_eql_slice_nil (P:=Tryz.prog) W _ _ (some ⟨g,off,none⟩) n cap 0 0 Tryz.underlying23
  have hcl:∀j u,(xs.map encU)[j]? =some u→(w.alloc (.cells #[] 22)).cell? ((⟨g,off,none⟩:Addr).add j)=some u:=fun j u hu=>by
   have hj:j<n:=by have:=(List.getElem?_eq_some_iff.1 hu).1;simpa [hn] using this
   rw[Addr.add_lit];unfold World.cell?;rw[Below.heap_alloc _ _ _ (lt_of_block hg),hg];exact(hc j (by omega)).trans hu
  clear h hg hnc hcm hcs hc
  by_cases h0:n=0
  ·subst h0;obtain rfl:xs=[]:=List.length_eq_zero_iff.1 hn;have HB:Hid (Below w.heap.size w (w.alloc (.cells #[] 22))):=Lh ((Below.refl _ _).alloc (Nat.le_refl _) _);have HL:Hid (Lst (w.alloc (.cells #[] 22)) (.slice (some ⟨w.heap.size,0,none⟩) 0 0) []):=Lh ⟨rfl,.inl ⟨rfl,_,rfl⟩⟩;go_enter func85,ntmps85;go_wp2;go_ret;exact⟨_,rfl,HL.out,fun b hb=>by injection hb with hb;exact⟨Nat.le_of_eq hb,by rw[←hb];simp⟩,HB.out⟩
  ·have HB:Hid (Below w.heap.size w (w.alloc (.cells #[] 22))):=Lh ((Below.refl _ _).alloc (Nat.le_refl _) _);have HN:Hid (SlV (w.alloc (.cells #[] 22)) 22 1 (.slice (some ⟨w.heap.size,0,none⟩) 0 0) 0 []):=Lh ⟨rfl,.inl ⟨rfl,_,rfl⟩⟩;have HC:Hid (∀j u,(xs.map encU)[j]? =some u→(w.alloc (.cells #[] 22)).cell? ((⟨g,off,none⟩:Addr).add j)=some u):=Lh hcl;have HLn:=Lh hn;have hml:n≤maxLen:=by unfold maxLen;omega
   clear hn hcl;go_enter func85,ntmps85;go_wp2_with (at_builtin;refine wpList_append_slv _ rfl _ _ 23 rfl 22 i0 (.int .u32 0) 1 4 Tryz.underlying23 hi0 hz0 hz1 hz2 rfl (by decide) _ 0 [] rfl HN.out ⟨g,off,none⟩ n cap (xs.map encU) rfl (by omega) (by rw[List.length_map,HLn.out,Nat.mul_one]) HC.out (by simp[Value.oneCell']) (by omega) (by omega) ?_;intro v2 w2 hl2 hm2 hb2);go_ret;refine⟨v2,rfl, ?_, ?_, ?_⟩
   ·have:=hl2;rw[Nat.zero_add,List.nil_append,←HLn.out] at this;exact this
   ·intro b hb;refine⟨?_, ?_⟩
    ·have hb3:v2.ownBlock=some w.heap.size∨∃k,v2.ownBlock=some k∧(w.alloc (.cells #[] 22)).heap.size≤k:=hb2;rcases hb3 with g2|⟨k,g2,g3⟩
     ·rw[g2] at hb
      injection hb with hb
      exact Nat.le_of_eq hb
     ·rw[g2] at hb
      injection hb with hb
      simp at g3;omega
    ·obtain⟨g,q1,q2⟩:=SlV.lt hl2 (by omega);have hb':v2.ownBlock=some b:=hb;rw[q1] at hb'
     injection hb' with hb'
     omega
   ·refine Mod.below HB.out hm2 (by simp) fun i _ hi=> ?_
    injection hi with hi
    exact Nat.le_of_eq hi
end Go.Proofs.YtjjdjpdmgaipeaaGreat.Sl
namespace Go.Proofs.YtjjdjpdmgaipeaaGreat
open Go.RowKit Word
namespace Ev
section
variable {w:World} {a:EAt} {E:En}
theorem copy(h:Env w a E):Calls Tryz.prog 17 #[.pointer (some ⟨a.eb,0,none⟩)] w fun e w'=>∃a' E',e=.returned (.pointer (some ⟨a'.eb,0,none⟩))∧Env w' a' E'∧En.Like E' E∧(∀k,a'.foot E'.A k→w.heap.size≤k)∧Below w.heap.size w w':=by
 obtain⟨c0,c1,c2,c3,c4,c5,c6,c7⟩:=cells h;have HF1:Hid (∀a' E' w',Env w' a' E'→En.Like E' E→(∀k,a'.foot E'.A k→w.heap.size≤k)→Below w.heap.size w w'→∃a'' E'',Ending.returned (.pointer (some ⟨a'.eb,0,none⟩))=.returned (.pointer (some ⟨a''.eb,0,none⟩))∧Env w' a'' E''∧En.Like E'' E∧(∀k,a''.foot E''.A k→w.heap.size≤k)∧Below w.heap.size w w'):=Lh fun a' E' w' h1 h2 h3 h4=>⟨a',E',rfl,h1,h2,h3,h4⟩
 have H:=Lh h;have hae:a.eb<w.heap.size:=lt_of_block h.blk;obtain⟨al,cap,hlv⟩:=SlV.form h.ls;rw[hlv] at c1;have HLv:=Lh hlv;clear h hlv;go_enter func17,ntmps17;go_wp2_with fail;have hbb:Below w.heap.size w (w.alloc (.cells #[.pointer (some ⟨a.sb,0,none⟩),.slice al E.own.length cap,.pointer (some ⟨a.cb,0,none⟩),.int .i64 E.num,.int .u8 E.kind,.int .u32 E.code,.int .i64 E.why,.string E.text] 165)):=(Below.refl _ _).alloc (Nat.le_refl _) _;have htb:(w.alloc (.cells #[.pointer (some ⟨a.sb,0,none⟩),.slice al E.own.length cap,.pointer (some ⟨a.cb,0,none⟩),.int .i64 E.num,.int .u8 E.kind,.int .u32 E.code,.int .i64 E.why,.string E.text] 165)).heap[w.heap.size]? =some (.cells #[.pointer (some ⟨a.sb,0,none⟩),.slice al E.own.length cap,.pointer (some ⟨a.cb,0,none⟩),.int .i64 E.num,.int .u8 E.kind,.int .u32 E.code,.int .i64 E.why,.string E.text] 165 (0,0)):=heap_alloc_new w _;generalize w.alloc (.cells #[.pointer (some ⟨a.sb,0,none⟩),.slice al E.own.length cap,.pointer (some ⟨a.cb,0,none⟩),.int .i64 E.num,.int .u8 E.kind,.int .u32 E.code,.int .i64 E.why,.string E.text] 165)=W at*;have hz:=hbb.size;have hwl:w.heap.size<W.heap.size:=lt_of_block htb;have HE:=Lh (H.out.below hbb);have HB:=Lh hbb;have HT:=Lh htb;have HNe:Hid (a.eb≠w.heap.size):=Lh (by omega);obtain⟨m0,m1,m2,_⟩:=cells HE.out;rw[HLv.out] at m1;have hcell:∀V,Below W.heap.size W V→V.cell? ⟨a.eb,0,none⟩=some (.pointer (some ⟨a.sb,0,none⟩))∧V.cell? ⟨a.eb,1,none⟩=some (.slice al E.own.length cap)∧V.cell? ⟨a.eb,2,none⟩=some (.pointer (some ⟨a.cb,0,none⟩)):=fun V hV=>by
  obtain⟨q0,q1,q2,_⟩:=cells (HE.out.below hV);rw[HLv.out] at q1;exact⟨q0,q1,q2⟩
 have HCl:=Lh hcell;have hset:∀(V:World) (i:Nat) (u:Value) (j:Nat),(V.setCell ⟨w.heap.size,i,none⟩ u).cell? ⟨a.eb,j,none⟩=V.cell? ⟨a.eb,j,none⟩:=fun V i u j=>by
  unfold World.cell?;rw[Below.heap_setCell _ _ _ _ HNe.out]
 have HSt:=Lh hset;clear c0 c1 c2 c3 c4 c5 c6 c7 hbb htb hcell hset hz;go_region_held3 (fun w'=>w'.cell? ⟨a.eb,0,none⟩=some (.pointer (some ⟨a.sb,0,none⟩))∧w'.cell? ⟨a.eb,1,none⟩=some (.slice al E.own.length cap)∧w'.cell? ⟨a.eb,2,none⟩=some (.pointer (some ⟨a.cb,0,none⟩)))
  (first
   |exact⟨m0,m1,m2⟩
   |exact HCl.out _ hb1
   |exact HCl.out _ hb2
   |exact HCl.out _ hb3
   |(simp only[HSt.out];exact HCl.out _ hb3))
  (first
   |(
     go_at_call 84;refine(Sp.copy (HE.out.below (by first|exact Below.refl _ _|exact(Below.refl _ _).drew)).sp).mono ?_;rintro e w1 ⟨so,mo,C,rfl,hs1,hcc,hf1,hb1'⟩;have hb1:Below W.heap.size W w1:=below_th (by first|exact Below.refl _ _|exact(Below.refl _ _).drew) hb1')
   |(
     go_at_call 85;refine(by have hcl:=Sl.clone2 (HE.out.below hb1).ls H.out.ok.len;rw[HLv.out] at hcl;exact hcl:Calls Tryz.prog 85 #[.slice al E.own.length cap] w1 _).mono ?_;rintro e w2 ⟨v2,rfl,hl2,hv2,hb2'⟩;obtain⟨o2,k2,rfl⟩:=SlV.form hl2;have hb2:Below W.heap.size W w2:=below_th hb1 hb2')
   |(
     go_at_call 86;refine(Cp.copy (HE.out.below hb2).cp).mono ?_;rintro e w3 ⟨rfl,hc3,hb3'⟩;have hb3:Below W.heap.size W w3:=below_th hb2 hb3';have ht3:=(hb3.block _ hwl).trans HT.out;have y0:w3.cell? ⟨w.heap.size,0,none⟩=some (.pointer (some ⟨a.sb,0,none⟩)):=by unfold World.cell?;rw[ht3];rfl
     have y1:w3.cell? ⟨w.heap.size,1,none⟩=some (.slice al E.own.length cap):=by unfold World.cell?;rw[ht3];rfl
     have y2:w3.cell? ⟨w.heap.size,2,none⟩=some (.pointer (some ⟨a.cb,0,none⟩)):=by unfold World.cell?;rw[ht3];rfl
     have f0:w3.frozen? ⟨w.heap.size,0,none⟩=false:=by unfold World.frozen?;rw[ht3];rfl
     have f1:w3.frozen? ⟨w.heap.size,1,none⟩=false:=by unfold World.frozen?;rw[ht3];rfl
     have f2:w3.frozen? ⟨w.heap.size,2,none⟩=false:=by unfold World.frozen?;rw[ht3];rfl))
 have hz1:=hb1'.size;have hz2:=hb2'.size;have hz3:=hb3'.size;have hfw:∀k,Spc.foot so mo C k→W.heap.size≤k:=hf1;have hzw:W.heap.size≤w1.heap.size:=hb1.size;have hm:Mod (fun i=>i=w.heap.size) w3 (((w3.setCell ⟨w.heap.size,0,none⟩ (.pointer (some ⟨so,0,none⟩))).setCell ⟨w.heap.size,1,none⟩ (.slice o2 E.own.length k2)).setCell ⟨w.heap.size,2,none⟩ (.pointer (some ⟨w2.heap.size,0,none⟩))):=Mod.setCell (F:=fun i=>i=w.heap.size) (Mod.setCell (F:=fun i=>i=w.heap.size) (Mod.setCell (F:=fun i=>i=w.heap.size) (Mod.refl _ _) ⟨w.heap.size,0,none⟩ (.inl rfl) _) ⟨w.heap.size,1,none⟩ (.inl rfl) _) ⟨w.heap.size,2,none⟩ (.inl rfl) _;have q1:=heap_setCell_same w3 w.heap.size 0 _ _ (.pointer (some ⟨so,0,none⟩)) ht3;have q2:=heap_setCell_same _ w.heap.size 1 _ _ (.slice o2 E.own.length k2) q1;have q3:=heap_setCell_same _ w.heap.size 2 _ _ (.pointer (some ⟨w2.heap.size,0,none⟩)) q2;have hzx:=hm.size;have hgl:∀g,(Value.slice o2 E.own.length k2).ownBlock=some g→w1.heap.size≤g∧g<w2.heap.size:=hv2;have hlx:Sl.Lst w3 (.slice o2 E.own.length k2) E.own:=hl2.frame fun g hg=>hb3'.block _ (hgl g hg).2
 have henv:Env _ ⟨w.heap.size,so,mo,w2.heap.size,.slice o2 E.own.length k2⟩ {E with A:=C}:=
  {blk:=q3,cp:=hc3.keep hm (by show¬w2.heap.size=w.heap.size;omega),sp:=((hs1.below hb2' fun _ hk=>hs1.lt hk).below hb3' fun k hk=>Nat.lt_of_lt_of_le (hs1.lt hk) hz2).keep hm (fun k hk g=>by have:=hfw k hk;omega),ls:=hlx.keep hm (fun g hg=>Nat.lt_of_lt_of_le (hgl g hg).2 hz3) (fun g hg e=>by have:=(hgl g hg).1;omega),ec:=by show w.heap.size≠w2.heap.size;omega,es:=fun g=>by have h1:W.heap.size≤w.heap.size:=hfw _ g;omega,cs:=fun g=>absurd (hs1.lt g) (Nat.not_lt.2 hz2),le:=fun g hg=>⟨by have:=(hgl g hg).2;omega,(by have:=(hgl g hg).1;show g≠w.heap.size;omega),(by have:=(hgl g hg).2;show g≠w2.heap.size;omega),fun q=>absurd (hs1.lt q) (Nat.not_lt.2 (hgl g hg).1)⟩,ok:=⟨H.out.ok.up,H.out.ok.may,fun x hx=>by
    have:=H.out.ok.has x hx;rw[isSome_addr] at this⊢;have ha:=Cor.addrs_eq hcc;unfold Pag.addrs at ha
    show x∈C.map Pg.addr
    rw[ha];exact this,H.out.ok.text⟩}
 have HFin:=Lh (HF1.out _ _ _ henv ⟨rfl,rfl,rfl,rfl,rfl,rfl,hcc,rfl,rfl⟩ (fun k hk=>by
  rcases hk with g|g|g|g
  ·exact Nat.le_of_eq g.symm
  ·have:k=w2.heap.size:=g;omega
  ·have:=hfw k g;omega
  ·have:=(hgl k g).1;omega) (Mod.below ((HB.out.trans (hb3.mono HB.out.size))) hm (by omega) fun i _ hi=>Nat.le_of_eq hi.symm))
 go_wp2;go_ret
 first
  |exact HFin.out
  |(obtain⟨a2,E2,e1,e2,e3,e4,e5⟩:=HFin.out;first|exact⟨a2,e1,E2,e2,e3,e4,e5⟩|exact⟨a2,E2,e1,e2,e3,e4,e5⟩)
end
end Ev
open Go.RowKit Word
open Go.RowKit
namespace L22
theorem shown{w:World}{a:KAt}{K:Kn}{e:EAt}{E:En}(hk:Knl w a K)(he:Env w e E)(k n:Int)(t:ByteArray)(m:Int)(hn:n=1)(ht:t.size<140737488355328)
  (h:(k=1∧Gp.con (K.g 1)=true∧t.size≠0)∨(k=2∧Ni.portB t=true∧Gp.hasPort (K.g 1) (Ni.portV t 20)=true)∨(k=3∧E.kind=3∧E.code=m∧E.why=0)):
  Calls Tryz.prog 21 #[.pointer (some ⟨a.kb,0,none⟩),.pointer (some ⟨e.eb,0,none⟩),.agg #[.int .u8 k,.int .i64 n,.string t,.int .u32 m]] w fun r w'=>r=.returned (.bool true)∧Below w.heap.size w w':=by
 subst hn;have hb:Below w.heap.size w (w.alloc (.cells #[.int .u8 k,.int .i64 1,.string t,.int .u32 m] 66)):=(Below.refl _ _).alloc (Nat.le_refl _) _;have hbx:=heap_alloc_new w (.cells #[.int .u8 k,.int .i64 1,.string t,.int .u32 m] 66);have HB:=Lh hb;have hk1:=hk.below hb;have he1:=he.below hb;obtain⟨w1,hw1⟩:∃w1,w.alloc (.cells #[.int .u8 k,.int .i64 1,.string t,.int .u32 m] 66)=w1:=⟨_,rfl⟩;obtain⟨bx,hbxe⟩:∃bx,w.heap.size=bx:=⟨_,rfl⟩;rw[hw1] at hbx HB hk1 he1;rw[hbxe] at hbx;have HK:=Lh fun V (hV:Below w1.heap.size w1 V)=>hk1.below hV
 have HE:=Lh fun V (hV:Below w1.heap.size w1 V)=>he1.below hV
 have HC:Hid (∀V,Below w1.heap.size w1 V→V.cell? ⟨bx,0,none⟩=some (.int .u8 k)∧V.cell? ⟨bx,1,none⟩=some (.int .i64 1)∧V.cell? ⟨bx,2,none⟩=some (.string t)∧V.cell? ⟨bx,3,none⟩=some (.int .u32 m)∧True):=Lh fun V hV=>by
  have g:=(hV.block _ (lt_of_block hbx)).trans hbx;refine⟨?_, ?_, ?_, ?_,trivial⟩<;>(unfold World.cell?;rw[g];rfl)
 have HEnd:Hid (∀V,Below w1.heap.size w1 V→Below w.heap.size w V):=Lh fun V hV=>below_th HB.out hV
 obtain⟨c0,c1,c2,c3,_⟩:=HC.out w1 (Below.refl _ _);have HTs:=Lh ht;clear hb hbx hk he hk1 he1 ht HB;rcases h with⟨rfl,hc,hs⟩|⟨rfl,hp,hh⟩|⟨rfl,q1,q2,q3⟩
 ·have hcs:=fun V (hV:Below w1.heap.size w1 V)=>Ca.console (HK.out V hV).caps (n:=1) ⟨by decide,by decide⟩
  rw[hc] at hcs;have HCs:=Lh hcs;have ht1:=nonempty_str t (by omega);clear hcs hc hs;go_enter func21,ntmps21;go_wp2_with fail;try rw[hw1]
  try rw[hbxe]
  clear hw1 hbxe;refine(Kl.caps (HK.out _ (Below.refl _ _))).mono ?_;rintro r w5 ⟨rfl,rfl⟩;go_wp2_with fail;refine(HCs.out _ (Below.refl _ _)).mono ?_;rintro r w5 ⟨rfl,hb5⟩;obtain⟨c0,c1,c2,c3,_⟩:=HC.out w5 hb5;have HX:=Lh (HEnd.out _ hb5);clear hb5;go_wp2
  first|exact⟨rfl,HX.out⟩|(go_ret;exact⟨rfl,HX.out⟩)
 ·have hfr:=fun V=>Ni.from' t HTs.out V
  rw[hp] at hfr;have HFr:=Lh hfr;have hpo:=fun V (hV:Below w1.heap.size w1 V)=>Ca.port (HK.out V hV).caps (n:=1) ⟨by decide,by decide⟩ (Ni.portV t 20)
  rw[hh] at hpo;have HPo:=Lh hpo;clear hfr hp hpo hh;go_enter func21,ntmps21;go_wp2_with fail;try rw[hw1]
  try rw[hbxe]
  clear hw1 hbxe;refine(HFr.out _).mono ?_;rintro r w5 ⟨rfl,hb5⟩;obtain⟨c0,c1,c2,c3,_⟩:=HC.out w5 hb5;have HB5:=Lh hb5;clear hb5;go_wp2_with fail;refine(Kl.caps (HK.out _ HB5.out)).mono ?_;rintro r w6 ⟨rfl,rfl⟩;go_wp2_with fail;refine(HPo.out _ HB5.out).mono ?_;rintro r w6 ⟨rfl,hb6⟩;have HX:=Lh (HEnd.out _ (below_th HB5.out hb6));clear hb6;go_wp2
  first|exact⟨rfl,HX.out⟩|(go_ret;exact⟨rfl,HX.out⟩)
 ·have hst:=fun V (hV:Below w1.heap.size w1 V)=>Ev.state (HE.out V hV)
  rw[q1,q2,q3] at hst;have HSt:=Lh hst;have hes:=Cp.eqState 3 m 0;clear hst q1 q2 q3;go_enter func21,ntmps21;go_wp2_with fail;try rw[hw1]
  try rw[hbxe]
  clear hw1 hbxe c0 c1 c2 c3;refine B (fun V=>V.cell? ⟨bx,0,none⟩=some (.int .u8 3)∧V.cell? ⟨bx,1,none⟩=some (.int .i64 1)∧V.cell? ⟨bx,2,none⟩=some (.string t)∧V.cell? ⟨bx,3,none⟩=some (.int .u32 m)∧True) (HC.out _ (Below.refl _ _).drew) ?_;intro wd hwd hS;have HBd:Hid (Below w1.heap.size w1 wd):=Lh (by subst hwd;exact(Below.refl _ _).drew);clear hwd;refine T 0 hS ?_;refine T 1 hS ?_;refine T 2 hS ?_;refine T 3 hS ?_;refine T 4 hS ?_;refine T 6 hS ?_;refine T 7 hS ?_;refine T 8 hS ?_;clear hS;refine U 5 fun K' hK=> ?_
  go_simp;go_at_call 14;refine(HSt.out _ HBd.out).mono ?_;rintro r w5 ⟨rfl,hb5⟩;have HB5:=Lh (below_th HBd.out hb5);have hS:=HC.out _ HB5.out;clear hb5;refine V hK hS ?_;clear hK K';refine T 9 hS ?_;refine T 10 hS ?_;refine T 11 hS ?_;clear hS;refine wpAnyH_done (by kernel_rfl) ?_ _;have HX:=Lh (HEnd.out _ HB5.out);go_wp2
  first|exact⟨rfl,HX.out⟩|(go_ret;exact⟨rfl,HX.out⟩)
end L22
namespace L22
def pgGood(A' A:List Pg)(own:List Int)(same:Bool)(x:Int):Prop:=
 (Sp.permB A' x=true∧Sp.permV A' x=Sp.permV A x∧(Sp.getS A' x 256 0=Sp.getS A x 256 0∨(same=false∧¬bits .and .u8 (Sp.permV A x) 2=0)))∨(Sp.permB A' x=false∧same=false∧x∈own)
theorem pgGood_of{A A':List Pg}{own:List Int}(hA:Kp.Ok A)(hA':Kp.Ok A')(h:Wi.Pgs A A' own):∀p,p∈A→pgGood A' A own false p.addr:=fun p hp=>by
 have hok:=hA.ok p hp;obtain⟨g1,_,g3⟩:=Sp.get_page hA.up hp hok;have hz:p.addr - p.addr % 256=p.addr:=by have:=hok.a2;omega
 rcases h p hp with⟨p',h1,h2,h3⟩|⟨h1,h2⟩
 ·have hm:p'∈A':=List.mem_of_find?_eq_some h1;have ha:p'.addr=p.addr:=by have:=List.find?_some h1;simpa using this
  obtain⟨k1,_,k3⟩:=Sp.get_page hA'.up hm (hA'.ok p' hm);rw[ha] at k1 k3;have e1:Sp.permB A' p.addr=true:=by unfold Sp.permB;rw[k1];rfl
  have e2:Sp.permV A' p.addr=p'.perm:=by unfold Sp.permV;rw[k1]
  have e3:Sp.permV A p.addr=p.perm:=by unfold Sp.permV;rw[g1]
  refine .inl ⟨e1,by rw[e2,e3,h2], ?_⟩;rcases h3 with h3|h3
  ·exact .inl (by rw[k3,g3,h3])
  ·exact .inr ⟨rfl,by rw[e3,h3];decide⟩
 ·exact .inr ⟨by unfold Sp.permB pageAt;rw[hz,h1];rfl,rfl,h2⟩
theorem pgGood_refl{A:List Pg}(hA:Kp.Ok A)(own:List Int)(same:Bool):∀p,p∈A→pgGood A A own same p.addr:=fun p hp=>by
 obtain⟨g1,_,_⟩:=Sp.get_page hA.up hp (hA.ok p hp);exact .inl ⟨by unfold Sp.permB;rw[g1];rfl,rfl,.inl rfl⟩
theorem pgGood_cores{A A':List Pg}(hc:cores A'=cores A)(hA:Kp.Ok A)(own:List Int)(same:Bool):∀p,p∈A→pgGood A' A own same p.addr:=fun p hp=>by
 have h:=pgGood_refl hA own same p hp;unfold pgGood at h⊢;rw[Cor.permB hc,Cor.permV hc,Cor.getS hc];exact h
def byRel(w:World)(n:Nat)(vi:Value)(wr:World):Prop:=∃i:Nat,i≤n∧vi=.int .i64 i∧Below w.heap.size w wr
theorem bytes{w:World}{sb mb sb1 mb1:Nat}{A' A:List Pg}(h0:Spc w sb mb A')(h1:Spc w sb1 mb1 A){oa:Option Addr}{oc:Nat}{own:List Int}(ho:Rs.Words w oa own)(same:Bool)(hg:∀p,p∈A→pgGood A' A own same p.addr)(hlen:same=true→A'.length=A.length):
  Calls Tryz.prog 99 #[.pointer (some ⟨sb,0,none⟩),.pointer (some ⟨sb1,0,none⟩),.slice oa own.length oc,.bool same] w fun e w'=>e=.returned (.bool true)∧Below w.heap.size w w':=by
 have H0:=Lh fun V (hV:Below w.heap.size w V)=>h0.below hV (fun k hk=>h0.lt hk)
 have H1:=Lh fun V (hV:Below w.heap.size w V)=>h1.below hV (fun k hk=>h1.lt hk)
 have HO:=Lh fun V (hV:Below w.heap.size w V)=>Ca.words_below ho hV
 have HG:=Lh hg;have HLen:=Lh hlen;have HOk:=Lh h1.ok;have HSp:=Lh h1;clear h0 h1 ho hg hlen;go_enter func99,ntmps99;go_wp2_with fail;refine(Pag.pages HSp.out).mono ?_;rintro e w1 ⟨v1,rfl,ho1,hb1⟩;have hl1:A.length=(Pag.addrs A).length:=by unfold Pag.addrs;rw[List.length_map]
 rw[hl1] at ho1;obtain⟨a1,c1,rfl,hw1⟩:=Rs.words_own ho1;have HW:=Lh fun V (hV:Below w1.heap.size w1 V)=>Ca.words_below hw1 hV
 have HB1:=Lh hb1;have HLn:=Lh hw1.len;have HR0:Hid (byRel w1 (Pag.addrs A).length (.int .i64 0) w1):=Lh ⟨0,Nat.zero_le _,rfl,Below.refl _ _⟩;clear ho1 hw1 hb1 HSp;go_wp2;go_loopw [10,11,12,13,14,15,16,17,18] (fun vi _ _ _ _ _ _ _ _ wr=>byRel w1 (Pag.addrs A).length vi wr) (fun vi _ _ _ _ _ _ _ _ _=>(Pag.addrs A).length - (intOf vi).toNat)
 case atStart=>exact HR0.out
 case round=>
  clear HR0;obtain⟨i,hi,rfl,hb⟩:=hrel;have HBw:=Lh hb;clear hb
  by_cases hin:i<(Pag.addrs A).length
  ·have ii:(i:Int)<(Pag.addrs A).length:=by omega
   have iw:IntKind.i64.wrap ((i:Int)+1)=(i:Int)+1:=by have:=HLn.out;rw[IntKind.wrap_i64];omega
   have hiA:i<A.length:=by rw[hl1];exact hin
   obtain⟨x,hx⟩:∃x,(Pag.addrs A)[i]=x:=⟨_,rfl⟩;have hxa:A[i].addr=x:=by rw[←hx];simp[Pag.addrs]
   have hgd:=HG.out _ (List.getElem_mem hiA);have hpk:=HOk.out _ (List.getElem_mem hiA);have x0:=hpk.a0;have x1:=hpk.a1;rw[hxa] at hgd x0 x1;have HX:=Lh hx;have HGd:=Lh hgd;have hcell:∀V,Below w1.heap.size w1 V→∃g o,a1=some ⟨g,o,none⟩∧V.cell? ⟨g,o+i,none⟩=some (.int .u32 x):=fun V hV=>by
    have:=(HW.out V hV).cell i hin;rw[hx] at this;exact this
   obtain⟨g,o,ea,cc⟩:=hcell wr HBw.out;subst ea;have HCc:Hid (∀V,Below w1.heap.size w1 V→V.cell? ⟨g,o+i,none⟩=some (.int .u32 x)):=Lh fun V hV=>by
    obtain⟨g',o',e,h⟩:=hcell V hV;cases e;exact h
   have HP0:=Lh fun V (hV:Below w.heap.size w V)=>Sp.perm_any (H0.out V hV) x x0 (by omega)
   have HP1:=Lh fun V (hV:Below w.heap.size w V)=>Sp.perm_any (H1.out V hV) x x0 (by omega)
   have HL0:=Lh fun V (hV:Below w.heap.size w V)=>Sp.look (H0.out V hV) x 256 x0 (by omega)
   have HL1:=Lh fun V (hV:Below w.heap.size w V)=>Sp.look (H1.out V hV) x 256 x0 (by omega)
   have fin:∀V,Below w1.heap.size w1 V→byRel w1 (Pag.addrs A).length (.int .i64 ((i:Int)+1)) V:=fun V hV=>⟨i+1,hin,by simp,hV⟩
   have Fin:=Lh fin;have HBx:=Lh (below_th HB1.out HBw.out);clear hcell hgd hpk hxa hx fin hiA;obtain⟨b0,hb0⟩:∃b,Sp.permB A' x=b:=⟨_,rfl⟩;obtain⟨b1,hb1⟩:∃b,Sp.permB A x=b:=⟨_,rfl⟩;obtain⟨p1,hp1⟩:∃p,Sp.permV A x=p:=⟨_,rfl⟩;obtain⟨s0,hs0⟩:∃s,Sp.getS A' x 256 0=s:=⟨_,rfl⟩;obtain⟨s1,hs1⟩:∃s,Sp.getS A x 256 0=s:=⟨_,rfl⟩;have hgd:=HGd.out;unfold pgGood at hgd;rw[hb0,hp1,hs0,hs1] at hgd;rw[hb0] at HP0;rw[hb1,hp1] at HP1;rw[hs0] at HL0;rw[hs1] at HL1;clear hb0 hb1 hp1 hs0 hs1 HGd;rcases hgd with⟨rfl,hpv,hss⟩|⟨rfl,hsm,hmem⟩
   ·rw[hpv] at HP0;have hcase:(s0.toList == s1.toList)=true∨((s0.toList == s1.toList)=false∧same=false∧¬bits .and .u8 p1 2=0):=by
     rcases hss with e|⟨e1,e2⟩
     ·exact .inl (by rw[e];simp)
     ·cases e:(s0.toList == s1.toList) with
      |true=>exact .inl rfl
      |false=>exact .inr ⟨rfl,e1,e2⟩
    clear hpv hss;go_wp2_with fail;refine(HP0.out _ HBx.out).mono ?_;rintro r w5 ⟨rfl,rfl⟩;go_wp2_with fail;refine(HP1.out _ HBx.out).mono ?_;rintro r w5 ⟨rfl,rfl⟩;go_wp2_with fail;refine(HL0.out _ HBx.out).mono ?_;rintro r w5 ⟨rfl,hb5⟩;have cc:=HCc.out w5 (below_th HBw.out hb5);have HB5:=Lh (below_th HBx.out hb5);have HB5':=Lh (below_th HBw.out hb5);clear hb5;go_wp2_with fail;refine(HL1.out _ HB5.out).mono ?_;rintro r w6 ⟨rfl,hb6⟩;have HE:=Lh (Fin.out w6 (below_th HB5'.out hb6));have cc:=HCc.out w6 (below_th HB5'.out hb6);clear hb6;rcases hcase with hq|⟨hq,rfl,hnz⟩
    ·go_wp2
     all_goals exact⟨HE.out,by simp[intOf];omega⟩
    ·have hnz1:(bits .and .u8 p1 2 == 0)=false:=beq_eq_false_iff_ne.2 hnz;go_wp2
     all_goals exact⟨HE.out,by simp[intOf];omega⟩
   ·subst hsm;have ham:=fun V (hV:Below w.heap.size w V)=>among (ac:=oc) (HO.out V hV) x
    rw[decide_eq_true hmem] at ham;have HAm:=Lh ham;clear ham hmem;go_wp2_with fail;refine(HP0.out _ HBx.out).mono ?_;rintro r w5 ⟨rfl,rfl⟩;go_wp2_with fail;refine(HP1.out _ HBx.out).mono ?_;rintro r w5 ⟨rfl,rfl⟩;go_wp2_with fail;refine(HL0.out _ HBx.out).mono ?_;rintro r w5 ⟨rfl,hb5⟩;have cc:=HCc.out w5 (below_th HBw.out hb5);have HB5:=Lh (below_th HBx.out hb5);have HB5':=Lh (below_th HBw.out hb5);clear hb5;go_wp2_with fail;refine(HL1.out _ HB5.out).mono ?_;rintro r w6 ⟨rfl,hb6⟩;have HB6:=Lh (below_th HB5.out hb6);have HE:=Lh (Fin.out w6 (below_th HB5'.out hb6));have cc:=HCc.out w6 (below_th HB5'.out hb6);clear hb6;go_wp2_with fail;refine(HAm.out _ HB6.out).mono ?_;rintro r w7 ⟨rfl,rfl⟩;go_wp2
    all_goals exact⟨HE.out,by simp[intOf];omega⟩
  ·obtain rfl:i=(Pag.addrs A).length:=by omega
   have ii:¬((Pag.addrs A).length:Int)<(Pag.addrs A).length:=by omega
   have HBx:=Lh (below_th HB1.out HBw.out);cases same with
   |false=>
    go_wp2
    first|exact⟨rfl,HBx.out⟩|(go_ret;exact⟨rfl,HBx.out⟩)
   |true=>
    have hl2:A'.length=(Pag.addrs A).length:=by rw[←hl1];exact HLen.out rfl
    have HSp:=Lh (H0.out _ HBx.out);go_wp2_with fail;refine(Pag.pages HSp.out).mono ?_;rintro e w5 ⟨v5,rfl,ho5,hb5⟩;have hl5:A'.length=(Pag.addrs A').length:=by unfold Pag.addrs;rw[List.length_map]
    rw[hl5] at ho5;obtain⟨a5,c5,rfl,hw5⟩:=Rs.words_own ho5;have hl6:(Pag.addrs A').length=(Pag.addrs A).length:=by rw[←hl5];exact hl2
    have HE:=Lh (below_th HBx.out hb5);rw[hl6];clear ho5 hw5 hb5 hl5 hl6 hl2;go_wp2
    first|exact⟨rfl,HE.out⟩|(go_ret;exact⟨rfl,HE.out⟩)
end L22
namespace Ni
theorem droppedC{w:World}{nb mb:Nat}{V:Int→Value}{sv:Value}{S:NicS}(h:Nc w nb mb V sv S):Calls Tryz.prog 118 #[.pointer (some ⟨nb,0,none⟩)] w fun e w'=>e=.returned (.int .i64 S.gone)∧w=w':=by
 have hc:=h.cellGone;clear h;go_enter func118,ntmps118;go_wp2;go_ret;exact⟨rfl,rfl⟩
theorem sentC{w:World}{nb mb:Nat}{V:Int→Value}{sv:Value}{S:NicS}(h:Nc w nb mb V sv S)(hs:S.sent.length≤2000000):
  Calls Tryz.prog 95 #[.pointer (some ⟨nb,0,none⟩)] w fun e w'=>∃v,e=.returned v∧SlV w' 9 1 v S.sent.length (S.sent.map .string)∧Below w.heap.size w w':=by
 have hc:=h.cellSent;have hsl:=h.sent;obtain⟨so,sc,rfl⟩:=hsl.form;have HC:=Lh (Cl.clone_str (cap:=sc) (n:=S.sent.length) (by simp) (slv_at hsl) hs (fun u hu=>by obtain⟨f,_,rfl⟩:=List.mem_map.1 hu;rfl));clear h hsl;go_enter func95,ntmps95;go_wp2_with fail;refine HC.out.mono ?_;rintro e w2 ⟨v,rfl,h1,_,h2⟩;have HH:=Lh (And.intro h1 h2);clear h1 h2 HC;go_wp2;go_ret;exact⟨_,rfl,HH.out.1,HH.out.2⟩
end Ni
namespace Rn
def smRel(w:World)(n:Nat)(vi:Value)(wr:World):Prop:=∃i:Nat,i≤n∧vi=.int .i64 i∧Below w.heap.size w wr
theorem sameTexts{w:World}{v u:Value}{l:List ByteArray}(hv:SlV w 9 1 v l.length (l.map .string))(hu:SlV w 9 1 u l.length (l.map .string)):
  Calls Tryz.prog 117 #[v,u] w fun e w'=>e=.returned (.bool true)∧Below w.heap.size w w':=by
 have hln:=slv_len hv;unfold maxLen at hln;obtain⟨a,ac,rfl⟩:=hv.form;obtain⟨b,bc,rfl⟩:=hu.form;have HA:=Lh fun W (hW:Below w.heap.size w W)=>Cl.At.below (slv_at hv) hW
 have HB:=Lh fun W (hW:Below w.heap.size w W)=>Cl.At.below (slv_at hu) hW
 have HLn:=Lh hln;have HR0:Hid (smRel w l.length (.int .i64 0) w):=Lh ⟨0,Nat.zero_le _,rfl,Below.refl _ _⟩;clear hv hu hln;go_enter func117,ntmps117;go_wp2;go_loopw [5] (fun vi wr=>smRel w l.length vi wr) (fun vi _=>l.length - (intOf vi).toNat)
 case atStart=>exact HR0.out
 case round=>
  clear HR0;obtain⟨i,hi,rfl,hb⟩:=hrel;have HBw:=Lh hb;clear hb
  by_cases hin:i<l.length
  ·have ii:(i:Int)<l.length:=by omega
   have hx:(l.map Value.string)[i]? =some (.string l[i]):=by rw[List.getElem?_map,Zg hin];rfl
   obtain⟨g1,o1,e1,hc1⟩:=HA.out wr HBw.out i _ hx;obtain⟨g2,o2,e2,hc2⟩:=HB.out wr HBw.out i _ hx;subst e1;subst e2;have iw:IntKind.i64.wrap ((i:Int)+1)=(i:Int)+1:=by have:=HLn.out;rw[IntKind.wrap_i64];omega
   have fin:∀W,Below wr.heap.size wr W→smRel w l.length (.int .i64 ((i:Int)+1)) W:=fun W hW=>⟨i+1,hin,by simp,below_th HBw.out hW⟩
   have Fin:=Lh fin;generalize l[i]=t at*;have HS:Hid (∀W,Below wr.heap.size wr W→W.cell? ⟨g1,o1+i,none⟩=some (.string t)∧W.cell? ⟨g2,o2+i,none⟩=some (.string t)∧True):=Lh fun W hW=>⟨cell_below hW hc1,cell_below hW hc2,trivial⟩
   clear hx hc1 hc2 fin;go_wp2_with fail;refine B (fun W=>W.cell? ⟨g1,o1+i,none⟩=some (.string t)∧W.cell? ⟨g2,o2+i,none⟩=some (.string t)∧True) (HS.out _ (Below.refl _ _).drew) ?_;intro wd hwd hS;have HD:Hid (Below wr.heap.size wr wd):=Lh (by subst hwd;exact(Below.refl _ _).drew);clear hwd;refine T 0 hS ?_;refine T 1 hS ?_;refine T 2 hS ?_;refine T 3 hS ?_;refine T 4 hS ?_;refine T 5 hS ?_;refine T 6 hS ?_;refine T 7 hS ?_;refine T 8 hS ?_;clear hS;refine wpAnyH_done (by kernel_rfl) ?_ _;go_wp2;exact⟨Fin.out _ HD.out,by simp[intOf];omega⟩
  ·obtain rfl:i=l.length:=by omega
   have ii:¬(l.length:Int)<l.length:=by omega
   go_wp2
   first|exact⟨rfl,HBw.out⟩|(go_ret;exact⟨rfl,HBw.out⟩)
end Rn
namespace L22
def saO(w:World)(K:Kn)(vi:Value)(wr:World):Prop:=∃i:Nat,i≤K.B.length∧vi=.int .i64 i∧Below w.heap.size w wr
def saI(w:World)(l:List ByteArray)(vi:Value)(wr:World):Prop:=∃i:Nat,i≤l.length∧vi=.int .i64 i∧Below w.heap.size w wr
section
variable {w:World} {a:KAt} {b:RkAt} {K:Kn}
theorem same(hk:Knl w a K)(hr:Rkl w b K)(hs:K.N.sent.length≤2000000)(hp1:K.hp≤4096):Calls Tryz.prog 32 #[.pointer (some ⟨a.kb,0,none⟩),.pointer (some ⟨b.kb,0,none⟩)] w fun e w'=>e=.returned (.bool true)∧Below w.heap.size w w':=by
 have HK:=Lh fun W (hW:Below w.heap.size w W)=>hk.below hW
 have HR:=Lh fun W (hW:Below w.heap.size w W)=>hr.below hW
 have HBl:=Lh hr.bl;obtain⟨bo,bc,hbv⟩:=hr.outer.form;rw[hr.len] at hbv;have HBv:=Lh hbv;obtain⟨so,sc,hsv⟩:=hr.nic.out.form;have hS0:∀W,Below w.heap.size w W→W.cell? ⟨b.kb,3,none⟩=some (.int .u32 K.now)∧W.cell? ⟨b.kb,0,none⟩=some (.pointer (some ⟨b.c.rb,0,none⟩))∧W.cell? ⟨b.kb,1,none⟩=some (.pointer (some ⟨b.n.rb,0,none⟩))∧W.cell? ⟨b.n.rb,1,none⟩=some (.slice so K.N.sent.length sc)∧W.cell? ⟨b.n.rb,2,none⟩=some (.int .i64 K.N.gone)∧True:=fun W hW=>by
  obtain⟨e0,e1,e2,e3⟩:=(hr.below hW).cells;obtain⟨f0,f1,f2,_⟩:=(hr.below hW).nic.cells;exact⟨e3,e0,e1,by rw[f1,hsv],f2,trivial⟩
 have HS:=Lh hS0;have hO0:∀W,Below w.heap.size w W→W.cell? ⟨b.kb,2,none⟩=some (.slice bo K.B.length bc):=fun W hW=>by
  rw[←hbv];exact(hr.below hW).cells.2.2.1
 have HO:=Lh hO0;have HSo:Hid (∀W,Below w.heap.size w W→SlV W 9 1 (.slice so K.N.sent.length sc) K.N.sent.length (K.N.sent.map Value.string)):=Lh fun W hW=>by rw[←hsv];exact(hr.below hW).nic.out
 have HSl:=Lh hs;have HP1:=Lh hp1;have HR0:Hid (saO w K (.int .i64 0) w):=Lh ⟨0,Nat.zero_le _,rfl,Below.refl _ _⟩;have c2:=hO0 w (Below.refl _ _);clear hk hr hbv hsv hS0 hs hp1 hO0;go_enter func32,ntmps32;go_wp2;clear c2;go_loopw [5,6,7,8] (fun vi _ _ _ wr=>saO w K vi wr) (fun vi _ _ _ _=>K.B.length - (intOf vi).toNat)
 case atStart=>exact HR0.out
 case round=>
  clear HR0;obtain⟨i,hi,rfl,hb⟩:=hrel;have HBw:=Lh hb;have c2:=HO.out wr hb;clear hb
  by_cases hin:i<K.B.length
  ·have ii:(i:Int)<K.B.length:=by omega
   have hl:K.B[i]? =some K.B[i]:=Zg hin;have hll:=HBl.out.2 i _ hl;have HL:=Lh hl;have HR1:Hid (saI w K.B[i] (.int .i64 0) wr):=Lh ⟨0,Nat.zero_le _,rfl,HBw.out⟩;generalize K.B[i]=l at*;have HLl:=Lh hll;obtain⟨g0,off0,cap0,o,rc,e0,e0',hrw,e0''⟩:=(HR.out wr HBw.out).row_at hl;have HRow:=Lh hrw;have HRA:Hid (∀W,Below w.heap.size w W→∃g off,bo=some ⟨g,off,none⟩∧W.cell? ⟨g,off+i,none⟩=some (.slice o l.length rc)∧SlV W 9 1 (.slice o l.length rc) l.length (l.map .string)):=Lh fun W hW=>by
    obtain⟨g,off,cap,o',rc',q1,q2,q3,q4⟩:=(HR.out W hW).row_at HL.out;rw[HBv.out] at q1;rw[HRow.out] at q3;cases q3;cases q1;exact⟨g,off,rfl,q2,q4⟩
   clear hl hll e0 e0' e0'' hrw;go_wp2;clear c2 HBw;generalize wr=wo at*;go_loopw [6,7,8] (fun vi _ _ wr=>saI w l vi wr) (fun vi _ _ _=>l.length - (intOf vi).toNat)
   case atStart=>exact HR1.out
   case round=>
    clear HR1;obtain⟨j,hj,rfl,hb⟩:=hrel;have HBw:=Lh hb;have c2:=HO.out wr hb;obtain⟨g,off,ea,hc,hsl⟩:=HRA.out wr hb;have hb16:=HBl.out.1;have hl1024:=HLl.out;have wi:IntKind.u32.wrap (i:Int)=i:=wrap32 (by omega) (by omega);have wj:IntKind.u32.wrap (j:Int)=j:=wrap32 (by omega) (by omega);subst ea;clear hb
    by_cases hjn:j<l.length
    ·have jj:(j:Int)<l.length:=by omega
     have hx:(l.map Value.string)[j]? =some (.string l[j]):=by rw[List.getElem?_map,Zg hjn];rfl
     obtain⟨g1,o1,e1,hc1⟩:=slv_at hsl j _ hx;subst e1;have hblk:Kn.block K.B i j=some l[j]:=Kn.block_of HL.out (Zg hjn);have hcl:=Kl.block (HK.out wr HBw.out) (i:Int) (j:Int) (by omega) (by omega) (by omega) (by omega);rw[hblk] at hcl;have HCl:=Lh hcl;have fin:saI w l (.int .i64 ((j:Int)+1)) wr:=⟨j+1,hjn,by simp,HBw.out⟩;have Fin:=Lh fin;have jw:IntKind.i64.wrap ((j:Int)+1)=(j:Int)+1:=by rw[IntKind.wrap_i64];omega
     generalize l[j]=t at*;clear hx hblk hcl fin hsl;go_wp2_with fail;refine HCl.out.mono ?_;rintro e w2 ⟨rfl,rfl⟩;unfold Kl.blkS Kl.blkE;simp only[Option.getD_some];go_wp2;exact⟨Fin.out,by simp[intOf];omega⟩
    ·obtain rfl:j=l.length:=by omega
     have jj:¬(l.length:Int)<l.length:=by omega
     have iw:IntKind.i64.wrap ((i:Int)+1)=(i:Int)+1:=by rw[IntKind.wrap_i64];omega
     have fin:saO w K (.int .i64 ((i:Int)+1)) wr:=⟨i+1,by have:=(List.getElem?_eq_some_iff.1 HL.out).1;omega,by simp,HBw.out⟩;have Fin:=Lh fin;clear fin hsl;go_wp2;exact⟨Fin.out,by simp[intOf];omega⟩
  ·obtain rfl:i=K.B.length:=by omega
   have ii:¬(K.B.length:Int)<K.B.length:=by omega
   go_wp2_with fail;clear c2;refine B (fun W=>W.cell? ⟨b.kb,3,none⟩=some (.int .u32 K.now)∧W.cell? ⟨b.kb,0,none⟩=some (.pointer (some ⟨b.c.rb,0,none⟩))∧W.cell? ⟨b.kb,1,none⟩=some (.pointer (some ⟨b.n.rb,0,none⟩))∧W.cell? ⟨b.n.rb,1,none⟩=some (.slice so K.N.sent.length sc)∧W.cell? ⟨b.n.rb,2,none⟩=some (.int .i64 K.N.gone)∧True) (HS.out _ (HBw.out.trans ((Below.refl _ _).drew.mono HBw.out.size))) ?_;intro wd hwd hS;have HB0:Hid (Below w.heap.size w wd):=Lh (by subst hwd;exact HBw.out.drew);clear hwd HBw;refine T 0 hS ?_;refine T 2 hS ?_;refine T 3 hS ?_;refine T 4 hS ?_;refine T 5 hS ?_;refine U 1 fun K' hK=> ?_
   have HX:=Lh (Kl.now (HK.out _ HB0.out));go_simp;go_at_call 114;refine HX.out.mono ?_;rintro e w1 ⟨rfl,rfl⟩;clear HX;refine V hK hS ?_;clear hK K';refine T 6 hS ?_;refine T 7 hS ?_;refine T 8 hS ?_;refine T 11 hS ?_;refine T 12 hS ?_;refine T 13 hS ?_;refine T 14 hS ?_;refine U 9 fun K' hK=> ?_
   have HX:=Lh (Kl.caps (HK.out _ HB0.out));go_simp;go_at_call 25;refine HX.out.mono ?_;rintro e w1 ⟨rfl,rfl⟩;clear HX;refine V hK hS ?_;clear hK K';refine U 10 fun K' hK=> ?_
   have HX:=Lh (Ca.left (HK.out _ HB0.out).caps (n:=1) ⟨by decide,by decide⟩);go_simp;go_at_call 100;refine HX.out.mono ?_;rintro e w1 ⟨rfl,hb⟩;have HB1:=Lh (below_th HB0.out hb);have hS1:=HS.out _ HB1.out;clear hb HX;refine V hK hS1 ?_;clear hK K' hS;have hS:=hS1;clear hS1;refine U 15 fun K' hK=> ?_
   have HX:=Lh (Rc.left (HR.out _ HB1.out).caps 1);go_simp;go_at_call 115;refine HX.out.mono ?_;rintro e w2 ⟨rfl,hb⟩;have HB2:=Lh (below_th HB1.out hb);have hS1:=HS.out _ HB2.out;clear hb HX;refine V hK hS1 ?_;clear hK K' hS;have hS:=hS1;clear hS1;refine T 16 hS ?_;refine T 17 hS ?_;refine T 18 hS ?_;refine T 19 hS ?_;refine T 22 hS ?_;refine T 23 hS ?_;refine T 24 hS ?_;refine T 25 hS ?_;refine U 20 fun K' hK=> ?_
   have HX:=Lh (Kl.caps (HK.out _ HB2.out));go_simp;go_at_call 25;refine HX.out.mono ?_;rintro e w3 ⟨rfl,rfl⟩;clear HX;refine V hK hS ?_;clear hK K';refine U 21 fun K' hK=> ?_
   have HX:=Lh (Ca.free (HK.out _ HB2.out).caps HP1.out);go_simp;go_at_call 116;refine HX.out.mono ?_;rintro e w3 ⟨rfl,hb⟩;have HB3:=Lh (below_th HB2.out hb);have hS1:=HS.out _ HB3.out;clear hb HX;refine V hK hS1 ?_;clear hK K' hS;have hS:=hS1;clear hS1;refine U 26 fun K' hK=> ?_
   have HX:=Lh (Rc.free (HR.out _ HB3.out).caps);go_simp;go_at_call 58;refine HX.out.mono ?_;rintro e w4 ⟨rfl,hb⟩;have HB4:=Lh (below_th HB3.out hb);have hS1:=HS.out _ HB4.out;clear hb HX;refine V hK hS1 ?_;clear hK K' hS;have hS:=hS1;clear hS1;refine T 27 hS ?_;refine T 28 hS ?_;refine T 29 hS ?_;refine T 30 hS ?_;refine T 33 hS ?_;refine T 34 hS ?_;refine T 35 hS ?_;refine T 36 hS ?_;refine T 37 hS ?_;refine T 38 hS ?_;refine T 39 hS ?_;refine U 31 fun K' hK=> ?_
   have HX:=Lh (Kl.nic (HK.out _ HB4.out));go_simp;go_at_call 12;refine HX.out.mono ?_;rintro e w5 ⟨rfl,rfl⟩;clear HX;refine V hK hS ?_;clear hK K';obtain⟨mb,V0,sv0,hnc,_⟩:=(HK.out _ HB4.out).nic;have HNc:=Lh fun W (hW:Below w4.heap.size w4 W)=>hnc.keep (G:=fun _=>False) (Mod.of_below hW _) fun _ _ g=>g
   clear hnc;refine U 32 fun K' hK=> ?_
   have HX:=Lh (Ni.sentC (HNc.out _ (Below.refl _ _)) HSl.out);go_simp;go_at_call 95;refine HX.out.mono ?_;rintro e w5 ⟨v,rfl,hsv,hb⟩;have HSv:=Lh hsv;have HN2:=Lh (HNc.out _ hb);have HB5:=Lh (below_th HB4.out hb);have hS1:=HS.out _ HB5.out;clear hb HX hsv HNc;refine V hK hS1 ?_;clear hK K' hS;have hS:=hS1;clear hS1;refine U 40 fun K' hK=> ?_
   have HX:=Lh (Rn.sameTexts HSv.out (HSo.out _ HB5.out));go_simp;go_at_call 117;refine HX.out.mono ?_;rintro e w6 ⟨rfl,hb⟩;have HN3:=Lh (HN2.out.keep (G:=fun _=>False) (Mod.of_below hb _) fun _ _ g=>g);have HB6:=Lh (below_th HB5.out hb);have hS1:=HS.out _ HB6.out;clear hb HX HSv HN2;refine V hK hS1 ?_;clear hK K' hS;have hS:=hS1;clear hS1;refine T 41 hS ?_;refine T 42 hS ?_;refine T 43 hS ?_;refine T 46 hS ?_;refine T 47 hS ?_;refine T 48 hS ?_;refine T 49 hS ?_;refine T 50 hS ?_;refine T 51 hS ?_;refine T 52 hS ?_;refine U 44 fun K' hK=> ?_
   have HX:=Lh (Kl.nic (HK.out _ HB6.out));go_simp;go_at_call 12;refine HX.out.mono ?_;rintro e w7 ⟨rfl,rfl⟩;clear HX;refine V hK hS ?_;clear hK K';refine U 45 fun K' hK=> ?_
   have HX:=Lh (Ni.droppedC HN3.out);go_simp;go_at_call 118;refine HX.out.mono ?_;rintro e w7 ⟨rfl,rfl⟩;clear HX;refine V hK hS ?_;clear hK K';refine T 53 hS ?_;refine T 54 hS ?_;refine T 55 hS ?_;clear hS;refine wpAnyH_done (by kernel_rfl) ?_ _;go_wp2
   first|exact⟨rfl,HB6.out⟩|(go_ret;exact⟨rfl,HB6.out⟩)
end
end L22
end Go.Proofs.YtjjdjpdmgaipeaaGreat
