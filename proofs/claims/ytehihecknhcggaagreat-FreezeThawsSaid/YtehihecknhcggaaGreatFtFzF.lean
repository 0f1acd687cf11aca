/- FzF, FzAny, Both22, FzA, FzV, FzX, FzGet in one text. -/
import Derived.Test.YtehihecknhcggaaGreatFtFzD
import Derived.Test.YtehihecknhcggaaGreatFtFzO
import Derived.Test.YtehihecknhcggaaGreatFtKnewG
import Derived.Test.YtehihecknhcggaaGreatFtFzLg
import Derived.OwnWalk
import Derived.Test.YtehihecknhcggaaGreatFtFzPut
import Derived.Test.YtehihecknhcggaaGreatFtR19F
import Derived.Test.YtehihecknhcggaaGreatFtZa
set_option linter.unusedVariables false
set_option linter.unusedSimpArgs false
set_option maxRecDepth 100000
set_option maxHeartbeats 16000000
open Go.Proofs.Tryz
namespace Go.Proofs.YtehihecknhcggaaGreat.Fz
open Go.RowKit In Word
theorem takeK{w:World}{b:RkAt}{K:Kn}(h:Rkl w b K)(n:Int):Calls Tryz.prog 100 #[.pointer (some ⟨b.c.rb,0,none⟩),.int .i64 n] w fun e w'=>e=.returned (.int .i64 (Gp.takeE (K.g n)))∧∃b',RkStep w w' b K b' {K with g:=Gp.upd K.g n (Gp.take (K.g n))}:=by
 refine(Rc.take h.caps n).mono ?_;rintro e w' ⟨h1,c,h2,h3,h4⟩;exact⟨h1,Rk.took h h2 h3 h4⟩
def ThawD(w:World)(b:RkAt)(K:Kn)(num:Int)(x:Fr)(r:Ending)(w':World):Prop:=
 (Ca.grantE K.hp K.hx K.g num x.m (pgN x)≠0∧r=.returned (.tuple #[.pointer none,.int .i64 (Ca.grantE K.hp K.hx K.g num x.m (pgN x))])∧Below w.heap.size w w')∨
 (Ca.grantE K.hp K.hx K.g num x.m (pgN x)=0∧∃b' f R,r=.returned (.tuple #[.pointer (some ⟨f.eb,0,none⟩),.int .i64 0])∧RkStep w w' b K b' (Ktk {K with g:=Gp.upd K.g num (some ⟨x.m,pgN x,0⟩)} num (owns x.sp))∧Renv w' f R (thF num x (rpgs R))∧cores (rpgs R)=corL x.sp∧∀k,f.foot R k→w.heap.size≤k∧b'.tag k=0)
def tdRel(w2:World)(rb:Nat)(l:List Fp)(vo vi:Value)(wr:World):Prop:=∃(i:Nat) (lv:Value) (R:List Rp),i≤l.length∧vi=.int .i64 i∧Sl.Lst wr vo ((ownL (l.take i)).map Fp.addr)∧(∀k,vo.ownBlock=some k→w2.heap.size≤k∧k<wr.heap.size∧¬Rsp.foot rb lv R k)∧Rsp wr rb lv R∧(∀k,Rsp.foot rb lv R k→w2.heap.size≤k)∧Below w2.heap.size w2 wr∧Kp.Ok (rpgs R)∧cores (rpgs R)=corL (l.take i)
def tkD(w6:World)(b6:RkAt)(K6:Kn)(num:Int)(m:Nat)(vi:Value)(wr:World):Prop:=∃(i:Nat) (b:RkAt),i≤m∧vi=.int .i64 i∧RkStep w6 wr b6 K6 b (Ktk K6 num i)
theorem thawD{w:World}{b:RkAt}{K:Kn}(h:Rkl w b K)(hl:K.hx.length≤16){x:Fr}{ev pv sv:Value}(hx:FrV w x ev pv sv)(ho:x.ok)(hm:x.may)(hlen:x.sp.length≤65536)(num:Int):
  Calls Tryz.prog 26 #[.pointer (some ⟨b.kb,0,none⟩),.int .i64 num,.agg (x.arr ev pv sv)] w (ThawD w b K num x):=by
 obtain⟨so,sc,rfl⟩:=hx.s.form;obtain⟨eo,ec,rfl⟩:=hx.m.e.form;obtain⟨po,pc,rfl⟩:=hx.m.p.form;have hb:Below w.heap.size w (w.alloc (.cells (x.arr (.slice eo x.m.ext.length ec) (.slice po x.m.ports.length pc) (.slice so x.sp.length sc)) 52)):=Ba _;have hbx:FBox (w.alloc (.cells (x.arr (.slice eo x.m.ext.length ec) (.slice po x.m.ports.length pc) (.slice so x.sp.length sc)) 52)) w.heap.size x (.slice eo x.m.ext.length ec) (.slice po x.m.ports.length pc) (.slice so x.sp.length sc):=heap_alloc_new w _;have HTg:Hid (∀k,w.heap.size≤k→b.tag k=0):=Lh fun k hk=>Decidable.byContradiction fun g=>absurd (h.lt _ g) (by omega)
 obtain⟨w1,hw1⟩:∃y,w.alloc (.cells (x.arr (.slice eo x.m.ext.length ec) (.slice po x.m.ports.length pc) (.slice so x.sp.length sc)) 52)=y:=⟨_,rfl⟩;obtain⟨xb,hxb⟩:∃y,w.heap.size=y:=⟨_,rfl⟩;rw[hw1] at hb hbx;rw[hxb] at hbx;have HXb:=Lh hxb;have HB:=Lh hb;have HKn:=Lh h;have HAll:Hid (∀V,Below w1.heap.size w1 V→FBox V xb x (.slice eo x.m.ext.length ec) (.slice po x.m.ports.length pc) (.slice so x.sp.length sc)∧FrV V x (.slice eo x.m.ext.length ec) (.slice po x.m.ports.length pc) (.slice so x.sp.length sc)∧Rkl V b K):=Lh fun V hV=>⟨hbx.keep (Mod.of_below hV fun _=>False) id,hx.below (bQ hb hV),h.below (bQ hb hV)⟩
 have HCk:=Lh (mayD (hx.below hb) ho (by omega));have HRa:=Lh hbx.range;have HSi:=Lh (fz_sizeL x (.slice eo x.m.ext.length ec) (.slice po x.m.ports.length pc) (.slice so x.sp.length sc));have HO:=Lh ho;have HM:=Lh hm;have HL:=Lh hlen;have HKb:=Lh hl;have HF1:Hid (∀V,Ca.grantE K.hp K.hx K.g num x.m (pgN x)≠0→Below w1.heap.size w1 V→ThawD w b K num x (.returned (.tuple #[.pointer none,.int .i64 (Ca.grantE K.hp K.hx K.g num x.m (pgN x))])) V):=Lh fun V h1 h2=>.inl ⟨h1,rfl,bQ hb h2⟩
 have HF2:Hid (∀V b' f R,Ca.grantE K.hp K.hx K.g num x.m (pgN x)=0→RkStep w V b K b' (Ktk {K with g:=Gp.upd K.g num (some ⟨x.m,pgN x,0⟩)} num (owns x.sp))→Renv V f R (thF num x (rpgs R))→cores (rpgs R)=corL x.sp→(∀k,f.foot R k→w.heap.size≤k∧b'.tag k=0)→ThawD w b K num x (.returned (.tuple #[.pointer (some ⟨f.eb,0,none⟩),.int .i64 0])) V):=Lh fun V b' f R h1 h2 h3 h4 h5=>.inr ⟨h1,b',f,R,rfl,h2,h3,h4,h5⟩
 generalize ThawD w b K num x=PQ at*;clear h hl hx ho hm hlen hb hbx;unfold Fr.arr at hw1⊢;go_enter func26,ntmps26;go_upto_region 1 with(fail);try rw[hw1]
 try rw[hxb]
 clear hw1 hxb;go_wp2_with (refine wpList_load_mid rfl 52 _ rfl xb 0 rfl _ _ HRa.out Tryz.underlying52 rfl HSi.out ?_;rw[Array.toArray_toList]);refine HCk.out.mono ?_;rintro r w2 ⟨hr,hb2⟩;obtain rfl:r=.returned (.bool true):=hr.elim (fun q=>q.2) fun q=>absurd HM.out q.1
 have HB2:=Lh hb2;clear hb2 HCk HRa HSi hr;go_wp2_with fail;have hz3:=heap_alloc_new w2 (.cells #[.slice none 0 0] 190);have hb3:Below w2.heap.size w2 (w2.alloc (.cells #[.slice none 0 0] 190)):=Ba _;have hrs:=rsp_nil hz3;obtain⟨w3,hw3⟩:∃y,w2.alloc (.cells #[.slice none 0 0] 190)=y:=⟨_,rfl⟩;obtain⟨rb,hrb⟩:∃y,w2.heap.size=y:=⟨_,rfl⟩;rw[hw3] at hz3 hb3 hrs⊢;rw[hrb] at hz3 hrs⊢;have c21:w3.cell? ⟨xb,21,none⟩=some (.slice so x.sp.length sc):=(HAll.out w3 (bQ HB2.out hb3)).1.cell 21 _ rfl;have HR0:Hid (tdRel w2 rb x.sp (.slice none 0 0) (.int .i64 0) w3):=Lh (by
  refine⟨0,_,[],Nat.zero_le _,rfl,Sl.Lst.nil _,fun k hk=>by simp[Value.ownBlock] at hk,hrs,fun k hk=> ?_,hb3,⟨fun p hp=>(by cases hp),List.Pairwise.nil⟩,rfl⟩;rcases hk with q|q|⟨_,q,_⟩
  ·omega
  ·simp[Value.ownBlock] at q
  ·cases q)
 clear hz3 hb3 hrs hw3 hrb;try go_wp2
 go_loopw [9,10,11] (fun vo vi _ wr=>tdRel w2 rb x.sp vo vi wr) (fun _ vi _ _=>x.sp.length - (intOf vi).toNat)
 case atStart=>exact HR0.out
 case round=>
  clear HR0 c21;obtain⟨i,lv,R,hi,rfl,hls,hfr,hrp,hft,hbel,hok,hco⟩:=hrel
  by_cases hin:i<x.sp.length
  ·have ii:(i:Int)<x.sp.length:=by omega
   have i0:(0:Int)≤(i:Int):=by omega
   have hbw:=bQ HB2.out hbel;obtain⟨g,off,rfl,p0,p1,p2,p3⟩:=pg_cellsV (HAll.out wr hbw).2.1.s hin;have c21:wr.cell? ⟨xb,21,none⟩=some (.slice (some ⟨g,off,none⟩) x.sp.length sc):=(HAll.out wr hbw).1.cell 21 _ rfl;have hpf:=Fr.fine HO.out HM.out (List.getElem_mem hin);have hob:=HO.out.s _ (List.getElem_mem hin);have hsn:x.sp.take (i+1)=x.sp.take i++[x.sp[i]]:=List.take_succ_eq_append_getElem hin;have hup:∀q,q∈x.sp.take i→q.addr<x.sp[i].addr:=fun q hq=>by
    have h1:(x.sp.take (i+1)).Pairwise fun p q=>p.addr<q.addr:=HM.out.up.sublist (List.take_sublist ..)
    rw[hsn] at h1;exact(List.pairwise_append.1 h1).2.2 q hq _ (List.mem_singleton.2 rfl)
   have hon:ownL (x.sp.take (i+1))=ownL (x.sp.take i)++(if x.sp[i].own=true then [x.sp[i]] else []):=by rw[hsn,ownL_snoc]
   have hol:((ownL (x.sp.take i)).map Fp.addr).length≤65536:=by
    have h1:=owns_le (x.sp.take i);rw[List.length_map,ownL_len];have h2:(x.sp.take i).length≤x.sp.length:=by rw[List.length_take];omega
    have:=HL.out;omega
   have iw:IntKind.i64.wrap ((i:Int)+1)=(i:Int)+1:=by have:=HL.out;rw[IntKind.wrap_i64];omega
   have hst:=fun b=>step_end hok hco hpf b hup
   rw[←hsn] at hst;generalize x.sp[i]=p at*;obtain⟨pa,pp,pw,pt⟩:=p;simp only at p0 p1 p2 p3 hob hst hon;have hps:pt.size=256:=hpf.t;obtain⟨vo',vc',rfl⟩:=SlV.form hls;generalize hown:(ownL (x.sp.take i)).map Fp.addr=OL at*;have hpb:=heap_alloc_new wr (.cells #[.int .u32 pa,.int .u8 pp,.bool pw,.string pt] 151);have hba:Below wr.heap.size wr (wr.alloc (.cells #[.int .u32 pa,.int .u8 pp,.bool pw,.string pt] 151)):=Ba _;have HBel:=Lh (bQ hbel hba);have HRp:=Lh (hrp.same hba);have HLs:=Lh (SlV.keep (w':=wr.alloc (.cells #[.int .u32 pa,.int .u8 pp,.bool pw,.string pt] 151)) hls fun g hg=>hba.block g (hfr g hg).2.1);have HWs:=Lh (show(wr.alloc (.cells #[.int .u32 pa,.int .u8 pp,.bool pw,.string pt] 151)).heap.size=wr.heap.size+1 by simp);have HPb:=Lh hpb;have HQ:=Lh (show¬Rsp.foot rb lv R wr.heap.size from fun q=>absurd (hrp.lt q) (Nat.lt_irrefl _));have HFr:=Lh (And.intro hfr hft);have HSt:=Lh hst;have HOn:=Lh (And.intro hon hown);have HOl:=Lh hol;have HOb:=Lh (And.intro hob hps);have HRl:=Lh fun k (hk:Rsp.foot rb lv R k)=>hrp.lt hk
   clear hpb hba hbel hrp hls hfr hft hok hco hst hon hown hol hob hpf hps hup hsn hbw;go_wp2_with fail;obtain⟨wa,hwa⟩:∃y,wr.alloc (.cells #[.int .u32 pa,.int .u8 pp,.bool pw,.string pt] 151)=y:=⟨_,rfl⟩;obtain⟨qb,hqb⟩:∃y,wr.heap.size=y:=⟨_,rfl⟩;rw[hwa] at HBel HRp HLs HWs HPb⊢;rw[hqb] at HPb HQ HWs HFr HRl⊢;clear hwa hqb p0 p1 p2 p3 c21;refine(Rs.map_any HRp.out pa pp HOb.out.1.1.1 HOb.out.1.1.2 HOb.out.1.2.1 HOb.out.1.2.2).mono ?_;rintro r wb ⟨lv1,R1,blk,rfl,hA1,hs1⟩;have hpb1:=(hs1.mod.block _ (lQ HPb.out) HQ.out).trans HPb.out;have q0:wb.cell? ⟨qb,0,none⟩=some (.int .u32 pa):=by unfold World.cell?;rw[hpb1];rfl
   have q3:wb.cell? ⟨qb,3,none⟩=some (.string pt):=by unfold World.cell?;rw[hpb1];rfl
   have hq1:¬Rsp.foot rb lv1 R1 qb:=fun q=>(hs1.foot _ q).elim HQ.out fun z=>by have:=HWs.out;omega
   have HS1:=Lh hs1;have HA1:=Lh hA1;have HPb1:=Lh hpb1;have HQ1:=Lh hq1;clear hs1 hA1 hpb1 hq1;go_wp2_with fail;refine(Rs.put_in HS1.out.sp pa 0 pt HOb.out.1.1.1 HOb.out.1.1.2 (by have:=HOb.out.2;omega) (by omega) (by omega)).mono ?_;rintro r wc ⟨R2,rfl,hA2,hs2⟩;have hpb2:=(hs2.mod.block _ (lQ HPb1.out) HQ1.out).trans HPb1.out;have q0:wc.cell? ⟨qb,0,none⟩=some (.int .u32 pa):=by unfold World.cell?;rw[hpb2];rfl
   have q2:wc.cell? ⟨qb,2,none⟩=some (.bool pw):=by unfold World.cell?;rw[hpb2];rfl
   have hz1:=HS1.out.mod.size;have hz2:=hs2.mod.size;have hfa:∀k,Rsp.foot rb lv1 R2 k→Rsp.foot rb lv R k∨qb<k:=fun k hk=>by
    have:=HWs.out;rcases hs2.foot k hk with q|q
    ·rcases HS1.out.foot k q with z|z
     ·exact .inl z
     ·exact .inr (by omega)
    ·exact .inr (by omega)
   have hown1:∀k,(Value.slice vo' OL.length vc').ownBlock=some k→w2.heap.size≤k∧k<wc.heap.size∧¬Rsp.foot rb lv1 R2 k:=fun k hk=>by
    obtain⟨f1,f2,f3⟩:=HFr.out.1 k hk;have:=HWs.out;exact⟨f1,by omega,fun q=>(hfa k q).elim f3 fun z=>by omega⟩
   have hfw:∀k,Rsp.foot rb lv1 R2 k→w2.heap.size≤k:=fun k hk=>(hfa k hk).elim (HFr.out.2 k) fun z=>by have h1:=HBel.out.size;have:=HWs.out;omega
   have hls1:=HLs.out.mod HS1.out.mod fun k hk=>(HFr.out.1 k hk).2.2
   have hls2:=hls1.mod hs2.mod fun k hk q=>(HS1.out.foot k q).elim (HFr.out.1 k hk).2.2 fun z=>by have h2:=(HFr.out.1 k hk).2.1;have:=HWs.out;omega
   have hbel2:Below w2.heap.size w2 wc:=Mod.below (Mod.below HBel.out HS1.out.mod HBel.out.size fun k _ hk=>HFr.out.2 k hk) hs2.mod (Nat.le_trans HBel.out.size hz1) fun k _ hk=>(HS1.out.foot k hk).elim (HFr.out.2 k) fun z=>by have:=HBel.out.size;omega
   obtain⟨hok2,hco2⟩:=HSt.out blk;have hR2:rpgs R2=Sp.putA (Sp.mapA (rpgs R) pa blk pp) pa 0 pt:=by rw[hA2,HA1.out]
   rw[←hR2] at hok2 hco2;have HHave:=Lh (And.intro hls2 (And.intro hown1 (And.intro hs2.sp (And.intro hfw (And.intro hbel2 (And.intro hok2 hco2))))));clear hls2 hown1 hs2 hfw hbel2 hok2 hco2 hR2 hA2 hls1 hfa hz1 hz2 hpb2 HS1 HA1 HPb1 HQ1 HSt HFr HRl HWs HBel HRp HLs HPb HQ;cases pw with
   |true=>
    obtain⟨hls,hown,hrp,hfw,hbel,hok,hco⟩:=HHave.out;obtain⟨i0',hi0,hz0,hz1,hz2⟩:=info_parts Pag.infoU32;have HLa:Hid (∀o,SlV (wc.alloc o) 41 1 (.slice vo' OL.length vc') OL.length (OL.map Pag.encU)):=Lh fun o=>SlV.keep hls fun g hg=>Below.heap_alloc _ _ _ (hown g hg).2.1
    have hol:=HOl.out;have hbn:(OL.length+1)*4≤140737488355328:=by omega
    clear hls hown hrp hfw hbel hok hco;go_wp2_with (at_builtin;refine wpList_append_slv _ rfl _ _ 42 rfl 41 i0' (.int .u32 0) 1 4 Tryz.underlying42 hi0 hz0 hz1 hz2 rfl (by decide) _ _ (OL.map Pag.encU) rfl (HLa.out _) ⟨wc.heap.size,0,none⟩ 1 1 [.int .u32 pa] rfl (by omega) rfl (cell_one_new _ _ _) (by simp[Value.oneCell']) (by unfold maxLen;omega) (by omega) ?_;intro v5 w5 h1 h2 h3);obtain⟨hls,hown,hrp,hfw,hbel,hok,hco⟩:=HHave.out;obtain⟨n1,n2,n3⟩:=Rv.app_next (y:=pa) (fun b hb=>⟨(hown b hb).1,(hown b hb).2.1⟩) hbel _ h1 h2 h3;have hrp5:Rsp w5 rb lv1 R2:=(hrp.same (Ba _)).keep h2 fun k hk q=>(hown k q).2.2 hk
    refine⟨⟨i+1,lv1,R2,hin,by go_num, ?_,fun k hk=>⟨(n2 k hk).1,(n2 k hk).2,fun q=> ?_⟩,hrp5,hfw,n3,hok,hco⟩,by simp[intOf];omega⟩
    ·have e:=HOn.out.1;simp only[if_true] at e;rw[e,List.map_append,HOn.out.2];exact n1
    ·rcases h3 with z|⟨k',z,zk⟩
     ·exact(hown k (z▸hk)).2.2 q
     ·rw[hk] at z;cases z;have:=hrp.lt q;simp at zk;omega
   |false=>
    have HN:Hid (tdRel w2 rb x.sp (.slice vo' OL.length vc') (.int .i64 ((i:Int)+1)) wc):=Lh (by
     obtain⟨hls,hown,hrp,hfw,hbel,hok,hco⟩:=HHave.out;refine⟨i+1,lv1,R2,hin,by go_num, ?_,hown,hrp,hfw,hbel,hok,hco⟩;have e:=HOn.out.1;simp only[Bool.false_eq_true,if_false,List.append_nil] at e;rw[e,HOn.out.2];exact hls)
    clear HHave;go_wp2;exact⟨HN.out,by simp[intOf];omega⟩
  ·obtain rfl:i=x.sp.length:=by omega
   rw[List.take_length] at hls hco;have hpn:(x.sp.length:Int) - ((ownL x.sp).length:Int)=pgN x∧(ownL x.sp).length≤x.sp.length:=⟨by rw[ownL_len];rfl,by rw[ownL_len];exact owns_le _⟩;have ii:¬(x.sp.length:Int)<x.sp.length:=by omega
   have hbw:=bQ HB2.out hbel;have c21:wr.cell? ⟨xb,21,none⟩=some (.slice so x.sp.length sc):=(HAll.out wr hbw).1.cell 21 _ rfl;obtain⟨oo,oc,rfl⟩:=SlV.form hls;obtain⟨OL,hOL⟩:∃y,(ownL x.sp).map Fp.addr=y:=⟨_,rfl⟩;have hlen:OL.length=(ownL x.sp).length:=by rw[←hOL,List.length_map]
   rw[hOL] at hls hfr⊢;rw[←hlen] at hpn;generalize hm':OL.length=m at*;have HOL:=Lh (And.intro hOL hm');have HOw:=Lh (And.intro hrp hft);have HCo:=Lh hco;have HBw:=Lh hbw;have HSl:=Lh hls;have HFr:=Lh hfr;have HPn:=Lh hpn;have HLn:=Lh hlen;clear hrp hft hco hbw hls hfr hpn hm' hbel hok hOL hlen;go_wp2_with fail;have iws:IntKind.i64.wrap ((x.sp.length:Int) - (m:Int))=pgN x:=by rw[←HPn.out.1];have:=HL.out;have:=HPn.out.2;rw[IntKind.wrap_i64];omega
   have iwu:IntKind.u32.wrap (pgN x)=pgN x:=by have h1:=HPn.out.1;have:=HL.out;have:=HPn.out.2;rw[IntKind.wrap_u32];omega
   obtain⟨kb,hkb⟩:∃y,b.kb=y:=⟨_,rfl⟩;obtain⟨rk,hrk⟩:∃y,b.c.rb=y:=⟨_,rfl⟩;rw[hkb];have HS:Hid (∀V,Below w1.heap.size w1 V→V.cell? ⟨xb,0,none⟩=some (.int .u32 x.m.pages)∧V.cell? ⟨xb,1,none⟩=some (.slice eo x.m.ext.length ec)∧V.cell? ⟨xb,2,none⟩=some (.slice po x.m.ports.length pc)∧V.cell? ⟨xb,3,none⟩=some (.bool x.m.con)∧V.cell? ⟨xb,21,none⟩=some (.slice so x.sp.length sc)∧V.cell? ⟨kb,0,none⟩=some (.pointer (some ⟨rk,0,none⟩))∧True):=Lh fun V hV=>by
    obtain⟨q,_,qk⟩:=HAll.out V hV;exact⟨q.cell 0 _ rfl,q.cell 1 _ rfl,q.cell 2 _ rfl,q.cell 3 _ rfl,q.cell 21 _ rfl,by rw[←hkb,←hrk];exact qk.cells.1,trivial⟩
   have HKr:=Lh (And.intro hkb hrk);clear hkb c21;refine B (fun V=>V.cell? ⟨xb,0,none⟩=some (.int .u32 x.m.pages)∧V.cell? ⟨xb,1,none⟩=some (.slice eo x.m.ext.length ec)∧V.cell? ⟨xb,2,none⟩=some (.slice po x.m.ports.length pc)∧V.cell? ⟨xb,3,none⟩=some (.bool x.m.con)∧V.cell? ⟨xb,21,none⟩=some (.slice so x.sp.length sc)∧V.cell? ⟨kb,0,none⟩=some (.pointer (some ⟨rk,0,none⟩))∧True) (HS.out _ HBw.out.drew) fun wd hwd hS=> ?_
   have HOd:=Lh (show Rsp wd rb lv R from by rw[hwd];exact HOw.out.1.same Br.drew);have HBd:=Lh (show Below w1.heap.size w1 wd by rw[hwd];exact HBw.out.drew);have HWd:=Lh (show wd.heap.size=wr.heap.size by rw[hwd];rfl);have HSd:=Lh (show Sl.Lst wd (.slice oo m oc) OL by rw[hwd];exact SlV.keep HSl.out fun g _=>rfl);clear hwd HBw HSl;have hall:=HAll.out wd HBd.out;have hgr:=Rk.grant hall.2.2 HKb.out (n:=num) (pg:=pgN x) (by have h1:=HPn.out.1;have:=HPn.out.2;omega) hall.2.1.m HO.out.m;rw[hrk] at hgr;have HGr:=Lh hgr;clear hall hgr hrk;refine T 0 hS ?_;refine T 1 hS ?_;refine T 2 hS ?_;refine T 3 hS ?_;refine T 4 hS ?_;refine T 5 hS ?_;refine T 6 hS ?_;refine T 7 hS ?_;refine T 8 hS ?_;refine T 9 hS ?_;refine T 10 hS ?_;refine T 11 hS ?_;refine T 12 hS ?_;refine T 13 hS ?_;refine U 14 fun K' hK=> ?_
   go_simp;go_at_call 99;refine HGr.out.mono ?_;rintro r w6 (⟨hg,rfl,hb6⟩|⟨hg,rfl,b6,hs6⟩)
   ·have HE:=Lh (HF1.out w6 hg (bQ HBd.out hb6));have hS6:=HS.out w6 (bQ HBd.out hb6);have hgb:(Ca.grantE K.hp K.hx K.g num x.m (pgN x) != 0)=true:=bne_iff_ne.2 hg;clear hb6 hg HF1 HF2 HGr;generalize Ca.grantE K.hp K.hx K.g num x.m (pgN x)=gE at*;refine V hK hS6 ?_;clear hK K';refine T 15 hS6 ?_;refine wpAnyH_done (by kernel_rfl) ?_ _;clear hS hS6;go_wp2
    first|exact HE.out|(go_ret2;exact HE.out)
   ·have hw0:w.heap.size≤w2.heap.size:=Nat.le_trans HB.out.size HB2.out.size;have hxl:xb<w1.heap.size:=lQ (HAll.out w1 Br).1;have hT:∀k,w.heap.size≤k→¬b.wf k:=fun k hk g=>g.1 (HTg.out k hk)
    have hgl:∀k,(Value.slice oo m oc).ownBlock=some k→k<wd.heap.size:=fun k hk=>by have:=(HFr.out k hk).2.1;have:=HWd.out;omega
    have hq6:FBox w6 xb x (.slice eo x.m.ext.length ec) (.slice po x.m.ports.length pc) (.slice so x.sp.length sc):=(HAll.out wd HBd.out).1.keep hs6.mod (hT xb (Nat.le_of_eq HXb.out));have hrp6:Rsp w6 rb lv R:=HOd.out.keep hs6.mod fun k hk=>hT k (Nat.le_trans hw0 (HOw.out.2 k hk))
    have hls6:Sl.Lst w6 (.slice oo m oc) OL:=HSd.out.keep hs6.mod hgl fun g hg=>hT g (Nat.le_trans hw0 (HFr.out g hg).1)
    have hnum:=grant_num hg;have HKs:=Lh ((RkStep.of_below HKn.out (bQ HB.out HBd.out)).trans hs6);have hkk:b6.kb=kb∧b6.c.rb=rk:=⟨hs6.same.1.trans HKr.out.1,hs6.same.2.1.trans HKr.out.2⟩;have HKk:=Lh hkk;have HT6:Hid (∀k,w.heap.size≤k→k<wd.heap.size→¬b6.wf k):=Lh fun k h1 h2 g=>g.1 ((hs6.tag k h2).trans (HTg.out k h1))
    have HT0:Hid (∀k,w.heap.size≤k→k<wd.heap.size→b6.tag k=0):=Lh fun k h1 h2=>(hs6.tag k h2).trans (HTg.out k h1)
    have HBs6:=Lh (show w.heap.size≤w2.heap.size∧w.heap.size≤xb∧xb<wd.heap.size∧(∀k,Rsp.foot rb lv R k→w2.heap.size≤k∧k<wd.heap.size)∧(∀k,(Value.slice oo m oc).ownBlock=some k→w2.heap.size≤k∧k<wd.heap.size)∧wd.heap.size≤w6.heap.size from⟨hw0,Nat.le_of_eq HXb.out,Nat.lt_of_lt_of_le hxl HBd.out.size,fun k hk=>⟨HOw.out.2 k hk,HOd.out.lt hk⟩,fun k hk=>⟨(HFr.out k hk).1,hgl k hk⟩,hs6.mod.size⟩);have HQ6:=Lh (And.intro hq6 (And.intro hrp6 hls6));have HNu:=Lh hnum;have HK6:=Lh (RkStep.refl hs6.k);have HF3:=Lh fun V b' f R=>HF2.out V b' f R hg
    have hS6:w6.cell? ⟨xb,0,none⟩=some (.int .u32 x.m.pages)∧w6.cell? ⟨xb,1,none⟩=some (.slice eo x.m.ext.length ec)∧w6.cell? ⟨xb,2,none⟩=some (.slice po x.m.ports.length pc)∧w6.cell? ⟨xb,3,none⟩=some (.bool x.m.con)∧w6.cell? ⟨xb,21,none⟩=some (.slice so x.sp.length sc)∧w6.cell? ⟨kb,0,none⟩=some (.pointer (some ⟨rk,0,none⟩))∧True:=⟨hq6.cell 0 _ rfl,hq6.cell 1 _ rfl,hq6.cell 2 _ rfl,hq6.cell 3 _ rfl,hq6.cell 21 _ rfl,by rw[←hkk.1,←hkk.2];exact hs6.k.cells.1,trivial⟩;clear hw0 hxl hT hgl hq6 hrp6 hls6 hnum hkk hg hs6 HF1 HF2 HGr HS HOd HBd HB HB2 HKn HAll iws iwu hS HSd HFr HWd HOw;refine V hK hS6 ?_;clear hK K';refine T 15 hS6 ?_;refine wpAnyH_done (by kernel_rfl) ?_ _;clear hS6;go_wp2;generalize hK6:({K with g:=Gp.upd K.g num (some ⟨x.m,pgN x,0⟩)}:Kn)=K6 at*;go_loopw [13] (fun vi wr=>tkD w6 b6 K6 num m vi wr) (fun vi _=>m - (intOf vi).toNat)
    case atStart=>exact⟨0,b6,Nat.zero_le _,rfl,by rw[Ktk_zero];exact HK6.out⟩
    case round=>
     obtain⟨i,bc,hi,rfl,hst⟩:=hrel;have e1:bc.kb=kb:=hst.same.1.trans HKk.out.1;have e2:bc.c.rb=rk:=hst.same.2.1.trans HKk.out.2
     by_cases hin:i<m
     ·have ii:(i:Int)<m:=by omega
      have hml:(m:Int)≤65536:=by have h1:=HPn.out.2;have h2:=HL.out;omega
      have iw:IntKind.i64.wrap ((i:Int)+1)=(i:Int)+1:=by rw[IntKind.wrap_i64];omega
      have ck:wr.cell? ⟨kb,0,none⟩=some (.pointer (some ⟨rk,0,none⟩)):=by rw[←e1,←e2];exact hst.k.cells.1
      have htk:=takeK hst.k num;rw[e2] at htk;have HTk:=Lh htk;have HSt:=Lh hst;clear hst htk hml e1 e2;go_wp2_with fail;refine HTk.out.mono ?_;rintro r v1 ⟨rfl,b',hs'⟩;have Fin:Hid (tkD w6 b6 K6 num m (.int .i64 ((i:Int)+1)) v1):=Lh ⟨i+1,b',hin,by go_num,by rw[←Ktk_succ];exact HSt.out.trans hs'⟩;clear hs' HTk HSt ck;go_wp2;exact⟨Fin.out,by simp[intOf];omega⟩
     ·obtain rfl:m=i:=by omega
      have ii:¬(m:Int)<m:=by omega
      obtain⟨b1,b2,b3,b4,b5,b6'⟩:=HBs6.out;have hqR:=HQ6.out.1.keep hst.mod (HT6.out xb b2 b3);have hrpR:=HQ6.out.2.1.keep hst.mod fun k hk=>HT6.out k (Nat.le_trans b1 (b4 k hk).1) (b4 k hk).2
      have hlsR:=HQ6.out.2.2.keep hst.mod (fun g hg=>Nat.lt_of_lt_of_le (b5 g hg).2 b6') fun k hk=>HT6.out k (Nat.le_trans b1 (b5 k hk).1) (b5 k hk).2
      have c20:wr.cell? ⟨xb,20,none⟩=some (.int .u32 x.pc):=hqR.cell 20 _ rfl;have hsz:=hst.mod.size;have HLt:Hid (∀g,(Value.slice oo m oc).ownBlock=some g→g<wr.heap.size):=Lh fun g hg=>by have:=(b5 g hg).2;omega
      have HWz:Hid (w.heap.size≤wr.heap.size):=Lh (by omega);have HOg:Hid (∀g,(Value.slice oo m oc).ownBlock=some g→w.heap.size≤g∧bc.tag g=0):=Lh fun g hg=>⟨by have:=(b5 g hg).1;omega,(hst.tag g (Nat.lt_of_lt_of_le (b5 g hg).2 b6')).trans (HT0.out g (by have:=(b5 g hg).1;omega) (b5 g hg).2)⟩
      have HNw:=Lh (Rv.new hrpR num x.pc HNu.out.1 HNu.out.2 HO.out.c.1 HO.out.c.2);have HQR:=Lh (And.intro hqR hlsR);have HStR:=Lh hst;clear b1 b2 b3 b4 b5 b6' hqR hrpR hlsR hst hsz e1 e2;go_wp2_with fail;refine HNw.out.mono ?_;rintro r w7 ⟨f,C,rfl,hen,hcc,hef,hb7⟩;have hq7:FBox w7 xb x (.slice eo x.m.ext.length ec) (.slice po x.m.ports.length pc) (.slice so x.sp.length sc):=HQR.out.1.keep (Mod.of_below hb7 fun _=>False) id;have hls7:=HQR.out.2.below hb7;have hfin:=ren_fin HO.out HM.out hen (hcc.trans HCo.out) (v:=.slice oo m oc) (by rw[HOL.out.1];exact hls7) fun g hg=>⟨Nat.lt_of_lt_of_le (HLt.out g hg) hb7.size,fun q=>by have h1:=hef g q;have h2:=HLt.out g hg;omega⟩
      have hcl:=Rv.cells hen;have HRg:=Lh (regA_range hq7);have HSg:Hid ((Tryz.prog.info? 49).map (·.size)=some (regA x).toList.length):=Lh (by kernel_rfl);have HTh:Hid (w7.there f.cb 0 (regA x).size):=Lh fun j hj=>by
       have hj:j<16:=hj;have hb:=hen.cp.blk;have hl:(Cp.cells (En.new num x.pc (rpgs C)).r (En.new num x.pc (rpgs C)).pc).size=17:=by kernel_rfl
       refine⟨?_, ?_⟩
       ·unfold World.cell?;rw[hb]
        show((Cp.cells (En.new num x.pc (rpgs C)).r (En.new num x.pc (rpgs C)).pc)[0+j]?).isSome=true
        rw[Array.getElem?_eq_getElem (by omega)];rfl
       ·unfold World.frozen?;rw[hb]
        simp
      have c2:w7.cell? ⟨f.eb,2,none⟩=some (.pointer (some ⟨f.cb,0,none⟩)):=hcl.2.2.1;have hset:=setCells_block (regA x).toList 0 w7 _ hen.cp.blk;have hq8:=hq7.keep hset.2 fun e=>by have h1:=hef f.cb (.inr (.inl rfl));have h2:=lQ HQR.out.1;omega
      have he8:=(hset.2.block _ (lQ hen.blk) hen.ec).trans hen.blk;have hmo:m=owns x.sp:=HLn.out;have hks:RkStep w wr b K bc (Ktk K6 num (owns x.sp)):=by rw[←hmo];exact HKs.out.trans HStR.out
      have hend:∀V,Below wr.heap.size wr V→Renv V {f with ow:=.slice oo m oc} C (thF num x (rpgs C))→PQ (.returned (.tuple #[.pointer (some ⟨f.eb,0,none⟩),.int .i64 0])) V:=fun V hm hV=>HF3.out V bc {f with ow:=.slice oo m oc} C (hks.trans (RkStep.of_below hks.k hm)) hV (hcc.trans HCo.out) fun k hk=>by
       have hnew:∀k,wr.heap.size≤k→w.heap.size≤k∧bc.tag k=0:=fun k h1=>⟨Nat.le_trans HWz.out h1,Decidable.byContradiction fun z=>by have:=hks.k.lt k z;omega⟩
       rcases hk with q|q|q|q
       ·exact hnew k (hef k (.inl q))
       ·exact hnew k (hef k (.inr (.inl q)))
       ·exact hnew k (hef k (.inr (.inr (.inl q))))
       ·exact HOg.out k q
      have HEnd:=Lh (hend _ (Mod.below hb7 hfin.2 hb7.size fun i _ q=>hef i q) hfin.1);have d6:∃v,(w7.setCells f.cb 0 (regA x).toList).cell? ⟨f.eb,6,none⟩=some v:=⟨_,by unfold World.cell?;rw[he8];rfl⟩;have d7:∃v,(w7.setCells f.cb 0 (regA x).toList).cell? ⟨f.eb,7,none⟩=some v:=⟨_,by unfold World.cell?;rw[he8];rfl⟩;have g6:∀j,(w7.setCells f.cb 0 (regA x).toList).frozen? ⟨f.eb,j,none⟩=false:=fun j=>by unfold World.frozen?;rw[he8];simp
      have d22:(w7.setCells f.cb 0 (regA x).toList).cell? ⟨xb,22,none⟩=some (.string x.text):=hq8.cell 22 _ rfl;have HD:=Lh (And.intro d6 (And.intro d7 (And.intro g6 d22)));have hne:f.eb≠xb:=fun e=>by have h1:=hef f.eb (.inl rfl);have h2:=lQ HQR.out.1;omega
      clear d6 d7 g6 d22 hend hks hset hq8 he8 hfin hcl hls7 hq7 hen hcc hef hb7 hmo HNw HQR c20;go_upto_region 22 with(fail)
      iterate 7 go_step
      refine wpList_load_mid rfl 49 (.tmp 96) rfl xb 4 rfl _ _ HRg.out Tryz.underlying49 rfl HSg.out ?_;rw[Array.toArray_toList]
      iterate 6 go_step
      refine wpList_store_mid rfl 49 (.tmp 99) (.tmp 97) rfl f.cb 0 (regA x) rfl rfl HTh.out (by kernel_rfl) (by kernel_rfl) ?_;refine(fun(F:∀V,((∃v,V.cell? ⟨f.eb,6,none⟩=some v)∧(∃v,V.cell? ⟨f.eb,7,none⟩=some v)∧(∀j,V.frozen? ⟨f.eb,j,none⟩=false)∧V.cell? ⟨xb,22,none⟩=some (.string x.text))→PQ (.returned (.tuple #[.pointer (some ⟨f.eb,0,none⟩),.int .i64 0])) ((V.setCell ⟨f.eb,6,none⟩ (.slice oo m oc)).setCell ⟨f.eb,7,none⟩ (.string x.text))→wpList _ _ _ _ _ V)=>F _ HD.out HEnd.out) ?_;rintro V ⟨⟨v6,d6⟩,⟨v7,d7⟩,g6,d22⟩ hend;have HE:=Lh hend;have g66:=g6 6;have g67:=g6 7;clear hend g6 c2 HD HEnd;go_wp2
      first|exact HE.out|(go_ret2;exact HE.out)
end Go.Proofs.YtehihecknhcggaaGreat.Fz
namespace Go.Proofs.YtehihecknhcggaaGreat.Fz
open Go.RowKit In Word
theorem thawB{w:World}(p:Addr){x:Fr}{ev pv sv:Value}(hx:FrIn w x ev pv sv)(ho:x.ok)(hm:¬x.may)(hlen:x.sp.length≤65536)(num:Int):
  Calls Tryz.prog 24 #[.pointer (some p),.int .i64 num,.agg (x.arr ev pv sv)] w fun r w'=>r=.returned (.tuple #[.pointer none,.int .i64 2])∧Below w.heap.size w w':=by
 have hb:Below w.heap.size w (w.alloc (.cells (x.arr ev pv sv) 52)):=Ba _;have hbx:FBox (w.alloc (.cells (x.arr ev pv sv) 52)) w.heap.size x ev pv sv:=heap_alloc_new w _;obtain⟨w1,hw1⟩:∃y,w.alloc (.cells (x.arr ev pv sv) 52)=y:=⟨_,rfl⟩;obtain⟨xb,hxb⟩:∃y,w.heap.size=y:=⟨_,rfl⟩;rw[hw1] at hb hbx;rw[hxb] at hbx;have HB:=Lh hb;have HCk:=Lh (checkA (hx.below hb) ho (by omega));have HRa:=Lh hbx.range;have HSi:=Lh (fz_sizeL x ev pv sv);have HM:=Lh hm;generalize hPQ:(fun(r:Ending) (w':World)=>r=.returned (.tuple #[.pointer none,.int .i64 2])∧Below w.heap.size w w')=PQ;have HPQ:Hid (∀V,Below w1.heap.size w1 V→PQ (.returned (.tuple #[.pointer none,.int .i64 2])) V):=Lh fun V h=>by rw[←hPQ];exact⟨rfl,bQ hb h⟩
 clear hPQ hx ho hm hlen hb hbx;unfold Fr.arr at hw1⊢;go_enter func24,ntmps24;go_upto_region 3 with(fail);try rw[hw1]
 try rw[hxb]
 clear hw1 hxb;go_wp2_with (refine wpList_load_mid rfl 52 _ rfl xb 0 rfl _ _ HRa.out Tryz.underlying52 rfl HSi.out ?_;rw[Array.toArray_toList]);refine HCk.out.mono ?_;rintro r w2 ⟨hr,hb2⟩;obtain rfl:r=.returned (.int .i64 2):=hr.elim (fun q=>absurd q.1 HM.out) fun q=>q.2
 have HE:=Lh (HPQ.out w2 hb2);clear hb2 HCk HRa HSi hr HPQ;go_wp2
 first|exact HE.out|(go_ret2;exact HE.out)
theorem thawDB{w:World}(p:Addr){x:Fr}{ev pv sv:Value}(hx:FrV w x ev pv sv)(ho:x.ok)(hm:¬x.may)(hlen:x.sp.length≤65536)(num:Int):
  Calls Tryz.prog 26 #[.pointer (some p),.int .i64 num,.agg (x.arr ev pv sv)] w fun r w'=>r=.returned (.tuple #[.pointer none,.int .i64 2])∧Below w.heap.size w w':=by
 have hb:Below w.heap.size w (w.alloc (.cells (x.arr ev pv sv) 52)):=Ba _;have hbx:FBox (w.alloc (.cells (x.arr ev pv sv) 52)) w.heap.size x ev pv sv:=heap_alloc_new w _;obtain⟨w1,hw1⟩:∃y,w.alloc (.cells (x.arr ev pv sv) 52)=y:=⟨_,rfl⟩;obtain⟨xb,hxb⟩:∃y,w.heap.size=y:=⟨_,rfl⟩;rw[hw1] at hb hbx;rw[hxb] at hbx;have HB:=Lh hb;have HCk:=Lh (mayD (hx.below hb) ho (by omega));have HRa:=Lh hbx.range;have HSi:=Lh (fz_sizeL x ev pv sv);have HM:=Lh hm;generalize hPQ:(fun(r:Ending) (w':World)=>r=.returned (.tuple #[.pointer none,.int .i64 2])∧Below w.heap.size w w')=PQ;have HPQ:Hid (∀V,Below w1.heap.size w1 V→PQ (.returned (.tuple #[.pointer none,.int .i64 2])) V):=Lh fun V h=>by rw[←hPQ];exact⟨rfl,bQ hb h⟩
 clear hPQ hx ho hm hlen hb hbx;unfold Fr.arr at hw1⊢;go_enter func26,ntmps26;go_upto_region 1 with(fail);try rw[hw1]
 try rw[hxb]
 clear hw1 hxb;go_wp2_with (refine wpList_load_mid rfl 52 _ rfl xb 0 rfl _ _ HRa.out Tryz.underlying52 rfl HSi.out ?_;rw[Array.toArray_toList]);refine HCk.out.mono ?_;rintro r w2 ⟨hr,hb2⟩;obtain rfl:r=.returned (.bool false):=hr.elim (fun q=>absurd q.1 HM.out) fun q=>q.2
 have HE:=Lh (HPQ.out w2 hb2);clear hb2 HCk HRa HSi hr HPQ;go_wp2
 first|exact HE.out|(go_ret2;exact HE.out)
def thErr(m:Bool)(K:Kn)(num:Int)(x:Fr):Int:=if m=true then Ca.grantE K.hp K.hx K.g num x.m (pgN x) else 2
def thKn(K:Kn)(num:Int)(x:Fr):Kn:=Ktk {K with g:=Gp.upd K.g num (some ⟨x.m,pgN x,0⟩)} num (owns x.sp)
def ThA(w:World)(a:KAt)(m:Bool)(K:Kn)(num:Int)(x:Fr)(r:Ending)(w':World):Prop:=
 (thErr m K num x≠0∧r=.returned (.tuple #[.pointer none,.int .i64 (thErr m K num x)])∧Below w.heap.size w w')∨
 (thErr m K num x=0∧∃a' e A,r=.returned (.tuple #[.pointer (some ⟨e.eb,0,none⟩),.int .i64 0])∧KStep w w' a K a' (thKn K num x)∧Env w' e (thF num x A)∧cores A=corL x.sp∧∀k,e.foot A k→w.heap.size≤k∧a'.tag k=0)
def ThD(w:World)(b:RkAt)(m:Bool)(K:Kn)(num:Int)(x:Fr)(r:Ending)(w':World):Prop:=
 (thErr m K num x≠0∧r=.returned (.tuple #[.pointer none,.int .i64 (thErr m K num x)])∧Below w.heap.size w w')∨
 (thErr m K num x=0∧∃b' f R,r=.returned (.tuple #[.pointer (some ⟨f.eb,0,none⟩),.int .i64 0])∧RkStep w w' b K b' (thKn K num x)∧Renv w' f R (thF num x (rpgs R))∧cores (rpgs R)=corL x.sp∧∀k,f.foot R k→w.heap.size≤k∧b'.tag k=0)
theorem thawP{w:World}{a:KAt}{K:Kn}(h:Knl w a K)(hp1:K.hp≤4096)(hl:K.hx.length≤16){x:Fr}{ev pv sv:Value}(hx:FrIn w x ev pv sv)(ho:x.ok){m:Bool}(hm:m=true↔x.may)(hlen:x.sp.length≤65536)(num:Int):
  Calls Tryz.prog 24 #[.pointer (some ⟨a.kb,0,none⟩),.int .i64 num,.agg (x.arr ev pv sv)] w (ThA w a m K num x):=by
 cases m with
 |true=>exact(thawG h hp1 hl hx ho (hm.1 rfl) hlen num).mono fun r w' q=>q
 |false=>exact(thawB _ hx ho (fun z=>nomatch hm.2 z) hlen num).mono fun r w' q=>.inl ⟨by unfold thErr;simp,q.1,q.2⟩
theorem thawR{w:World}{b:RkAt}{K:Kn}(h:Rkl w b K)(hl:K.hx.length≤16){x:Fr}{ev pv sv:Value}(hx:FrV w x ev pv sv)(ho:x.ok){m:Bool}(hm:m=true↔x.may)(hlen:x.sp.length≤65536)(num:Int):
  Calls Tryz.prog 26 #[.pointer (some ⟨b.kb,0,none⟩),.int .i64 num,.agg (x.arr ev pv sv)] w (ThD w b m K num x):=by
 cases m with
 |true=>exact(thawD h hl hx ho (hm.1 rfl) hlen num).mono fun r w' q=>q
 |false=>exact(thawDB _ hx ho (fun z=>nomatch hm.2 z) hlen num).mono fun r w' q=>.inl ⟨by unfold thErr;simp,q.1,q.2⟩
end Go.Proofs.YtehihecknhcggaaGreat.Fz
namespace Go.Proofs.YtehihecknhcggaaGreat
open Go.RowKit
namespace L22
open In
theorem pair{w1 w2 w3 w4:World}{a:KAt}{b:RkAt}{K:Kn}{la:Option Addr}{cap:Nat}{xs:List Int}(hwd:Rs.Words w1 la xs)(hk:Knl w2 a K)(ha:∀k,a.tag k≠0→w1.heap.size≤k)(b12:Below w1.heap.size w1 w2)(b23:Below w2.heap.size w2 w3)
  (hb:Rkl w4 b K) (ht:∀k,b.tag k≠0→w3.heap.size≤k∨b.tag k=5∧xs.length≠0∧(Value.slice la xs.length cap).ownBlock=some k) (b34:Below w3.heap.size w3 w4):KPair w1 w4 a K b K:=by
 have z1:=b12.size;have z2:=b23.size;refine⟨hk.below (bQ b23 b34),hb,fun k hk'=> ?_,bQ (bQ b12 b23) b34,ha,fun k hk'=> ?_⟩
 ·refine Decidable.byContradiction fun z=> ?_
  have h1:=ha k hk';have h2:=hk.lt k hk';rcases ht k z with g|⟨_,g1,g2⟩
  ·omega
  ·obtain⟨g,o,e,hc⟩:=hwd.cell 0 (by omega);subst e;have g2:some g=some k:=g2;cases g2;have:=cell_lt hc;omega
 ·rcases ht k hk'.1 with g|g
  ·omega
  ·exact absurd g.1 hk'.2
end L22
end Go.Proofs.YtehihecknhcggaaGreat
namespace Go.Proofs.YtehihecknhcggaaGreat.Fz
open Go.RowKit Word L22 In
def asked8(d:WdI):Kn:=if Ca.grantE d.h.p d.h.l (fun _=>none) 1 d.m.m 8=0 then {Kn.new d.h.p d.h.l with g:=Gp.upd (fun _=>none) 1 (some ⟨d.m.m,8,0⟩)} else Kn.new d.h.p d.h.l
def Made42(w:World)(d:WdI)(r:Ending)(w':World):Prop:=
 (Ca.hardOk d.h.p d.h.l=false∧r=.returned (.tuple #[.pointer none,.pointer none,.pointer none,.pointer none])∧Below w.heap.size w w')∨
 (Ca.hardOk d.h.p d.h.l=true∧∃a e E b f,r=.returned (.tuple #[.pointer (some ⟨a.kb,0,none⟩),.pointer (some b),.pointer (some ⟨e.eb,0,none⟩),.pointer (some f)])∧KEn w w' a (asked8 d) e E∧En.Like E (d.x.env 1))
def m42(w9:World)(e:EAt)(E:En)(r:Nat→Int)(vi:Value)(wr:World):Prop:=∃i:Nat,1≤i∧i≤16∧vi=.int .i64 i∧EStep w9 wr e E e {E with r:=Cp.regsK r i}
theorem made(w:World)(d:WdI)(hd:d.pre w)(hx:∀V,Below w.heap.size w V→d.x.ok V)(hme:d.m.m.ext.length≤40)(hmp:d.m.m.ports.length≤40):Calls Tryz.prog 71 #[.agg d.cells] w (Made42 w d):=by
 have hb:Below w.heap.size w (w.alloc (.cells d.cells 156)):=Ba _;have hbx:WBox (w.alloc (.cells d.cells 156)) w.heap.size d:=⟨heap_alloc_new w _⟩;have hpc:=hx w Br;have HPc:=Lh (And.intro hpc.p0 hpc.p1);have HBx:=Lh hbx;have HB:=Lh hb;have HWd:=Lh (Ca.words_below hd.h.w hb);have HBd:=Lh hd.h.bd;have HP0:=Lh hd.h.p0;have HM:=Lh (hd.m.below hb);have HMl:=Lh (And.intro hme hmp);obtain⟨w1,hw1⟩:∃w1,w.alloc (.cells d.cells 156)=w1:=⟨_,rfl⟩;obtain⟨bx,hbxe⟩:∃bx,w.heap.size=bx:=⟨_,rfl⟩;rw[hw1] at HBx HB HWd HM;rw[hbxe] at HBx;have HOk:=Lh fun V (hV:Below w1.heap.size w1 V)=>hx V (bQ HB.out hV)
 have HFin1:Hid (∀V a e E b f,Ca.hardOk d.h.p d.h.l=true→KEn w1 V a (asked8 d) e E→En.Like E (d.x.env 1)→Made42 w d (.returned (.tuple #[.pointer (some ⟨a.kb,0,none⟩),.pointer (some b),.pointer (some ⟨e.eb,0,none⟩),.pointer (some f)])) V):=Lh fun V a e E b f h0 h1 h2=>.inr ⟨h0,a,e,E,b,f,rfl,⟨h1.kn,h1.en,h1.apart,bQ HB.out h1.bel,fun x hx=>Nat.le_trans HB.out.size (h1.k0 x hx),fun x hx=>Nat.le_trans HB.out.size (h1.e0 x hx),h1.num⟩,h2⟩
 have HFin2:Hid (∀V,Ca.hardOk d.h.p d.h.l=false→Below w1.heap.size w1 V→Made42 w d (.returned (.tuple #[.pointer none,.pointer none,.pointer none,.pointer none])) V):=Lh fun V h1 h2=>.inl ⟨h1,rfl,bQ HB.out h2⟩
 generalize Made42 w d=PQ at*;clear hb hbx hd hx hme hmp hpc;have HC:Hid (∀W,Below w1.heap.size w1 W→W.cell? ⟨bx,0,none⟩=some (.int .u32 d.h.p)∧W.cell? ⟨bx,1,none⟩=some (.slice d.h.a d.h.l.length d.h.cap)∧W.cell? ⟨bx,2,none⟩=some (.int .u32 d.m.m.pages)∧W.cell? ⟨bx,3,none⟩=some (.slice d.m.ea d.m.m.ext.length d.m.ecap)∧W.cell? ⟨bx,4,none⟩=some (.slice d.m.pa d.m.m.ports.length d.m.pcap)∧W.cell? ⟨bx,5,none⟩=some (.bool d.m.m.con)):=Lh fun W hW=>by
  have h:=HBx.out.below hW;exact⟨h.cell 0 _ rfl,h.cell 1 _ rfl,h.cell 2 _ rfl,h.cell 3 _ rfl,h.cell 4 _ rfl,h.cell 5 _ rfl⟩
 have HX:Hid (∀W,Below w1.heap.size w1 W→W.cell? ⟨bx,6,none⟩=some (.slice d.x.ra d.x.rn d.x.rcap)∧W.cell? ⟨bx,7,none⟩=some (.int .u32 d.x.pc)∧W.cell? ⟨bx,8,none⟩=some (.slice d.x.pa d.x.pn d.x.pcap)∧W.cell? ⟨bx,9,none⟩=some (.int .u16 d.x.at')∧W.cell? ⟨bx,10,none⟩=some (.slice d.x.ca d.x.cn d.x.ccap)∧W.cell? ⟨bx,11,none⟩=some (.int .u16 d.x.wh)∧W.cell? ⟨bx,12,none⟩=some (.string d.x.text)):=Lh fun W hW=>by
  have h:=HBx.out.below hW;exact⟨h.cell 6 _ rfl,h.cell 7 _ rfl,h.cell 8 _ rfl,h.cell 9 _ rfl,h.cell 10 _ rfl,h.cell 11 _ rfl,h.cell 12 _ rfl⟩
 unfold WdI.cells HdI.v MnI.ev MnI.pv at hw1⊢;obtain⟨ba,hba⟩:∃x,d.ba=x:=⟨_,rfl⟩;rw[hba] at hw1⊢;clear hba;obtain⟨c0,c1,c2,c3,c4,c5⟩:=HC.out w1 Br;go_enter func71,ntmps71;cases hok:Ca.hardOk d.h.p d.h.l with
 |false=>
  go_wp2_with fail;try rw[hw1]
  try rw[hbxe]
  clear hw1 hbxe;refine(Kl.new_bad HWd.out HBd.out HP0.out hok).mono ?_;rintro e w2 ⟨rfl,hb2⟩;obtain⟨x6,x7,x8,x9,x10,x11,x12⟩:=HX.out w2 hb2;have HB2:=Lh hb2;have HMd:=Lh (Cp.made w2 d.x (HOk.out w2 hb2));clear hb2 c0 c1 c2 c3 c4 c5;unfold Cp.St.cells at HMd;go_wp2_with fail;refine HMd.out.mono ?_;rintro e w3 ⟨cb,sb,mb,A,db,rb,lv,R,rfl,hdu,he,hpg⟩;have HE:=Lh (HFin2.out w3 hok (bQ HB2.out hdu.bel));clear hdu he hpg x6 x7 x8 x9 x10 x11 x12 HFin1 HFin2 HMd;go_wp2;refine bodyPost_ret (v:=.tuple #[.pointer none,.pointer none,.pointer none,.pointer none]) (by simp[results,Tryz.results71,go_sem, *]) rfl ?_;exact HE.out
 |true=>
  go_wp2_with fail;try rw[hw1]
  try rw[hbxe]
  clear hw1 hbxe;refine(Kl.new HWd.out HBd.out HP0.out hok).mono ?_;rintro e w2 ⟨a,rfl,hk2,ha2,hb2⟩;obtain⟨x6,x7,x8,x9,x10,x11,x12⟩:=HX.out w2 hb2;have HB2:=Lh hb2;have HA:=Lh ha2;have HK2:=Lh hk2;have hmd:=Cp.made w2 d.x (HOk.out w2 hb2);unfold Cp.St.cells at hmd;have HMd:=Lh hmd;clear hb2 ha2 hk2 hmd c0 c1 c2 c3 c4 c5;go_wp2_with fail;refine HMd.out.mono ?_;rintro e w3 ⟨cb,sb,mb,A,db,rb,lv,R,rfl,hdu,he,hpg⟩;have HDu:=Lh hdu;have HE3:=Lh (And.intro he hpg);have HB3:=Lh (bQ HB2.out hdu.bel);obtain⟨x6,x7,x8,x9,x10,x11,x12⟩:=HX.out w3 HB3.out;clear hdu he hpg HMd;go_wp2_with fail;refine(Kl.caps (HK2.out.below HDu.out.bel)).mono ?_;rintro e w4 ⟨rfl,rfl⟩;go_wp2_with fail;refine(Ev.new HDu.out.pair.sp 1 d.x.pc (by omega) (by omega) HPc.out.1 HPc.out.2).mono ?_;rintro e w4 ⟨en,C,rfl,hen,hcc,hef,hb4⟩;have HV:=Lh (And.intro hen (And.intro hcc (And.intro hef hb4)));have HB4:=Lh (bQ HB3.out hb4);have HD4:=Lh (HDu.out.below hb4);obtain⟨x6,x7,x8,x9,x10,x11,x12⟩:=HX.out w4 HB4.out;clear hen hcc hef hb4;go_wp2_with fail;refine(Rv.new HD4.out.pair.rp 1 d.x.pc (by omega) (by omega) HPc.out.1 HPc.out.2).mono ?_;rintro e w5 ⟨fn,S,rfl,hr,hrc,hrf,hb5⟩;have HR:=Lh (And.intro hr (And.intro hrc (And.intro hrf hb5)));have HB5:=Lh (bQ HB4.out hb5);obtain⟨c0,c1,c2,c3,c4,c5⟩:=HC.out w5 HB5.out;clear hr hrc hrf hb5 x6 x7 x8 x9 x10 x11 x12;go_wp2_with fail;refine(Rk.new (Ca.words_below HWd.out HB5.out) HBd.out HP0.out hok).mono ?_;rintro e w6 ⟨b,rfl,hr6,hhv,ht6,hb6⟩;have hb25:Below w2.heap.size w2 w5:=bQ HDu.out.bel (bQ HV.out.2.2.2 HR.out.2.2.2);have hpr:=pair (cap:=d.h.cap) HWd.out HK2.out HA.out HB2.out hb25 hr6 (fun k hk=>(ht6 k hk).imp id fun z=>z) hb6;have hmid:(∀k,w2.heap.size≤k→k<w5.heap.size→a.tag k=0∧b.tag k=0):=fun k k2 k5=>⟨Decidable.byContradiction fun g=>absurd (HK2.out.lt k g) (by omega),Decidable.byContradiction fun g=>by
   rcases ht6 k g with q|⟨_,q1,q2⟩
   ·omega
   ·obtain⟨g',o,e,hc⟩:=HWd.out.cell 0 (by omega);rw[e] at q2;have q2:some g'=some k:=q2;cases q2;have:=cell_lt hc;have:=HB2.out.size;omega⟩
  have HPr:=Lh hpr;have HMid:=Lh hmid;have HB25:=Lh hb25;have HB56:=Lh hb6;have hl16:d.h.l.length≤16∧d.h.p≤4096:=by
   unfold Ca.hardOk at hok;simp only[Bool.and_eq_true,decide_eq_true_eq] at hok;exact⟨hok.1.2,hok.1.1⟩
  have HL:=Lh hl16;clear hl16 hr6 hhv ht6 hb6 hpr hmid hb25 c0 c1;go_wp2_with fail;obtain⟨K0,hK0⟩:∃K0,Kn.new d.h.p d.h.l=K0:=⟨_,rfl⟩;have HKE:Hid (K0.hp=d.h.p∧K0.hx=d.h.l∧K0.g=fun _=>none):=Lh (by rw[←hK0];exact⟨rfl,rfl,rfl⟩);rw[hK0] at HPr;have HK0:=Lh hK0;clear hK0;have HS:Hid (∀W a' b' L L',KPair w1 W a' L b' L'→b'.kb=b.kb→b'.c.rb=b.c.rb→W.cell? ⟨bx,2,none⟩=some (.int .u32 d.m.m.pages)∧W.cell? ⟨bx,3,none⟩=some (.slice d.m.ea d.m.m.ext.length d.m.ecap)∧W.cell? ⟨bx,4,none⟩=some (.slice d.m.pa d.m.m.ports.length d.m.pcap)∧W.cell? ⟨bx,5,none⟩=some (.bool d.m.m.con)∧W.cell? ⟨b.kb,0,none⟩=some (.pointer (some ⟨b.c.rb,0,none⟩))∧True):=Lh fun W a' b' L L' k1 k2 k3=>by
   obtain⟨_,_,e2,e3,e4,e5⟩:=HC.out W k1.bel;have:=k1.d.cells.1;rw[k2,k3] at this;exact⟨e2,e3,e4,e5,this,trivial⟩
  have HEn6:=Lh ((HV.out.1.below HR.out.2.2.2).below HB56.out);clear c2 c3 c4 c5;refine B (fun W=>W.cell? ⟨bx,2,none⟩=some (.int .u32 d.m.m.pages)∧W.cell? ⟨bx,3,none⟩=some (.slice d.m.ea d.m.m.ext.length d.m.ecap)∧W.cell? ⟨bx,4,none⟩=some (.slice d.m.pa d.m.m.ports.length d.m.pcap)∧W.cell? ⟨bx,5,none⟩=some (.bool d.m.m.con)∧W.cell? ⟨b.kb,0,none⟩=some (.pointer (some ⟨b.c.rb,0,none⟩))∧True) (HS.out _ _ _ _ _ (HPr.out.below Br.drew) rfl rfl) fun wd hwd hS=> ?_
  have HPd:Hid (KPair w1 wd a K0 b K0):=Lh (by subst hwd;exact HPr.out.below Br.drew);have HBd6:Hid (Below w6.heap.size w6 wd):=Lh (by subst hwd;exact Br.drew);clear hwd HPr;refine T 0 hS ?_;refine T 1 hS ?_;refine T 2 hS ?_;refine T 3 hS ?_;refine T 4 hS ?_;refine T 5 hS ?_;refine T 6 hS ?_;refine T 7 hS ?_;refine U 8 fun K' hK=> ?_
  go_simp;go_at_call 76;refine(Ev.cpu (HEn6.out.below HBd6.out)).mono ?_;rintro r v1 ⟨rfl,rfl⟩;refine V hK hS ?_;clear hK K';refine T 9 hS ?_;refine T 10 hS ?_;refine T 11 hS ?_;refine T 12 hS ?_;refine T 14 hS ?_;refine T 15 hS ?_;refine T 18 hS ?_;refine T 19 hS ?_;refine T 20 hS ?_;refine T 21 hS ?_;refine T 22 hS ?_;refine T 23 hS ?_;refine U 13 fun K' hK=> ?_
  go_simp;go_at_call 23;refine(Kl.caps HPd.out.p).mono ?_;rintro r v1 ⟨rfl,rfl⟩;refine V hK hS ?_;clear hK K' hS;have HMi:=Lh (HM.out.below HPd.out.bel);have HCy:Hid (Calls Tryz.prog 95 #[.agg #[.int .u32 d.m.m.pages,.slice d.m.ea d.m.m.ext.length d.m.ecap,.slice d.m.pa d.m.m.ports.length d.m.pcap,.bool d.m.m.con]] wd (R11.CopyPost wd d.m.m)):=Lh (by
   have:=HMl.out;exact R11.copy HMi.out.i (by omega) (by omega))
  refine U 16 fun K' hK=> ?_
  go_simp;go_at_call 95;refine HCy.out.mono ?_;rintro r w7 ⟨ev6,pv6,rfl,hm6,hf6,hb6⟩;have HP6:=Lh (HPd.out.below hb6);have HM6:=Lh hm6;have HBd7:=Lh (bQ HBd6.out hb6);have hS6:=HS.out _ _ _ _ _ HP6.out rfl rfl;clear hm6 hf6 hb6 HCy HPd HBd6;refine V hK hS6 ?_;clear hK K';obtain⟨gE,hgE⟩:∃g,Ca.grantE K0.hp K0.hx K0.g 1 d.m.m 8=g:=⟨_,rfl⟩;obtain⟨aK,haK⟩:∃k:Kn,(if gE=0 then {K0 with g:=Gp.upd K0.g 1 (some ⟨d.m.m,8,0⟩)} else K0)=k:=⟨_,rfl⟩;have HAk:Hid (aK=asked8 d):=Lh (by
   rw[←haK,←hgE,←HK0.out];rfl)
  have HG1:Hid (Calls Tryz.prog 88 #[.pointer (some ⟨a.c.cb,0,none⟩),.int .i64 1,.agg (d.m.m.cells ev6 pv6),.int .u32 8] w7 fun e w'=>e=.returned (.int .i64 gE)∧∃a7,KPair w1 w' a7 aK b K0∧a7.kb=a.kb∧(∀k,k<w7.heap.size→a7.tag k=a.tag k)∧Mod a.wf w7 w'):=Lh ((Kl.grant HP6.out.p (by rw[HKE.out.1];exact HL.out.2) (by rw[HKE.out.2.1];exact HL.out.1) (n:=1) (pg:=8) (by omega) HM6.out HM.out.ok).mono (by
   rintro e w' (⟨h1,h2,h3⟩|⟨h1,h2,a7,h3⟩)
   ·rw[hgE] at h1 h2;rw[if_neg h1] at haK;rw[←haK];exact⟨h2,a,HP6.out.below h3,rfl,fun _ _=>rfl,Mod.of_below h3 _⟩
   ·rw[hgE] at h1;rw[if_pos h1] at haK;rw[←haK,h1];exact⟨h2,a7,HP6.out.prog h3,h3.same.1,h3.tag,h3.mod⟩))
  have HG2:Hid (∀V a7,KPair w1 V a7 aK b K0→Calls Tryz.prog 99 #[.pointer (some ⟨b.c.rb,0,none⟩),.int .i64 1,.agg #[.int .u32 d.m.m.pages,.slice d.m.ea d.m.m.ext.length d.m.ecap,.slice d.m.pa d.m.m.ports.length d.m.pcap,.bool d.m.m.con],.int .u32 8] V fun e w'=>e=.returned (.int .i64 gE)∧∃b9 L,KPair w1 w' a7 aK b9 L∧b9.kb=b.kb∧b9.c.rb=b.c.rb∧Mod b.wf V w'):=Lh fun V a7 hp=>(Rk.grant hp.d (by rw[HKE.out.2.1];exact HL.out.1) (n:=1) (pg:=8) (by omega) (HM.out.below hp.bel).i HM.out.ok).mono (by
   rintro e w' (⟨h1,h2,h3⟩|⟨h1,h2,b9,h3⟩)
   ·rw[hgE] at h2;exact⟨h2,b,K0,hp.below h3,rfl,rfl,Mod.of_below h3 _⟩
   ·rw[hgE] at h1;rw[h1];exact⟨h2,b9,_,hp.doc h3,h3.same.1,h3.same.2.1,h3.mod⟩)
  clear hgE haK;refine U 17 fun K' hK=> ?_
  go_simp;go_at_call 88;refine HG1.out.mono ?_;rintro r w8 ⟨rfl,a7,hp8,hk8,ht8,hm8⟩;have HP8:=Lh hp8;have H8:=Lh (And.intro hk8 (And.intro ht8 hm8));have hS8:=HS.out _ _ _ _ _ hp8 rfl rfl;clear hp8 hk8 ht8 hm8 HG1 hS6;refine V hK hS8 ?_;clear hK K';refine U 24 fun K' hK=> ?_
  go_simp;go_at_call 99;refine(HG2.out _ _ HP8.out).mono ?_;rintro r w9 ⟨rfl,b9,L9,hp9,hk9,hc9,hm9⟩;have hS9:=HS.out _ _ _ _ _ hp9 hk9 hc9;have HP9:=Lh hp9;have HM9:Hid (∀k,w2.heap.size≤k→k<w5.heap.size→w9.heap[k]? =w5.heap[k]? ∧a7.tag k=0):=Lh fun k k2 k5=>by
   obtain⟨m1,m2⟩:=HMid.out k k2 k5;have k6:k<w6.heap.size:=Nat.lt_of_lt_of_le k5 HB56.out.size;have k7:k<w7.heap.size:=Nat.lt_of_lt_of_le k6 HBd7.out.size;have k8:k<w8.heap.size:=Nat.lt_of_lt_of_le k7 H8.out.2.2.size;exact⟨by rw[hm9.block k k8 fun g=>g.1 m2,H8.out.2.2.block k k7 fun g=>g.1 m1,HBd7.out.block k k6,HB56.out.block k k5],by rw[H8.out.2.1 k k7];exact m1⟩
  have hsz9:w5.heap.size≤w9.heap.size:=Nat.le_trans HB56.out.size (Nat.le_trans HBd7.out.size (Nat.le_trans H8.out.2.2.size hm9.size));have HSz:=Lh hsz9;have HKb:=Lh H8.out.1;have hgg:(gE != gE)=false:=bne_self_eq_false gE;clear hp9 hk9 hc9 hm9 hsz9 HG2 hS8 HP8 H8 HMid HP6 HM6 HMi HS HC HX;refine V hK hS9 ?_;clear hK K';refine T 25 hS9 ?_;refine T 26 hS9 ?_;refine wpAnyH_done (by kernel_rfl) ?_ _;clear hS9;go_wp2;have HD5:=Lh (HD4.out.dp.below HR.out.2.2.2);have hz3:w2.heap.size≤w3.heap.size:=HDu.out.bel.size;have hz4:w3.heap.size≤w4.heap.size:=HV.out.2.2.2.size;have hz5:w4.heap.size≤w5.heap.size:=HR.out.2.2.2.size;have hdb:w2.heap.size≤db∧db<w3.heap.size:=⟨HDu.out.d0,HDu.out.dp.lt⟩;have hfb:w4.heap.size≤fn.eb∧fn.eb<w5.heap.size:=⟨HR.out.2.2.1 _ (.inl rfl),lQ HR.out.1.blk⟩;have hef:∀k,en.foot C k→w3.heap.size≤k∧k<w4.heap.size:=fun k hk=>⟨HV.out.2.2.1 k hk,HV.out.1.lt k hk⟩
  have HRd:=Lh (And.intro hz3 (And.intro hz4 (And.intro hz5 (And.intro hdb (And.intro hfb hef)))));have he9:Env w9 en (En.new 1 d.x.pc C):=(HV.out.1.below HR.out.2.2.2).frame (fun k hk=>(HM9.out k (by have:=hef k hk;omega) (by have:=hef k hk;omega)).1) HSz.out;have hd9:Cpu 199 w9 db d.x.regs d.x.pc:=HD5.out.frame (HM9.out db (by omega) (by omega)).1;have hf9:w9.heap[fn.eb]? =_:=(HM9.out fn.eb (by omega) hfb.2).1.trans HR.out.1.blk;have HE9:=Lh he9;have HDb9:=Lh hd9;have HF9:=Lh hf9;have HLk:=Lh (HV.out.2.1.trans HE3.out.2);clear hz3 hz4 hz5 hdb hfb hef he9 hd9 hf9 HD5 HR HV HD4 HDu HE3 HEn6 HK2 HA HB25 HB56 HBd7;go_loopw [18] (fun vi wr=>m42 w9 en (En.new 1 d.x.pc C) (fun i=>Cp.rg d.x.regs i) vi wr) (fun vi _=>16 - (intOf vi).toNat)
  case atStart=>exact⟨1,Nat.le_refl _,by omega,by go_num,EStep.refl HE9.out⟩
  case round=>
   obtain⟨i,hi1,hi2,rfl,hst⟩:=hrel;have HSt:=Lh hst;have hdp:Cpu 199 wr db d.x.regs d.x.pc:=HDb9.out.keep hst.mod fun g=>by
    have h1:=HRd.out.2.2.2.2.2 _ g;have h2:=HRd.out.2.2.2.1;omega
   have HDp:=Lh hdp;clear hst
   by_cases hin:i<16
   ·have hc:=hdp.cellReg i hin;have hbd:=Cp.rg_bd hdp.regs (i:Int);have HSR:=Lh (Cp.setReg_ok (HSt.out.env.below Br.drew).cp i hin (Cp.rg d.x.regs i) hbd.1 hbd.2);have hi16:(i:Int)<16:=by omega
    clear hdp;generalize hv:Cp.rg d.x.regs i=v at*;have HvR:=Lh hv;clear hv;go_wp2_with fail;refine wp_region_still_tail 9 (by kernel_rfl) (by kernel_rfl) ?_;simp only[List.take_succ_cons,List.take_zero,List.drop_succ_cons,List.drop_zero]
    repeat still_step
    still_call ((Ev.cpu (HSt.out.env.below Br.drew)).mono fun e w' ⟨g1,g2⟩=>⟨g1,g2.symm⟩)
    repeat still_step
    refine wpStill_nil ?_
    change wpList _ _ _ _ _ wr.drew
    have HSd:=Lh (HSt.out.below Br.drew);clear HSt hc;generalize wr.drew=w16 at*;go_wp2_with fail;refine HSR.out.mono ?_;rintro r w17 ⟨rfl,hc7,hm7⟩;have hs7:=HSd.out.trans (EStep.regs HSd.out.env hc7 hm7);have HS7:Hid (EStep w9 w17 en (En.new 1 d.x.pc C) en {En.new 1 d.x.pc C with r:=Cp.regsK (fun i=>Cp.rg d.x.regs i) (i+1)}):=Lh (by
     rw[←Cp.regsK_succ _ i hin]
     show EStep w9 w17 en (En.new 1 d.x.pc C) en {En.new 1 d.x.pc C with r:=Cp.putG (Cp.regsK (fun i=>Cp.rg d.x.regs i) i) i (Cp.rg d.x.regs i)}
     rw[HvR.out];exact hs7)
    clear hc7 hm7 hs7;go_wp2;exact⟨⟨i+1,by omega,by omega,by go_num,HS7.out⟩,by simp[intOf];omega⟩
   ·obtain rfl:i=16:=by omega
    obtain⟨hz3,hz4,hz5,hdb,hfb,hef⟩:=HRd.out;have hreg:Cp.regsK (fun i=>Cp.rg d.x.regs i) 16=d.x.regs:=Cp.regsK_regs d.x.regs HDp.out.regs.len (by
     unfold Cp.St.regs Cp.regsK;rfl)
    have hEw:EStep w9 wr en (En.new 1 d.x.pc C) en {En.new 1 d.x.pc C with r:=d.x.regs}:=by
     have:=HSt.out;rw[hreg] at this;exact this
    have hfw:=(hEw.mod.block fn.eb (Nat.lt_of_lt_of_le hfb.2 HSz.out) fun g=>by have:=hef _ g;omega).trans HF9.out;have q2:wr.cell? ⟨fn.eb,2,none⟩=some (.pointer (some ⟨fn.cb,0,none⟩)):=by unfold World.cell?;rw[hfw];rfl
    have f2:wr.frozen? ⟨fn.eb,2,none⟩=false:=by unfold World.frozen?;rw[hfw];simp
    have hm6:Mod (fun i=>i=fn.eb) wr (wr.setCell ⟨fn.eb,2,none⟩ (.pointer (some ⟨db,0,none⟩))):=Mod.setCell (F:=fun i=>i=fn.eb) (Mod.refl _ _) ⟨fn.eb,2,none⟩ (.inl rfl) _;have hta:∀k,en.foot C k→a7.tag k=0:=fun k hk=>(HM9.out k (by have:=hef k hk;omega) (by have:=hef k hk;omega)).2
    have htf:a7.tag fn.eb=0:=(HM9.out fn.eb (by omega) hfb.2).2;have hk6:Knl (wr.setCell ⟨fn.eb,2,none⟩ (.pointer (some ⟨db,0,none⟩))) a7 aK:=(HP9.out.p.keep hEw.mod fun k hk g=>hk (hta k g)).keep hm6 fun k hk g=>hk (by rw[g];exact htf)
    have hE6:Env (wr.setCell ⟨fn.eb,2,none⟩ (.pointer (some ⟨db,0,none⟩))) en {En.new 1 d.x.pc C with r:=d.x.regs}:=hEw.env.keep hm6 fun k hk g=>by have:=hef k hk;omega
    have hw1:w1.heap.size≤w2.heap.size:=HB2.out.size;have hB6:Below w1.heap.size w1 (wr.setCell ⟨fn.eb,2,none⟩ (.pointer (some ⟨db,0,none⟩))):=Mod.below (Mod.below HP9.out.bel hEw.mod HP9.out.bel.size fun k _ hk=>by have:=hef k hk;omega) hm6 (by have:=HP9.out.bel.size;have:=hEw.mod.size;omega) fun k _ hk=>by omega
    have hend:=HFin1.out _ a7 en {En.new 1 d.x.pc C with r:=d.x.regs} ⟨b.kb,0,none⟩ ⟨fn.eb,0,none⟩ hok (by rw[←HAk.out];exact⟨hk6,hE6,hta,hB6,HP9.out.k0,fun k hk=>by have:=hef k hk;omega,⟨by show(1:Int)≤1;omega,by show(1:Int)≤8;omega⟩⟩) ⟨rfl,rfl,rfl,rfl,rfl,rfl,HLk.out,rfl,rfl⟩;rw[HKb.out] at hend;have HEnd:=Lh hend;clear hend hB6 hE6 hk6 hta htf hm6 hfw hEw hreg hw1 HSt HDp hdp HP9 HFin1 HFin2 hef;go_wp2;refine bodyPost_ret (v:=.tuple #[.pointer (some ⟨a.kb,0,none⟩),.pointer (some ⟨b.kb,0,none⟩),.pointer (some ⟨en.eb,0,none⟩),.pointer (some ⟨fn.eb,0,none⟩)]) (by simp[results,Tryz.results71,go_sem, *]) rfl ?_;exact HEnd.out
end Go.Proofs.YtehihecknhcggaaGreat.Fz
namespace Go.Proofs.YtehihecknhcggaaGreat.Fz
open Go.RowKit Word
theorem run1{w:World}{e:EAt}{E:En}(h:Env w e E)(hk:E.kind=2)(hs:E.stop.1≠1)(k:Option Addr):Calls Tryz.prog 72 #[.pointer k,.pointer (some ⟨e.eb,0,none⟩),.int .i64 1] w fun r w'=>r=.returned (.slice none 0 0)∧EStep w w' e E e E.step:=by
 have HE:=Lh h;have hkd:(E.kind == 2)=true:=by rw[hk];rfl
 have hsd:(E.stop.1 != 1)=true:=bne_iff_ne.2 hs;have hfd:=fun V=>kindOf E.kind E.code E.why V
 have HS:=Lh (Ev.state h);clear h hk hs;go_enter func72,ntmps72;go_wp2;refine wp_loop_rounds 2 ?_;rw[rounds_succ];go_wp2_with fail;refine HS.out.mono ?_;rintro r w1 ⟨rfl,hb1⟩;have HE1:=Lh (HE.out.below hb1);have HB1:=Lh hb1;clear hb1;go_wp2_with fail;refine(Ev.step HE1.out).mono ?_;rintro r w2 ⟨rfl,hs2⟩;have HS2:=Lh ((EStep.of_below HE.out HB1.out).trans hs2);clear hs2;go_wp2_with fail;have HW:=Lh (HS2.out.below (Br.alloc (Nat.le_refl _) (.cells #[.int .u8 E.stop.1,.int .u32 E.stop.2.1,.int .i64 E.stop.2.2] 229)));clear HS2;rw[rounds_succ];go_wp2
 first|exact⟨rfl,HW.out⟩|(go_ret;exact⟨rfl,HW.out⟩)
end Go.Proofs.YtehihecknhcggaaGreat.Fz
namespace Go.Proofs.YtehihecknhcggaaGreat.Fz
open Go.RowKit Word L22 In
theorem frOf_like{E F:En}(h:En.Like E F)(m:Mn):frOf m E=frOf m F:=by
 have h1:frSp E.A E.own=frSp F.A F.own:=by
  unfold frSp;rw[Cor.addrs_eq h.A,h.own];refine List.map_congr_left fun x _=> ?_
  rw[Cor.permV h.A,Cor.getS h.A]
 unfold frOf;rw[h1,h.pc,h.text]
 congr 1
 funext i
 exact h.arg i
theorem argBd{w:World}{e:EAt}{E:En}(h:Env w e E)(n:Int):0≤E.arg n∧E.arg n≤4294967295:=by
 unfold En.arg
 split
 ·exact Cp.rg_bd h.cp.regs n
 ·omega
theorem frOf_ok{w:World}{e:EAt}{E:En}(h:Env w e E){m:Mn}(hm:m.ok):(frOf m E).ok:=by
 refine⟨hm,fun i=>argBd h i,⟨h.cp.p0,h.cp.p1⟩,fun p hp=> ?_⟩;obtain⟨x,hx,rfl⟩:=List.mem_map.1 hp;obtain⟨q,hq,rfl⟩:=List.mem_map.1 hx;have hk:=h.sp.ok q hq;refine⟨⟨hk.a0,by have:=hk.a1;show q.addr≤4294967295;omega⟩, ?_⟩
 show 0≤Sp.permV E.A q.addr∧Sp.permV E.A q.addr≤255
 unfold Sp.permV;cases hg:pageAt E.A q.addr with
 |none=>exact⟨Int.le_refl 0,by decide⟩
 |some z=>
  have hz:=h.sp.ok z (atAddr_mem hg).1;have:=hz.p0;have:=hz.p1;exact⟨by show 0≤z.perm;omega,by show z.perm≤255;omega⟩
def cd42:Nat→Ins:=fun _=>⟨32,1,0,0,7⟩
def st42(P C:Nat):Cp.St:=⟨none,0,0,fun _=>0,256,some ⟨P,0,none⟩,2,2,fun i=>if i=0 then 8 else 4,256,some ⟨C,0,none⟩,1,1,cd42,0,ByteArray.empty⟩
def m42n:Mn:=⟨0,[],[],true⟩
def wd42(P C:Nat):WdI:=⟨⟨40,none,0,[]⟩,⟨m42n,none,0,none,0⟩,st42 P C,none,0,[]⟩
def pm42:Array Value:= #[.int .u8 8,.int .u8 4]
def ca42:Array Value:= #[.int .u8 32,.int .u8 1,.int .u8 0,.int .u8 0,.int .u32 7]
theorem cd42_ok(i:Nat):(cd42 i).ok:=by
 show(⟨32,1,0,0,7⟩:Ins).ok
 exact⟨by decide,by decide,by decide,by decide,by decide,by decide,by decide,by decide,by decide,by decide⟩
theorem st42_pre{w:World}{P C:Nat}(h0:w.heap[P]? =some (.cells pm42 5 (0,0)))(h1:w.heap[C]? =some (.cells ca42 153 (0,0))):(st42 P C).pre w where
 rrow:=fun h=>absurd h (Nat.not_lt_zero _)
 rbd:=fun i hi=>absurd hi (Nat.not_lt_zero _)
 rlen:=(by decide:(0:Nat)≤9223372036854775807)
 p0:=(by decide:(0:Int)≤256)
 p1:=(by decide:(256:Int)≤4294967295)
 prow:=fun _=>⟨P,0,rfl,lQ h0,fun i hi=>by
  have:i=0∨i=1:=by have:i<2:=hi;omega
  rcases this with rfl|rfl<;>(unfold World.cell?;rw[h0];rfl)⟩
 pbd:=fun i hi=>by
  show 0≤(if i=0 then(8:Int) else 4)∧(if i=0 then(8:Int) else 4)≤255
  split<;>omega
 a0:=(by decide:(0:Int)≤256)
 a1:=(by decide:(256:Int)≤65535)
 crow:=fun _=>⟨C,0,rfl,fun i hi=>by
  have:i=0:=by have:i<1:=hi;omega
  subst this;refine⟨?_, ?_, ?_, ?_, ?_⟩<;>(unfold World.cell?;rw[h1];rfl)⟩
 cbd:=fun i hi=>cd42_ok i
 w0:=(by decide:(0:Int)≤0)
 w1:=(by decide:(0:Int)≤65535)
theorem st42_ok{w:World}{P C:Nat}(h:(st42 P C).pre w):(st42 P C).ok w:=
 ⟨h.rrow,h.rbd,h.rlen,h.p0,h.p1,h.prow,h.pbd,(by decide:2≤16),h.a0,h.a1,h.crow,h.cbd,(by decide:1≤1000),h.w0,h.w1,(by decide:ByteArray.empty.size≤65536)⟩
theorem wd42_pre{w:World}{P C:Nat}(h:(st42 P C).pre w):(wd42 P C).pre w:=
 ⟨⟨(by decide:(0:Int)≤40),(by decide:(40:Int)≤4294967295),⟨fun i hi=>absurd hi (Nat.not_lt_zero _),by simp[wd42]⟩,fun x hx=>nomatch hx⟩,⟨⟨⟨rfl,⟨none,0,rfl,fun j u hu=>by simp[wd42,m42n,extC] at hu⟩,Nat.zero_le _⟩,⟨rfl,⟨none,0,rfl,fun j u hu=>by simp[wd42,m42n] at hu⟩,Nat.zero_le _⟩⟩,⟨(by decide:(0:Int)≤0),(by decide:(0:Int)≤4294967295),fun x hx=>(nomatch hx),fun x hx=>(nomatch hx)⟩⟩,h,⟨fun i hi=>absurd hi (Nat.not_lt_zero _),fun s hs=>(nomatch hs),by simp[wd42]⟩⟩
def en42:En:=(st42 0 0).env 1
def x42:Fr:=frOf m42n en42.step
def k42:Kn:= {Kn.new 40 [] with g:=Gp.upd (fun _=>none) 1 (some ⟨m42n,8,0⟩)}
def k42b:Kn:= {k42 with g:=Gp.upd k42.g 2 (some ⟨m42n,1,0⟩)}
theorem n42:(Ca.hardOk 40 [],en42.kind,en42.num,en42.step.num,en42.step.kind,en42.stop.1)=(true,2,1,1,2,0):=by kernel_rfl
theorem g42:(Ca.grantE 40 [] (fun _=>none) 1 m42n 8,Ca.grantE k42.hp k42.hx k42.g 2 m42n 1,Ca.grantE k42b.hp k42b.hx k42b.g 2 m42n 1)=(0,0,9):=by kernel_rfl
theorem s42:x42.sp.map (fun p=>(p.addr,p.perm,p.own,p.text.size))=[(256,4,false,256)]:=by kernel_rfl
theorem v42:(x42.r 0,x42.pc,x42.text.size,(putL' x42).length)=(0,264,0,341):=by kernel_rfl
theorem t42(A:List Pg):((thE 2 x42 A).arg 1,(thE 2 x42 A).pc,(thE 2 x42 A).num)=(7,264,2):=by kernel_rfl
theorem asked42(P C:Nat):asked8 (wd42 P C)=k42:=by
 unfold asked8;have:=g42;simp only[Prod.mk.injEq] at this;exact if_pos this.1
theorem sp42:∃t:ByteArray,t.size=256∧x42.sp=[⟨256,4,false,t⟩]:=by
 have h:=s42;generalize x42.sp=l at*;cases l with
 |nil=>cases h
 |cons p l=>
  cases l with
  |nil=>
   simp only[List.map_cons,List.map_nil,List.cons.injEq,Prod.mk.injEq,and_true] at h;obtain⟨pa,pp,po,pt⟩:=p;obtain⟨h1,h2,h3,h4⟩:=h;simp only at h1 h2 h3 h4;subst h1 h2 h3;exact⟨pt,h4,rfl⟩
  |cons q l=>simp at h
theorem may42:x42.may:=by
 obtain⟨t,ht,hs⟩:=sp42;have hv:=v42;simp only[Prod.mk.injEq] at hv;refine⟨fun p hp=> ?_, ?_,by kernel_rfl,hv.1, ?_,by omega,.inl rfl⟩
 ·rw[hs] at hp;simp only[List.mem_singleton] at hp;subst hp;exact⟨(by decide:(256:Int) % 256=0),(by decide:(256:Int)<1048576),(by decide:(4:Int)≤7),ht,.inl rfl⟩
 ·rw[hs];exact List.pairwise_singleton _ _
 ·rw[hs];exact(by decide:(0:Int)≤0)
end Go.Proofs.YtehihecknhcggaaGreat.Fz
namespace Go.Proofs.YtehihecknhcggaaGreat.Fz
open Go.RowKit Word
def rT(x:Fr)(z:List UInt8):List UInt8:=pL x.text.size 2++(tl x.text++z)
def rS(x:Fr)(z:List UInt8)(i:Nat):List UInt8:=(x.sp.drop i).flatMap pageL++rT x z
def rC(x:Fr)(z:List UInt8):List UInt8:=pL (bit01 x.m.con) 1++(pL x.sp.length 2++rS x z 0)
def rM(x:Fr)(z:List UInt8):List UInt8:=pL x.m.pages 4++(pL (0:Nat) 1++(pL (0:Nat) 1++rC x z))
def rG(x:Fr)(z:List UInt8)(i:Nat):List UInt8:=bytesL 4 ((regL x.r).drop i)++rM x z
def mg:ByteArray:=⟨#[65,70,90,49]⟩
theorem put_split{x:Fr}{z:List UInt8}(he:x.m.ext=[])(hq:x.m.ports=[]):putL' x++z=tl mg++(pL x.pc 4++rG x z 0):=by
 unfold putL' rG rM rC rS rT manL;rw[he,hq];simp only[List.append_assoc,List.flatMap_nil,List.nil_append,List.length_nil,List.drop_zero];rfl
theorem rG_step(x:Fr)(z:List UInt8)(i:Nat)(hi:i<15):rG x z i=pL (x.r (i+1)) 4++rG x z (i+1):=by
 have:i=0∨i=1∨i=2∨i=3∨i=4∨i=5∨i=6∨i=7∨i=8∨i=9∨i=10∨i=11∨i=12∨i=13∨i=14:=by omega
 rcases this with rfl|rfl|rfl|rfl|rfl|rfl|rfl|rfl|rfl|rfl|rfl|rfl|rfl|rfl|rfl
 all_goals exact List.append_assoc _ _ _
theorem rS_step(x:Fr)(z:List UInt8)(i:Nat)(hi:i<x.sp.length):rS x z i=pageL x.sp[i]++rS x z (i+1):=by
 unfold rS;rw[List.drop_eq_getElem_cons hi,List.flatMap_cons,List.append_assoc]
def gX(x:Fr)(i:Nat):Fr:= {zeroFr with pc:=x.pc,r:=fun j=>if 1≤j∧j<i then x.r j else 0}
def gM(x:Fr):Fr:= {gX x 16 with m:=⟨x.m.pages,[],[],false⟩}
def gC(x:Fr):Fr:= {gX x 16 with m:=⟨x.m.pages,[],[],x.m.con⟩}
def gS(x:Fr)(i:Nat):Fr:= {gC x with sp:=x.sp.take i}
def gT(x:Fr):Fr:= {gC x with sp:=x.sp,text:=x.text}
theorem gT_arr{x:Fr}(h0:x.r 0=0)(ev pv sv:Value):(gT x).arr ev pv sv=x.arr ev pv sv:=
 arr_cong (x:=gT x) (y:=x) rfl rfl (fun j hj=>by
  show(if 1≤j∧j<16 then x.r j else 0)=x.r j
  by_cases q:1≤j
  ·rw[if_pos ⟨q,hj⟩]
  ·rw[if_neg (fun g=>q g.1),show j=0 by omega,h0]) rfl rfl _ _ _
def gtRel(w0:World)(n:Nat)(s:ByteArray)(x:Fr)(z:List UInt8)(vi:Value)(wr:World):Prop:=
 ∃i k:Nat,1≤i∧i≤16∧vi=.int .i64 i∧GG w0 n s (gX x i) wr k nl (rG x z (i - 1))
theorem get{w:World}{x:Fr}(ho:x.ok)(hm:x.may)(hl:x.sp.length<65536)(he:x.m.ext=[])(hq:x.m.ports=[]){s:ByteArray}{z:List UInt8}(hs:tl s=putL' x++z)(hz:s.size≤maxLen):
  Calls Tryz.prog 75 #[.string s] w fun e w'=>Below w.heap.size w w'∧((z=[]∧∃sv,e=.returned (.tuple #[.agg (x.arr nl nl sv),.int .i64 0])∧SlV w' 151 4 sv x.sp.length (pgC x.sp)∧∀g,sv.ownBlock=some g→w.heap.size≤g∧g<w'.heap.size)∨(z≠[]∧e=.returned (.tuple #[.agg (zeroFr.arr nl nl nl),.int .i64 7]))):=by
 have HN:=Lh fun V=>pnew s V
 have hsp:=hs.trans (put_split he hq);have HSp:=Lh hsp;have HZ:=Lh hz;have HO:=Lh ho;have HM:=Lh hm;have HL:=Lh hl;have HE:=Lh (And.intro he hq);have HS:=Lh hs;clear hsp hz ho hm hl he hq hs;generalize hPQe:(fun(e:Ending) (w':World)=>Below w.heap.size w w'∧((z=[]∧∃sv,e=.returned (.tuple #[.agg (x.arr nl nl sv),.int .i64 0])∧SlV w' 151 4 sv x.sp.length (pgC x.sp)∧∀g,sv.ownBlock=some g→w.heap.size≤g∧g<w'.heap.size)∨(z≠[]∧e=.returned (.tuple #[.agg (zeroFr.arr nl nl nl),.int .i64 7]))))=PQ;obtain⟨n,hn⟩:∃y,w.heap.size=y:=⟨_,rfl⟩;have hPQ:Hid (∀e W,Below n w W→((z=[]∧∃sv,e=.returned (.tuple #[.agg (x.arr nl nl sv),.int .i64 0])∧SlV W 151 4 sv x.sp.length (pgC x.sp)∧∀g,sv.ownBlock=some g→n≤g∧g<W.heap.size)∨(z≠[]∧e=.returned (.tuple #[.agg (zeroFr.arr nl nl nl),.int .i64 7])))→PQ e W):=Lh fun e W h1 h2=>by rw[←hPQe,←hn] at*;exact⟨h1,h2⟩
 have HNn:=Lh hn;clear hPQe hn;go_enter func75,ntmps75;go_wp2_with fail;refine(HN.out _).mono ?_;rintro e w1 ⟨rfl,rfl⟩;have hn:=HNn.out
 dsimp only
 iterate 18 go_step
 simp only[hn,Nat.add_assoc,Nat.reduceAdd];go_step;refine wpList_store_mid rfl 52 (.tmp 5) (.tmp 15) rfl (n+4) 0 (zeroFr.arr nl nl nl) rfl rfl (GG.init hn s rfl).1.there (fz_size zeroFr nl nl nl) (by kernel_rfl) ?_;refine(fun(F:∀V,GG w n s zeroFr V 0 nl (tl s)→wpList Tryz.prog _ _ _ _ V)=>F _ (GG.init hn s rfl).2) ?_;intro w00 hg;have HG:=Lh hg;clear hn hg;have c0:=HG.out.c0;have c1:=HG.out.c1;have HTk:=Lh (takeV HG.out.g.fr.r HZ.out HG.out.g.kle (t:=mg) (n:=4) rfl (HG.out.g.drp.trans HSp.out));go_wp2_with fail;refine HTk.out.mono ?_;rintro e w1 ⟨rfl,h1,m1,k1,d1⟩;have g1:GG w n s zeroFr w1 (0+4) nl (pL x.pc 4++rG x z 0):=HG.out.read ⟨h1,(m1.block _ (lQ HG.out.g.fr.h) HG.out.g.fr.ne).trans HG.out.g.fr.h⟩ k1 d1 m1;have HNm:=Lh (g1.num (.inr (.inr rfl)) HZ.out ⟨HO.out.c.1,by have:=HO.out.c.2;show x.pc<256 ^ 4;omega⟩ rfl);have c0:=g1.c0;clear g1 h1 m1 k1 d1 HG c1 HTk;go_wp2_with fail;refine HNm.out.mono ?_;rintro e w2 ⟨rfl,g2⟩;have g3:GG w n s (gX x 1) (w2.setCell ⟨n+4,20,none⟩ (.int .u32 x.pc)) (0+4+4) nl (rG x z 0):=g2.set 20 _ (by
  rw[arr_cong (x:=gX x 1) (y:= {zeroFr with pc:=x.pc}) rfl rfl (fun j hj=>by show(if 1≤j∧j<1 then x.r j else 0)=0;rw[if_neg (by omega)]) rfl rfl]
  kernel_rfl) rfl
 have b2:=g2.g.box.cell 20 _ rfl;have f2:=g2.g.box.thaw 20;have HR0:Hid (gtRel w n s x z (.int .i64 1) (w2.setCell ⟨n+4,20,none⟩ (.int .u32 x.pc))):=Lh ⟨1,_,by omega,by omega,by go_num,g3⟩;clear g2 g3 HNm c0;go_wp2;go_loopw [6] (fun vi wr=>gtRel w n s x z vi wr) (fun vi _=>16 - (intOf vi).toNat)
 case atStart=>exact HR0.out
 case round=>
  clear HR0 b2 f2;obtain⟨i,k,i1,i16,rfl,hg⟩:=hrel;have HG:=Lh hg;have c0:=hg.c0;clear hg
  by_cases hin:i<16
  ·have ii:(i:Int)<16:=by omega
   have i0:(0:Int)≤(i:Int):=by omega
   have hr:=HO.out.r i;have hst:rG x z (i - 1)=pL (x.r i) 4++rG x z i:=by
    have:=rG_step x z (i - 1) (by omega);rw[show i - 1+1=i by omega] at this;exact this
   have HNm:=Lh (HG.out.num (.inr (.inr rfl)) HZ.out ⟨hr.1,by have:=hr.2;show x.r i<256 ^ 4;omega⟩ hst);clear hr hst;go_wp2_with fail;refine HNm.out.mono ?_;rintro e w3 ⟨rfl,g3⟩;have b3:w3.cell? ⟨n+4,4+i,none⟩=some (.int .u32 ((gX x i).r i)):=g3.g.box.cell (4+i) _ (arr_getr _ _ _ _ i hin);have f3:=g3.g.box.thaw (4+i);have g4:GG w n s (gX x (i+1)) (w3.setCell ⟨n+4,4+i,none⟩ (.int .u32 (x.r i))) (k+4) nl (rG x z i):=g3.set (4+i) _ (by
    rw[arr_reg _ _ _ _ i hin];refine arr_cong (x:= {gX x i with r:=upd (gX x i).r i (x.r i)}) (y:=gX x (i+1)) rfl rfl (fun j hj=> ?_) rfl rfl _ _ _
    show(if j=i then x.r i else if 1≤j∧j<i then x.r j else 0)=if 1≤j∧j<i+1 then x.r j else 0
    by_cases q:j=i
    ·subst q;rw[if_pos rfl,if_pos ⟨i1,by omega⟩]
    ·rw[if_neg q]
     by_cases q2:1≤j∧j<i
     ·rw[if_pos q2,if_pos ⟨q2.1,by omega⟩]
     ·rw[if_neg q2,if_neg (by omega)]) rfl
   have fin:gtRel w n s x z (.int .i64 ((i:Int)+1)) (w3.setCell ⟨n+4,4+i,none⟩ (.int .u32 (x.r i))):=⟨i+1,_,by omega,by omega,by go_num,by rw[Nat.add_sub_cancel];exact g4⟩;have Fin:=Lh fin;clear g3 g4 fin HNm c0 HG;go_wp2;exact⟨Fin.out,by simp[intOf];omega⟩
  ·obtain rfl:i=16:=by omega
   have hpg:=HO.out.m;have HNm:=Lh (HG.out.num (v:=x.m.pages) (r':=pL (0:Nat) 1++(pL (0:Nat) 1++rC x z)) (.inr (.inr rfl)) HZ.out ⟨hpg.p0,by have:=hpg.p1;show x.m.pages<256 ^ 4;omega⟩ rfl);clear hpg;go_wp2_with fail;refine HNm.out.mono ?_;rintro e w4 ⟨rfl,g4⟩;have b4:=g4.g.box.cell 0 _ rfl;have f4:=g4.g.box.thaw 0;have g5:GG w n s (gM x) (w4.setCell ⟨n+4,0,none⟩ (.int .u32 x.m.pages)) _ nl _:=g4.set 0 _ (by kernel_rfl) rfl;have hc5:=g5.c0;have HMa:=Lh (many g5.g.fr HZ.out g5.g.kle (n:=1) (.inl rfl) (cnt:=0) ⟨by omega,by decide⟩ (r:=pL (0:Nat) 1++rC x z) g5.g.drp 181 #[.pointer (some ⟨n+3,0,none⟩),.pointer (some ⟨n+4,0,none⟩)] (enters_of func181 (by kernel_rfl) rfl) (fun i V=>∃k,GG w n s (gM x) V k nl (pL (0:Nat) 1++rC x z)) (fun V h1 h2 h3 h4=>⟨_,g5.read h1 h4 h3 h2⟩) (fun i V ⟨k,h⟩=>⟨k,h.g.fr⟩) fun i V hi=>absurd hi (Nat.not_lt_zero _));clear g4 g5 HNm HG c0;go_wp2_with fail;refine HMa.out.mono ?_;rintro e w6 ⟨rfl,k6,g6⟩;have c6:=g6.c0;have HMb:=Lh (many g6.g.fr HZ.out g6.g.kle (n:=1) (.inl rfl) (cnt:=0) ⟨by omega,by decide⟩ (r:=rC x z) g6.g.drp 182 #[.pointer (some ⟨n+4,0,none⟩),.pointer (some ⟨n+3,0,none⟩)] (enters_of func182 (by kernel_rfl) rfl) (fun i V=>∃k,GG w n s (gM x) V k nl (rC x z)) (fun V h1 h2 h3 h4=>⟨_,g6.read h1 h4 h3 h2⟩) (fun i V ⟨k,h⟩=>⟨k,h.g.fr⟩) fun i V hi=>absurd hi (Nat.not_lt_zero _));clear g6 HMa b4 f4 hc5;go_wp2_with fail;refine HMb.out.mono ?_;rintro e w7 ⟨rfl,k7,g7⟩;have c7:=g7.c0;have HNb:=Lh (g7.num (v:=bit01 x.m.con) (r':=pL x.sp.length 2++rS x z 0) (.inl rfl) HZ.out (by cases x.m.con<;>exact⟨by decide,by decide⟩) rfl);clear g7 HMb c6;go_wp2_with fail;refine HNb.out.mono ?_;rintro e w8 ⟨rfl,g8⟩;have b8:=g8.g.box.cell 3 _ rfl;have f8:=g8.g.box.thaw 3;have hb8:(bit01 x.m.con == 1)=x.m.con:=by cases x.m.con<;>rfl
   have g9:GG w n s (gC x) (w8.setCell ⟨n+4,3,none⟩ (.bool x.m.con)) _ nl _:=g8.set 3 _ (by kernel_rfl) rfl;have c9:=g9.c0;have HMc:=Lh (many g9.g.fr HZ.out g9.g.kle (n:=2) (.inr (.inl rfl)) (cnt:=x.sp.length) ⟨by omega,by have:=HL.out;show(x.sp.length:Int)<256 ^ 2;omega⟩ (r:=rS x z 0) g9.g.drp 183 #[.pointer (some ⟨n+3,0,none⟩),.pointer (some ⟨n+4,0,none⟩)] (enters_of func183 (by kernel_rfl) rfl) (fun i V=>∃k sv,GG w n s (gS x i) V k sv (rS x z i)) (fun V h1 h2 h3 h4=>⟨_,nl,g9.read h1 h4 h3 h2⟩) (fun i V ⟨k,sv,h⟩=>⟨k,h.g.fr⟩) fun i V hi ⟨k,sv,h⟩=>by
    have hm:=HM.out.pg _ (List.getElem_mem hi);have ho:=HO.out.s _ (List.getElem_mem hi);refine(h.get3 HZ.out (p:=x.sp[i]) ho.1 ⟨ho.2.1,by omega⟩ hm.2.2.2.1 (rS_step x z i hi) (by show(x.sp.take i).length≤70000;rw[List.length_take];have:=HL.out;omega)).mono ?_;rintro e V' ⟨he,k',sv',g⟩;refine⟨he,k',sv', ?_⟩;have e2:gS x (i+1)= {gS x i with sp:=(gS x i).sp++[x.sp[i]]}:=by
     unfold gS;rw[List.take_succ_eq_append_getElem hi]
    rw[e2];exact g)
   clear g8 g9 HNb c7;go_wp2_with fail;refine HMc.out.mono ?_;rintro e w10 ⟨rfl,k10,sv,g10⟩;have hrt:rS x z x.sp.length=pL x.text.size 2++(tl x.text++z):=by
    unfold rS;rw[List.drop_length];rfl
   have htx:=HM.out.tx;have HTx:=Lh (textV g10.g.fr.r HZ.out g10.g.kle (t:=x.text) (by omega) (g10.g.drp.trans hrt));have HG10:=Lh g10;have c10:=g10.c0;have d10:=g10.c1;clear g10 hrt htx HMc b8 f8 c9 hb8;go_wp2_with fail;refine HTx.out.mono ?_;rintro e w11 ⟨rfl,h11,m11,k11,d11⟩;have g11:GG w n s (gS x x.sp.length) w11 _ sv z:=HG10.out.read ⟨h11,(m11.block _ (lQ HG10.out.g.fr.h) HG10.out.g.fr.ne).trans HG10.out.g.fr.h⟩ k11 d11 m11;have b11:=g11.g.box.cell 22 _ rfl;have f11:=g11.g.box.thaw 22;have g12:GG w n s (gT x) (w11.setCell ⟨n+4,22,none⟩ (.string x.text)) _ sv z:=g11.set 22 _ (by kernel_rfl) (by show x.sp=x.sp.take x.sp.length;rw[List.take_length]);have HG12:=Lh g12;clear h11 m11 k11 d11 g11 g12 HG10 HTx c10 d10;go_wp2_with fail;clear b11 f11;generalize w11.setCell ⟨n+4,22,none⟩ (.string x.text)=w12 at*;have e12:=setCell_same (i:=1) (v:=.bool false) HG12.out.g.fr.h rfl;have E12:=Lh e12;have fr12:∀i,w12.frozen? ⟨n+2,i,none⟩=false:=fun i=>by unfold World.frozen?;rw[HG12.out.g.fr.h];simp
   have F12:=Lh fr12;clear e12 fr12;have hne:((0:Int) != 0)=false:=rfl;refine B (fun V=>V.cell? ⟨n+3,0,none⟩=some (.pointer (some ⟨n+2,0,none⟩))∧V.cell? ⟨n+2,1,none⟩=some (.bool false)∧True) ⟨HG12.out.c0,HG12.out.c2,trivial⟩ fun wd hwd hS=> ?_
   have HBd:=Lh (show Below w12.heap.size w12 wd by rw[hwd];exact Br.drew);have HE12:=Lh (show wd.setCell ⟨n+2,1,none⟩ (.bool false)=wd by rw[hwd];exact congrArg World.drew E12.out);have f12:wd.frozen? ⟨n+2,1,none⟩=false:=by rw[hwd];exact F12.out 1
   clear hwd E12 F12;refine T 0 hS ?_;refine T 1 hS ?_;refine T 2 hS ?_;refine T 3 hS ?_;refine T 4 hS ?_;refine T 5 hS ?_;refine T 6 hS ?_;refine T 7 hS ?_;refine T 8 hS ?_;refine T 9 hS ?_;refine T 10 hS ?_;have c2:=hS.2.1;refine U 11 fun K hK=> ?_
   go_simp;rw[HE12.out];refine V hK hS ?_;clear hK K;refine wpAnyH_done (by kernel_rfl) ?_ _;clear hS c2 f12 HE12;have hx:=gT_arr HM.out.r0 nl nl sv;have HW:Hid (∀V,Below wd.heap.size wd V→FBox V (n+4) x nl nl sv∧FrIn V x nl nl sv∧V.cell? ⟨n+3,0,none⟩=some (.pointer (some ⟨n+2,0,none⟩))∧V.cell? ⟨n+2,1,none⟩=some (.bool false)∧FBox V n zeroFr nl nl nl∧Below n w V):=Lh fun V hV=>by
    have hb:=bQ HBd.out hV;have g:=HG12.out.g.below hb;have hbx:=g.box;unfold FBox at hbx;rw[hx] at hbx;refine⟨hbx,⟨⟨?_, ?_⟩,g.row⟩,g.c0, ?_,HG12.out.res.keep (Mod.of_below hb fun _=>False) id,HG12.out.bel.trans (hb.mono (by have:=HG12.out.g.bb;omega))⟩
    ·rw[HE.out.1];exact SlV.nil _ _ _
    ·rw[HE.out.2];exact SlV.nil _ _ _
    ·unfold World.cell?;rw[g.fr.h];rfl
   have HOw:Hid (∀V,Below wd.heap.size wd V→SlV V 151 4 sv x.sp.length (pgC x.sp)∧∀g,sv.ownBlock=some g→n+5≤g∧g<V.heap.size):=Lh fun V hV=>by
    have hb:=bQ HBd.out hV;have g:=HG12.out.g.below hb;exact⟨g.row,g.own⟩
   obtain⟨so,sc,rfl⟩:=(HOw.out wd Br).1.form;clear hx HG12 HBd HN;obtain⟨x1,x2,x3,x4,x5,x6⟩:=HW.out wd Br;have HRa:=Lh x1.range;have HPt:=Lh (put x2 HO.out HM.out HL.out HE.out.1 HE.out.2);clear x1 x2 x3 x4 x5 x6;have HSi:=Lh (fz_sizeL x nl nl (.slice so x.sp.length sc));go_wp2_with (refine wpList_load_mid rfl 52 _ rfl (n+4) 0 rfl _ _ HRa.out Tryz.underlying52 rfl HSi.out ?_;rw[Array.toArray_toList]);refine HPt.out.mono ?_;rintro e w13 ⟨P,rfl,hP,hb13⟩;obtain⟨x1,x2,x3,x4,x5,x6⟩:=HW.out w13 hb13;have HRb:=Lh x1.range;have HCk:=Lh (check x2 HO.out HM.out (by have:=HL.out;omega));have HB13:=Lh hb13;clear x1 x2 x5 x6 hb13 HRa HPt;go_wp2_with (refine wpList_load_g rfl 52 _ rfl (n+4) 0 rfl _ _ HRb.out Tryz.underlying52 rfl HSi.out ?_;rw[Array.toArray_toList]);refine HCk.out.mono ?_;rintro e w14 ⟨rfl,hb14⟩;have HB14:=Lh (bQ HB13.out hb14);have HP:=Lh hP;clear hb14 hP HB13 HCk HRb x3 x4;have HPost:Hid (∀e W,Below n w W→((z=[]∧∃sv,e=.returned (.tuple #[.agg (x.arr nl nl sv),.int .i64 0])∧SlV W 151 4 sv x.sp.length (pgC x.sp)∧∀g,sv.ownBlock=some g→n≤g∧g<W.heap.size)∨(z≠[]∧e=.returned (.tuple #[.agg (zeroFr.arr nl nl nl),.int .i64 7])))→PQ e W):=Lh hPQ.out;cases hzc:z with
   |nil=>
    have hps:P=s:=tl_inj (by rw[HP.out,HS.out,hzc,List.append_nil]);have hneq:(P.toList == s.toList)=true:=by rw[hps];exact beq_self_eq_true _
    obtain⟨x1,x2,x3,x4,x5,x6⟩:=HW.out w14 HB14.out;have HRc:=Lh x1.range;have HTh:=Lh x5.there;have HSt:=Lh (x5.sets x nl nl (.slice so x.sp.length sc));have HRow:=Lh (HOw.out w14 HB14.out);have HBel:=Lh x6;clear x1 x2 x3 x4 x5 x6 hps HW HOw HB14;go_wp2_with (first
     |(refine wpList_load_mid rfl 52 _ rfl (n+4) 0 rfl _ _ HRc.out Tryz.underlying52 rfl HSi.out ?_;rw[Array.toArray_toList])
     |refine wpList_store_mid rfl 52 _ _ rfl n 0 (x.arr nl nl (.slice so x.sp.length sc)) rfl rfl HTh.out (fz_size _ _ _ _) (by kernel_rfl) ?_)
    obtain⟨hV,hm⟩:=HSt.out;generalize w14.setCells n 0 (x.arr nl nl (.slice so x.sp.length sc)).toList=V at*;have hbV:=Mod.below HBel.out hm (by rw[←HNn.out];have:=HBel.out.size;omega) fun i _ e=>by omega
    have hend:=HPost.out (.returned (.tuple #[.agg (x.arr nl nl (.slice so x.sp.length sc)),.int .i64 0])) V hbV (.inl ⟨hzc,_,rfl,HRow.out.1.keep fun g hg=>hm.block g (HRow.out.2 g hg).2 (by have:=(HRow.out.2 g hg).1;omega),fun g hg=>⟨by have:=(HRow.out.2 g hg).1;omega,Nat.lt_of_lt_of_le (HRow.out.2 g hg).2 hm.size⟩⟩);have hres:=hV.result;have HEnd:=Lh hend;clear hend hbV hm hV HPost HSt HRow HBel HRc HTh;refine bodyPost_ret (v:=.tuple #[.agg (x.arr nl nl (.slice so x.sp.length sc)),.int .i64 0]) (results_box Tryz.results75 rfl rfl hres) rfl ?_;exact HEnd.out
   |cons z0 zs=>
    have hneq:(P.toList == s.toList)=false:=by
     cases hq:(P.toList == s.toList) with
     |false=>rfl
     |true=>
      exfalso
      have h1:P=s:=by
       have h:=beq_iff_eq.1 hq;rw[ByteArray.toList_eq,ByteArray.toList_eq] at h;exact ByteArray.ext (Array.toList_inj.1 h)
      have h2:=congrArg List.length HS.out;rw[←h1,HP.out,hzc] at h2;simp at h2
    obtain⟨x1,x2,x3,x4,x5,x6⟩:=HW.out w14 HB14.out;have HTh:=Lh x5.there;have HSt:=Lh (x5.sets zeroFr nl nl nl);have HBel:=Lh x6;clear x1 x2 x3 x4 x5 x6 HW HOw HB14;go_wp2_with (refine wpList_store_mid rfl 52 _ _ rfl n 0 (zeroFr.arr nl nl nl) rfl rfl HTh.out (fz_size _ _ _ _) (by kernel_rfl) ?_);obtain⟨hV,hm⟩:=HSt.out;generalize w14.setCells n 0 (zeroFr.arr nl nl nl).toList=V at*;have hbV:=Mod.below HBel.out hm (by rw[←HNn.out];have:=HBel.out.size;omega) fun i _ e=>by omega
    have hend:=HPost.out (.returned (.tuple #[.agg (zeroFr.arr nl nl nl),.int .i64 7])) V hbV (.inr ⟨by rw[hzc];simp,rfl⟩);have hres:=hV.result;have HEnd:=Lh hend;clear hend hbV hm hV HPost HSt HBel HTh;refine bodyPost_ret (v:=.tuple #[.agg (zeroFr.arr nl nl nl),.int .i64 7]) (results_box Tryz.results75 rfl rfl hres) rfl ?_;exact HEnd.out
end Go.Proofs.YtehihecknhcggaaGreat.Fz
