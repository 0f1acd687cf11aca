/- EnvW, EnvN, Reg, RegT, RspF, Renv, NicD in one text. -/
import Derived.Test.YtehihecknhcggaaGreatFtInsW
import Derived.Deep.MidRow
import Derived.Test.YtehihecknhcggaaGreatFtPag
import Derived.Test.YtehihecknhcggaaGreatFtBase
import Derived.Deep.RegionHeld3
import Derived.Deep.RegionWith
import Derived.Test.YtehihecknhcggaaGreatProg
import Derived.WalkSpells
import Derived.WalkLawsBesides
import Derived.RegionTactic
import Derived.ChangeAlike
import Derived.BigRegion
import Derived.WalkSmall
import Derived.Test.YtehihecknhcggaaGreatFtCor
import Derived.LoopTactic
import Derived.Outline
import Derived.Test.YtehihecknhcggaaGreatFtZa
set_option linter.unusedVariables false
set_option linter.unusedSimpArgs false
set_option maxRecDepth 100000
set_option maxHeartbeats 16000000
open Go.Proofs.Tryz
namespace Go.Proofs.YtehihecknhcggaaGreat
open Go.RowKit Word
namespace Ev
section
variable {w:World} {a:EAt} {E:En}
theorem cells(h:Env w a E):w.cell? ⟨a.eb,0,none⟩=some (.pointer (some ⟨a.sb,0,none⟩))∧w.cell? ⟨a.eb,1,none⟩=some a.lv∧w.cell? ⟨a.eb,2,none⟩=some (.pointer (some ⟨a.cb,0,none⟩))∧w.cell? ⟨a.eb,3,none⟩=some (.int .i64 E.num)∧w.cell? ⟨a.eb,4,none⟩=some (.int .u8 E.kind)∧w.cell? ⟨a.eb,5,none⟩=some (.int .u32 E.code)∧w.cell? ⟨a.eb,6,none⟩=some (.int .i64 E.why)∧w.cell? ⟨a.eb,7,none⟩=some (.string E.text):=
 ⟨h.cell 0 _ rfl,h.cell 1 _ rfl,h.cell 2 _ rfl,h.cell 3 _ rfl,h.cell 4 _ rfl,h.cell 5 _ rfl,h.cell 6 _ rfl,h.cell 7 _ rfl⟩
theorem ready(h:Env w a E):Calls Tryz.prog 202 #[.pointer (some ⟨a.eb,0,none⟩)] w fun e w'=>e=.returned (.int .i64 E.redE)∧w=w':=by
 obtain⟨_,_,_,_,c4,_,_,_⟩:=cells h;clear h
 by_cases hk:E.kind=2
 ·have e:E.redE=0:=by unfold En.redE;rw[if_neg (by omega)]
  rw[e];rw[hk] at c4;clear e;go_enter func202,ntmps202;go_wp2;go_ret;exact⟨rfl,rfl⟩
 ·have e:E.redE=3:=by unfold En.redE;rw[if_pos hk]
  rw[e];have hb:(E.kind != 2)=true:=bne_iff_ne.2 hk;go_enter func202,ntmps202;go_wp2;go_ret;exact⟨rfl,rfl⟩
theorem num(h:Env w a E):Calls Tryz.prog 79 #[.pointer (some ⟨a.eb,0,none⟩)] w fun e w'=>e=.returned (.int .i64 E.num)∧w=w':=by
 obtain⟨_,_,_,c3,_,_,_,_⟩:=cells h;clear h;go_enter func79,ntmps79;go_wp2;go_ret;exact⟨rfl,rfl⟩
theorem space(h:Env w a E):Calls Tryz.prog 92 #[.pointer (some ⟨a.eb,0,none⟩)] w fun e w'=>e=.returned (.pointer (some ⟨a.sb,0,none⟩))∧w=w':=by
 obtain⟨c0,_⟩:=cells h;clear h;go_enter func92,ntmps92;go_wp2;go_ret;exact⟨rfl,rfl⟩
theorem cpu(h:Env w a E):Calls Tryz.prog 76 #[.pointer (some ⟨a.eb,0,none⟩)] w fun e w'=>e=.returned (.pointer (some ⟨a.cb,0,none⟩))∧w=w':=by
 obtain⟨_,_,c2,_⟩:=cells h;clear h;go_enter func76,ntmps76;go_wp2;go_ret;exact⟨rfl,rfl⟩
theorem console(h:Env w a E):Calls Tryz.prog 103 #[.pointer (some ⟨a.eb,0,none⟩)] w fun e w'=>e=.returned (.string E.text)∧w=w':=by
 obtain⟨_,_,_,_,_,_,_,c7⟩:=cells h;clear h;go_enter func103,ntmps103;go_wp2;go_ret;exact⟨rfl,rfl⟩
theorem state(h:Env w a E):Calls Tryz.prog 102 #[.pointer (some ⟨a.eb,0,none⟩)] w fun e w'=>e=.returned (.agg #[.int .u8 E.kind,.int .u32 E.code,.int .i64 E.why])∧Below w.heap.size w w':=by
 have hb:Below w.heap.size w (w.alloc (.cells #[.int .u8 0,.int .u32 0,.int .i64 0] 195)):=Ba _;obtain⟨_,_,_,_,c4,c5,c6,_⟩:=cells (h.below hb);have HF:Hid (Below w.heap.size w (w.alloc (.cells #[.int .u8 E.kind,.int .u32 E.code,.int .i64 E.why] 195))):=Lh (Ba _);clear h hb;go_enter func102,ntmps102;go_wp2;refine bodyPost_ret (v:=.agg #[.int .u8 E.kind,.int .u32 E.code,.int .i64 E.why]) (by simp[results,Tryz.results102,go_sem, *]) rfl ?_;exact⟨rfl,HF.out⟩
theorem exit(h:Env w a E)(c:Int):Calls Tryz.prog 215 #[.pointer (some ⟨a.eb,0,none⟩),.int .u32 c] w fun e w'=>e=.returned (.int .i64 E.redE)∧EStep w w' a E a (E.exit c):=by
 have HR:=Lh (ready h)
 by_cases hk:E.kind=2
 ·have e:E.redE=0:=by unfold En.redE;rw[if_neg (by omega)]
  have e2:E.exit c= {E with kind:=3,code:=c,why:=0}:=by unfold En.exit;rw[if_neg (by omega)]
  have HS:=Lh (EStep.setState h 3 c 0);obtain⟨_,_,_,_,c4,c5,c6,_⟩:=cells h;have f4:=h.free 4;have f5:=h.free 5;have f6:=h.free 6;rw[e] at HR⊢;rw[e2];clear e e2 hk h;go_enter func215,ntmps215;go_wp2_with fail;refine HR.out.mono ?_;rintro e w2 ⟨rfl,rfl⟩;go_wp2;go_ret;exact⟨rfl,HS.out⟩
 ·have e:E.redE=3:=by unfold En.redE;rw[if_pos hk]
  have e2:E.exit c=E:=by unfold En.exit;rw[if_pos hk]
  have HS:=Lh (EStep.refl h);rw[e] at HR⊢;rw[e2];clear e e2 hk h;go_enter func215,ntmps215;go_wp2_with fail;refine HR.out.mono ?_;rintro e w2 ⟨rfl,rfl⟩;go_wp2;go_ret;exact⟨rfl,HS.out⟩
theorem may(h:Env w a E)(x:Int)(x0:0≤x)(x1:x≤4294967295):Calls Tryz.prog 198 #[.pointer (some ⟨a.eb,0,none⟩),.int .u32 x] w fun e w'=>e=.returned (.int .i64 (E.mayE x))∧Below w.heap.size w w':=by
 have HR:=Lh fun w' (hb:Below w.heap.size w w')=>ready (h.below hb)
 have HB:=Lh (Below.refl w.heap.size w)
 by_cases hk:E.kind=2
 ·have e:E.redE=0:=by unfold En.redE;rw[if_neg (by omega)]
  have e2:E.mayE x=if En.mayP x=false then 2 else 0:=by unfold En.mayE;rw[if_neg (by omega)]
  rw[e] at HR;rw[e2];clear e e2 hk h
  by_cases g1:x % 256=0
  ·by_cases g2:x<256
   ·have e:En.mayP x=false:=by unfold En.mayP;simp[g1];omega
    rw[if_pos e];clear e;go_enter func198,ntmps198;go_wp2_with fail;refine(HR.out _ HB.out).mono ?_;rintro e w2 ⟨rfl,rfl⟩;go_wp2;go_ret;exact⟨rfl,HB.out⟩
   ·by_cases g3:1048576≤x
    ·have e:En.mayP x=false:=by unfold En.mayP;simp[g1];omega
     rw[if_pos e];clear e;go_enter func198,ntmps198;go_wp2_with fail;refine(HR.out _ HB.out).mono ?_;rintro e w2 ⟨rfl,rfl⟩;go_wp2;go_ret;exact⟨rfl,HB.out⟩
    ·have e:¬En.mayP x=false:=by unfold En.mayP;simp[g1];omega
     rw[if_neg e];clear e;go_enter func198,ntmps198;go_wp2_with fail;refine(HR.out _ HB.out).mono ?_;rintro e w2 ⟨rfl,rfl⟩;go_wp2;go_ret;exact⟨rfl,HB.out⟩
  ·have e:En.mayP x=false:=by unfold En.mayP;simp[g1]
   rw[if_pos e];have g1b:(x % 256 != 0)=true:=bne_iff_ne.2 g1;clear e;go_enter func198,ntmps198;go_wp2_with fail;refine(HR.out _ HB.out).mono ?_;rintro e w2 ⟨rfl,rfl⟩;go_wp2;go_ret;exact⟨rfl,HB.out⟩
 ·have e:E.redE=3:=by unfold En.redE;rw[if_pos hk]
  have e2:E.mayE x=3:=by unfold En.mayE;rw[if_pos hk]
  rw[e] at HR;rw[e2];clear e e2 hk h;go_enter func198,ntmps198;go_wp2_with fail;refine(HR.out _ HB.out).mono ?_;rintro e w2 ⟨rfl,rfl⟩;go_wp2;go_ret;exact⟨rfl,HB.out⟩
end
end Ev
open Go.RowKit Word
namespace Ev
section
variable {w:World} {a:EAt} {E:En}
theorem reg_bad{cb:Nat}(w:World)(n:Int)(hn:n<0∨16≤n):Calls Tryz.prog 185 #[.pointer (some ⟨cb,0,none⟩),.int .i64 n] w fun e w'=>e=.returned (.tuple #[.int .u32 0,.int .i64 2])∧w=w':=by
 cases g0:decide (n<0) with
 |true=>
  go_enter func185,ntmps185;go_wp2;go_ret2;exact⟨rfl,rfl⟩
 |false=>
  have g1:decide ((16:Int)≤n)=true:=decide_eq_true (by have:=of_decide_eq_false g0;omega);go_enter func185,ntmps185;go_wp2;go_ret2;exact⟨rfl,rfl⟩
theorem own(h:Env w a E):Calls Tryz.prog 105 #[.pointer (some ⟨a.eb,0,none⟩)] w fun e w'=>∃v,e=.returned v∧Sl.Lst w' v E.own∧(∀b,v.ownBlock=some b→w.heap.size≤b)∧Below w.heap.size w w':=by
 obtain⟨_,c1,_⟩:=cells h;have HC:=Lh (Sl.clone h.ls h.ok.len);obtain⟨lv,hlv⟩:∃lv,a.lv=lv:=⟨_,rfl⟩;rw[hlv] at c1 HC;clear h hlv;go_enter func105,ntmps105;go_wp2_with fail;refine HC.out.mono ?_;rintro e w2 ⟨v,rfl,h1,h2,h3⟩;have HP:=Lh (⟨h1,h2,h3⟩:Sl.Lst w2 v E.own∧(∀b,v.ownBlock=some b→w.heap.size≤b)∧Below w.heap.size w w2);clear h1 h2 h3;go_wp2;go_ret;exact⟨v,rfl,HP.out⟩
theorem arg(h:Env w a E)(n:Int)(n0: -9223372036854775808≤n)(n1:n≤9223372036854775807):Calls Tryz.prog 77 #[.pointer (some ⟨a.eb,0,none⟩),.int .i64 n] w fun e w'=>e=.returned (.int .u32 (E.arg n))∧w=w':=by
 obtain⟨_,_,c2,_⟩:=cells h;have HR:Hid (Calls Tryz.prog 185 #[.pointer (some ⟨a.cb,0,none⟩),.int .i64 n] w fun e w'=>∃y,e=.returned (.tuple #[.int .u32 (E.arg n),.int .i64 y])∧w=w'):=by
  unfold En.arg
  by_cases g:0≤n∧n<16
  ·rw[if_pos g];obtain⟨m,rfl⟩:=Int.eq_ofNat_of_zero_le g.1;exact Lh ((Cp.reg_ok h.cp m (by omega)).mono fun e w' ⟨g1,g2⟩=>⟨0,g1,g2⟩)
  ·rw[if_neg g];exact Lh ((reg_bad w n (by omega)).mono fun e w' ⟨g1,g2⟩=>⟨2,g1,g2⟩)
 generalize E.arg n=v at*;clear h;go_enter func77,ntmps77;go_wp2_with fail;refine HR.out.mono ?_;rintro e w2 ⟨y,rfl,rfl⟩;go_wp2;go_ret;exact⟨rfl,rfl⟩
theorem put(h:Env w a E)(s:ByteArray)(hs:s.size≤140737488355328):Calls Tryz.prog 94 #[.pointer (some ⟨a.eb,0,none⟩),.string s] w fun e w'=>e=.returned (.int .i64 (E.putE s))∧EStep w w' a E a (E.put s):=by
 have HR:=Lh (ready h);obtain⟨_,_,_,_,_,_,_,c7⟩:=cells h;have ht:=h.ok.text
 by_cases hk:E.kind=2
 ·have e:E.redE=0:=by unfold En.redE;rw[if_neg (by omega)]
  rw[e] at HR
  by_cases hl:4096<E.text.size+s.size
  ·have e2:E.putE s=4:=by unfold En.putE;rw[if_neg (by omega),if_pos hl]
   have e3:E.put s=E:=by unfold En.put;rw[e2,if_pos (by omega)]
   have HS:=Lh (EStep.refl h);rw[e2,e3];have hlb:(4096:Int)<E.text.size+s.size:=by omega
   clear e e2 e3 hk h;go_enter func94,ntmps94;go_wp2_with fail;refine HR.out.mono ?_;rintro e w2 ⟨rfl,rfl⟩;go_wp2;go_ret;exact⟨rfl,HS.out⟩
  ·have e2:E.putE s=0:=by unfold En.putE;rw[if_neg (by omega),if_neg hl]
   have e3:E.put s= {E with text:=E.text++s}:=by unfold En.put;rw[e2,if_neg (by omega)]
   have HS:=Lh (EStep.setText h (E.text++s) (by rw[ByteArray.size_append];omega));have f7:=h.free 7;rw[e2,e3];have hlb:¬(4096:Int)<E.text.size+s.size:=by omega
   clear e e2 e3 hk h;go_enter func94,ntmps94;go_wp2_with fail;refine HR.out.mono ?_;rintro e w2 ⟨rfl,rfl⟩;go_wp2;go_ret;exact⟨rfl,HS.out⟩
 ·have e:E.redE=3:=by unfold En.redE;rw[if_pos hk]
  have e2:E.putE s=3:=by unfold En.putE;rw[if_pos hk]
  have e3:E.put s=E:=by unfold En.put;rw[e2,if_pos (by omega)]
  have HS:=Lh (EStep.refl h);rw[e] at HR;rw[e2,e3];clear e e2 e3 hk h;go_enter func94,ntmps94;go_wp2_with fail;refine HR.out.mono ?_;rintro e w2 ⟨rfl,rfl⟩;go_wp2;go_ret;exact⟨rfl,HS.out⟩
end
end Ev
open Go.RowKit Word
theorem isSome_addr{B:List Pg}{x:Int}:(atAddr B x).isSome=true↔x∈B.map Pg.addr:=by
 rw[List.mem_map]
 constructor
 ·intro g;obtain⟨p,hp⟩:=Option.isSome_iff_exists.1 g;exact⟨p,(atAddr_mem hp).1,(atAddr_mem hp).2⟩
 ·rintro⟨p,hp,rfl⟩;cases hq:atAddr B p.addr with
  |some _=>rfl
  |none=>exact absurd rfl (atAddr_none hq p hp)
theorem En.mayP_iff{x:Int}:En.mayP x=true↔x % 256=0∧256≤x∧x<1048576:=by
 unfold En.mayP;simp[and_assoc]
theorem En.mayE_zero{E:En}{x:Int}(h:E.mayE x=0):E.kind=2∧En.mayP x=true:=by
 unfold En.mayE at h
 by_cases g:E.kind=2
 ·rw[if_neg (by omega)] at h;cases hm:En.mayP x with
  |true=>exact⟨g,rfl⟩
  |false=>rw[hm,if_pos rfl] at h;omega
 ·rw[if_pos g] at h;omega
theorem En.Ok.map{E:En}(h:E.Ok){x:Int}(blk:Nat)(hm:Sp.mapE E.A x 3=0):∀y,y∈E.own→(atAddr (Sp.mapA E.A x blk 3) y).isSome=true:=fun y hy=>by
 have:=isSome_addr.1 (h.has y hy);rw[List.mem_map] at this;obtain⟨p,hp,hpy⟩:=this;refine isSome_addr.2 (List.mem_map.2 ⟨p, ?_,hpy⟩);unfold Sp.mapA;rw[if_pos hm];exact mem_insPg.2 (.inr hp)
theorem En.Ok.page{E:En}(h:E.Ok){x:Int}(blk:Nat)(hp:En.mayP x=true)(hm:Sp.mapE E.A x 3=0):x∉E.own∧({E with A:=Sp.mapA E.A x blk 3,own:=En.ins x E.own}:En).Ok:=by
 have hx:=En.mayP_iff.1 hp;have hn:x∉E.own:=fun g=>by
  have hs:=h.has x g;unfold Sp.mapE at hm
  by_cases q:Sp.mayB x=false∨(7:Int)<3
  ·rw[if_pos q] at hm;omega
  ·rw[if_neg q] at hm;have:pageAt E.A x=atAddr E.A x:=by unfold pageAt;rw[hx.1,Int.sub_zero]
   rw[this,if_pos hs] at hm;omega
 refine⟨hn,En.up_ins h.up hn,fun y hy=> ?_,fun y hy=> ?_,h.text⟩
 ·rcases En.mem_ins.1 hy with rfl|g
  ·exact hx
  ·exact h.may y g
 ·rcases En.mem_ins.1 hy with rfl|g
  ·refine isSome_addr.2 (List.mem_map.2 ⟨pgNew y blk 3, ?_,rfl⟩);unfold Sp.mapA;rw[if_pos hm];exact mem_insPg.2 (.inl rfl)
  ·exact h.map blk hm y g
namespace Ev
section
variable {w:World} {a:EAt} {E:En}
theorem page(h:Env w a E)(x:Int)(x0:0≤x)(x1:x≤4294967295):Calls Tryz.prog 91 #[.pointer (some ⟨a.eb,0,none⟩),.int .u32 x] w fun e w'=>∃blk lv,e=.returned (.int .i64 (E.pageE x))∧EStep w w' a E {a with lv:=lv} (E.page x blk):=by
 have HM:=Lh (may h x x0 x1)
 by_cases hm:E.mayE x=0
 ·obtain⟨hk,hp⟩:=En.mayE_zero hm;have hpe:E.pageE x=Sp.mapE E.A x 3:=by unfold En.pageE;rw[if_neg (by omega)]
  rw[hm] at HM;have HMap:Hid (∀V,Below w.heap.size w V→Calls Tryz.prog 86 #[.pointer (some ⟨a.sb,0,none⟩),.int .u32 x,.int .u8 3] V fun e w'=>∃blk,e=.returned (.int .i64 (Sp.mapE E.A x 3))∧SStep V w' a.sb a.mb E.A (Sp.mapA E.A x blk 3)):=Lh fun V hV=>Sp.s_map (h.below hV).sp x 3 x0 x1 (by omega) (by omega)
  have HV:=Lh fun V (hV:Below w.heap.size w V)=>EStep.of_below h hV
  by_cases he:Sp.mapE E.A x 3=0
  ·have e2:∀blk,E.page x blk= {E with A:=Sp.mapA E.A x blk 3,own:=En.ins x E.own}:=fun blk=>by unfold En.page;rw[hpe,if_neg (by omega)]
   have HO:Hid (∀blk,x∉E.own∧({E with A:=Sp.mapA E.A x blk 3,own:=En.ins x E.own}:En).Ok):=Lh fun blk=>h.ok.page blk hp he
   have HH:=Lh fun blk=>h.ok.map blk he
   have HOk:=Lh h.ok;simp only[e2];rw[hpe];rw[he] at HMap⊢;clear e2 hpe he hp hk hm h;go_enter func91,ntmps91;go_wp2_with fail;refine HM.out.mono ?_;rintro e w2 ⟨rfl,hb2⟩;have HS2:=Lh (HV.out w2 hb2);obtain⟨c0,_⟩:=cells (HV.out w2 hb2).env;have HMp:=Lh (HMap.out w2 hb2);clear hb2 HM HMap HV;go_wp2_with fail;refine HMp.out.mono ?_;rintro e w3 ⟨blk,rfl,hs3⟩;have hE3:=EStep.space HS2.out.env hs3 (HH.out blk);have HS3:=Lh (HS2.out.trans hE3);obtain⟨_,c1,_⟩:=cells hE3.env;have hls:=hE3.env.ls;simp only at c1 hls;obtain⟨ao,cap,hlv,hws⟩:=hls.words HOk.out.len;have HLs:=Lh hls;have HBS:=Lh (Sl.bsearch (cap:=cap) hws x HOk.out.up HOk.out.len);have HLe:=Lh hE3.env.le;have HLv:=Lh hlv;rw[hlv] at c1;clear hE3 hs3 hls hlv hws c0 HMp HH HS2;go_wp2_with fail;refine HBS.out.mono ?_;rintro e w4 ⟨k,hpl,rfl,rfl⟩;have HPl:=Lh hpl;clear HBS hpl;generalize decide (E.own[k]? =some x)=bb at*;have hbb:Below w4.heap.size w4 (w4.alloc (.cells #[.int .u32 x] 41)):=Ba _;have hl5:Sl.Lst (w4.alloc (.cells #[.int .u32 x] 41)) a.lv E.own:=HLs.out.frame fun g hg=>hbb.block _ (HLe.out g hg).1
   have hin:=Sl.insert hl5 x k HPl.out.le HOk.out.len w4.heap.size (heap_alloc_new w4 _) (fun e=>by have hle:=HLe.out;exact absurd (hle _ e).1 (Nat.lt_irrefl _));rw[HLv.out] at hin;have HIn:=Lh hin;have HB5:=Lh hbb;clear hin hl5 hbb;go_wp2_with fail;refine HIn.out.mono ?_;rintro e w6 ⟨v6,rfl,hl6,hm6,hv6⟩;rw[←HLv.out] at hm6 hv6;have hm46:Mod (fun b=>a.lv.ownBlock=some b) w4 w6:=(Mod.of_below HB5.out _).same hm6;rw[En.ins_place HPl.out (HO.out blk).1] at hl6;obtain⟨a6,cap6,rfl⟩:=SlV.form hl6;have hst:=EStep.list HS3.out.env (own:=En.ins x E.own) hl6 hm46 (fun b hb=>by
    refine⟨?_,(hv6 b hb).imp id fun g=>Nat.le_trans HB5.out.size g⟩;obtain⟨g,q1,q2⟩:=SlV.lt hl6 (by
     have:x∈En.ins x E.own:=En.mem_ins.2 (.inl rfl);exact List.length_pos_of_mem this)
    rw[q1] at hb
    injection hb with hb
    omega) (HO.out blk).2
   have he6:=(hm46.block _ (lQ HS3.out.env.blk) (fun g=>(HLe.out _ g).2.1 rfl)).trans HS3.out.env.blk;have c16:w6.cell? ⟨a.eb,1,none⟩=some a.lv:=by
    unfold World.cell?;rw[he6];rfl
   have f16:w6.frozen? ⟨a.eb,1,none⟩=false:=by
    unfold World.frozen?;rw[he6]
    simp
   clear he6;have HFin:=Lh (HS3.out.trans hst);clear hm6 hv6 hm46 hl6 hst HIn;go_wp2;go_ret;exact⟨blk,_,rfl,HFin.out⟩
  ·have e2:∀blk,E.page x blk=E:=fun blk=>by unfold En.page;rw[hpe,if_pos he]
   have HSp:Hid (∀blk,Sp.mapA E.A x blk 3=E.A):=Lh fun blk=>by unfold Sp.mapA;rw[if_neg he]
   have HOk:=Lh h.ok;simp only[e2];rw[hpe];generalize Sp.mapE E.A x 3=r at*;have heb:(r != 0)=true:=bne_iff_ne.2 he;clear e2 hpe hp hk hm h;go_enter func91,ntmps91;go_wp2_with fail;refine HM.out.mono ?_;rintro e w2 ⟨rfl,hb2⟩;have HS2:=Lh (HV.out w2 hb2);obtain⟨c0,_⟩:=cells (HV.out w2 hb2).env;have HMp:=Lh (HMap.out w2 hb2);clear hb2 HM HMap HV;go_wp2_with fail;refine HMp.out.mono ?_;rintro e w3 ⟨blk,rfl,hs3⟩;rw[HSp.out blk] at hs3;have HS3:=Lh (HS2.out.trans (EStep.space HS2.out.env hs3 HOk.out.has));clear hs3;go_wp2;go_ret;exact⟨0,a.lv,rfl,HS3.out⟩
 ·have hpe:E.pageE x=E.mayE x:=by unfold En.pageE;rw[if_pos hm]
  have e2:∀blk,E.page x blk=E:=fun blk=>by unfold En.page;rw[hpe,if_pos hm]
  have HV:=Lh fun V (hV:Below w.heap.size w V)=>EStep.of_below h hV
  simp only[e2];rw[hpe];generalize E.mayE x=r at*;have heb:(r != 0)=true:=bne_iff_ne.2 hm;clear e2 hpe h;go_enter func91,ntmps91;go_wp2_with fail;refine HM.out.mono ?_;rintro e w2 ⟨rfl,hb2⟩;have HS2:=Lh (HV.out w2 hb2);clear hb2;go_wp2;go_ret;exact⟨0,a.lv,rfl,HS2.out⟩
end
end Ev
open Go.RowKit Word
def En.new(num pc:Int)(A:List Pg):En:=⟨num,2,0,0,ByteArray.empty,[],A,List.replicate 16 0,pc⟩
def NewPost(w:World)(A:List Pg)(num pc:Int)(e:Ending)(w':World):Prop:=
 ∃a C,e=.returned (.tuple #[.pointer (some ⟨a.eb,0,none⟩),.int .i64 0])∧Env w' a (En.new num pc C)∧cores C=cores A∧(∀k,a.foot C k→w.heap.size≤k)∧Below w.heap.size w w'
namespace Ev
section
variable {w:World} {sb mb:Nat} {A:List Pg}
theorem new(h:Spc w sb mb A)(num pc:Int)(n0:1≤num)(n1:num≤8)(p0:0≤pc)(p1:pc≤4294967295):Calls Tryz.prog 90 #[.int .i64 num,.pointer (some ⟨sb,0,none⟩),.int .u32 pc] w (NewPost w A num pc):=by
 have HC:=Lh (Sp.copy h);have g1:¬num<1:=by omega
 have g2:¬8<num:=by omega
 have HFin:Hid (∀so mo C w2 w3,Spc w2 so mo C→cores C=cores A→(∀k,Spc.foot so mo C k→w.heap.size≤k)→Below w.heap.size w w2→Cpu 326 w3 w2.heap.size (List.replicate 16 0) pc→Below w2.heap.size w2 w3→
   NewPost w A num pc (.returned (.tuple #[.pointer (some ⟨w3.heap.size,0,none⟩),.int .i64 0])) (w3.alloc (.cells #[.pointer (some ⟨so,0,none⟩),.slice none 0 0,.pointer (some ⟨w2.heap.size,0,none⟩),.int .i64 num,.int .u8 2,.int .u32 0,.int .i64 0,.string ByteArray.empty] 322))):=Lh fun so mo C w2 w3 hs hc hf hb hp hb3=>by
  have hz:=hb.size;have hz3:=hb3.size;have hpl:=hp.lt;have hba:Below w3.heap.size w3 (w3.alloc (.cells #[.pointer (some ⟨so,0,none⟩),.slice none 0 0,.pointer (some ⟨w2.heap.size,0,none⟩),.int .i64 num,.int .u8 2,.int .u32 0,.int .i64 0,.string ByteArray.empty] 322)):=Ba _;refine⟨⟨w3.heap.size,so,mo,w2.heap.size,.slice none 0 0⟩,C,rfl, ?_,hc,fun k hk=> ?_, ?_⟩
  ·exact {blk:=heap_alloc_new w3 _,cp:=hp.below hba,sp:=(hs.below hb3 fun k hk=>hs.lt hk).below hba fun k hk=>Nat.lt_of_lt_of_le (hs.lt hk) hz3,ls:=Sl.Lst.nil _,ec:=by show w3.heap.size≠w2.heap.size;omega,es:=fun g=>absurd (hs.lt g) (Nat.not_lt.2 hz3),cs:=fun g=>Nat.lt_irrefl _ (hs.lt g),le:=fun g hg=>(nomatch hg),ok:=⟨List.Pairwise.nil,fun x hx=>(nomatch hx),fun x hx=>(nomatch hx),Nat.zero_le _⟩}
  ·rcases hk with g|g|g|g
   ·rw[g];show w.heap.size≤w3.heap.size;omega
   ·rw[g];exact hz
   ·exact hf k g
   ·cases g
  ·exact(hb.trans (hb3.mono hz)).alloc (Nat.le_trans hz hz3) _
 generalize NewPost w A num pc=PQ at*;clear h;go_enter func90,ntmps90;go_wp2_with fail;refine HC.out.mono ?_;rintro e w2 ⟨so,mo,C,rfl,hs,hc,hf,hb⟩;have HS:=Lh (⟨hs,hc,hf,hb⟩:Spc w2 so mo C∧cores C=cores A∧(∀k,Spc.foot so mo C k→w.heap.size≤k)∧Below w.heap.size w w2);clear hs hc hf hb;go_wp2_with fail;refine(Cp.new pc p0 p1 w2).mono ?_;rintro e w3 ⟨rfl,hp,hb3⟩;have HP:=Lh (⟨hp,hb3⟩:_∧_);clear hp hb3;go_wp2;exact HFin.out so mo C w2 w3 HS.out.1 HS.out.2.1 HS.out.2.2.1 HS.out.2.2.2 HP.out.1 HP.out.2
end
end Ev
open Go.RowKit
section
variable {P:Program} {ops:Array Oper} {Q:Exit→Act→World→Prop} {md:Region.Mode} {S:World→Prop} {last:Nat}
def waitsFor(md:Region.Mode)(ops:Array Oper)(last i:Nat):Bool:=match ops[last]? with|some o=>o.after.any fun e=>Region.binds md e&&e.on == i|none=>false
def AnyE(P:Program)(md:Region.Mode)(ops:Array Oper)(Q:Exit→Act→World→Prop)(S:World→Prop)(last:Nat):Nat→Array Bool→Act→World→Prop
 |0,listed,a,w=>Region.ready md ops listed=[]∧Q .normal a w
 |fuel+1,listed,a,w=>
  (Region.ready md ops listed=[]→Q .normal a w)∧
  ∀i∈Region.ready md ops listed,wpOp P ops Q i (fun a' w'=>(i≠last→S w')∧AnyE P md ops Q S last fuel (listed.setIfInBounds i true) a' w') a w
theorem any_of_E:∀(fuel:Nat) (listed:Array Bool) (a:Act) (w:World),AnyE P md ops Q S last fuel listed a w→wpAny P md ops Q fuel listed a w
 |0,_,_,_,h=>h
 |fuel+1,_,_,_,h=>⟨h.1,fun i hi=>wpOp_mono (fun a' w' h'=>any_of_E fuel _ a' w' h'.2) (h.2 i hi)⟩
theorem last_waits{i:Nat}(hw:waitsFor md ops last i=true){listed:Array Bool}(hi:i∈Region.ready md ops listed){j:Nat}(hj:j∈Region.ready md ops listed):j≠last:=by
 rintro rfl;obtain⟨_,oj,hoj,hall⟩:=mem_ready.1 hj;unfold waitsFor at hw;rw[hoj] at hw;simp only[Array.any_eq_true'] at hw;obtain⟨e,he,hb⟩:=hw;simp only[Bool.and_eq_true,beq_iff_eq] at hb;have h1:=hall e he hb.1;have h0:=(mem_ready.1 hi).1;rw[hb.2] at h1;rcases Nat.lt_or_ge i listed.size with h'|h'
 ·simp[h'] at h0 h1;rw[h0] at h1;cases h1
 ·simp[Array.getElem?_eq_none h'] at h1
theorem E_first{i:Nat}{oi:Oper}{v:Value}(hi:ops[i]? =some oi)(hsel:∀(j:Nat) (o:Oper) cs b,ops[j]? =some o→o.op≠ .select cs b)
  (hQ:∀c a w,Q (.panic c) (a.put oi.dst v) w→Q (.panic c) a w) (hwt:waitsFor md ops last i=true):
  ∀(fuel:Nat) (listed:Array Bool) (a:Act) (w:World),
   (∀j oj,ops[j]? =some oj→j≠i→listed.getD j true=false→(∀e∈oj.after,Region.binds md e=true→e.on≠i)→oi.apart ops oj=true)→
   i∈Region.ready md ops listed→YieldsIf P ops S oi v a→S w→
   AnyE P md ops Q S last fuel (listed.setIfInBounds i true) (a.put oi.dst v) w→AnyE P md ops Q S last (fuel+1) listed a w:=by
 intro fuel
 induction fuel with
 |zero=>
  intro listed a w _ hr hy hS H;refine⟨fun h=>(by rw[h] at hr;cases hr),fun j hj=> ?_⟩
  by_cases hji:j=i
  ·subst hji;exact hy.wpOp hi hS ⟨fun _=>hS,H⟩
  ·have:=ready_mono hj hji;rw[H.1] at this;cases this
 |succ fuel ih=>
  intro listed a w hfree hr hy hS H;refine⟨fun h=>(by rw[h] at hr;cases hr),fun j hj=> ?_⟩
  by_cases hji:j=i
  ·subst hji;exact hy.wpOp hi hS ⟨fun _=>hS,H⟩
  ·have hjl:=last_waits hwt hr hj;have h1:=H.2 j (ready_mono hj hji);obtain⟨hjun,oj,hoj,hall⟩:=mem_ready.1 hj;have hnot:∀e∈oj.after,Region.binds md e=true→e.on≠i:=fun e he hb heq=>by
    have h1:=hall e he hb;have h0:=(mem_ready.1 hr).1;rw[heq] at h1;rcases Nat.lt_or_ge i listed.size with h'|h'
    ·simp[h'] at h0 h1;rw[h0] at h1;cases h1
    ·simp[Array.getElem?_eq_none h'] at h1
   have h2:=wpOp_putIf hoj (hfree j oj hoj hji hjun hnot) (fun cs b=>hsel i oi cs b hi) (fun cs b=>hsel j oj cs b hoj) hQ hy h1;have hfree':∀k ok,ops[k]? =some ok→k≠i→(listed.setIfInBounds j true).getD k true=false→
     (∀e∈ok.after,Region.binds md e=true→e.on≠i)→oi.apart ops ok=true:=fun k ok hk hki hun hno=>by
    refine hfree k ok hk hki ?_ hno
    by_cases hjk:j=k
    ·subst hjk;exact hjun
    ·rw[getD_set_ne true hjk] at hun;exact hun
   refine wpOp_mono (fun a' w' h3=>⟨h3.2.1,ih (listed.setIfInBounds j true) a' w' hfree' (ready_mono hr (Ne.symm hji)) h3.1 (h3.2.1 hjl) ?_⟩) h2;rw[Array.setIfInBounds_comm _ _ hji];exact h3.2.2
theorem E_take{i:Nat}{oi:Oper}{v:Value}{fuel:Nat}{listed:Array Bool}{a:Act}{w:World}(hi:ops[i]? =some oi)(hwt:waitsFor md ops last i=true)
  (hs:Region.noSelect ops=true) (hf:Region.free md ops listed i=true) (hr:(Region.ready md ops listed).contains i=true)
  (hQ:∀c a w,Q (.panic c) (a.put oi.dst v) w→Q (.panic c) a w) (hy:YieldsIf P ops S oi v a) (hS:S w)
  (h:AnyE P md ops Q S last fuel (listed.setIfInBounds i true) (a.put oi.dst v) w):AnyE P md ops Q S last (fuel+1) listed a w:=
 E_first hi (Region.noSelect_spec hs) hQ hwt fuel listed a w (Region.free_spec hi hf) (by simpa using hr) hy hS h
theorem E_step{i:Nat}{o:Oper}{fuel:Nat}{listed:Array Bool}{a:Act}{w:World}(hr:Region.ready md ops listed=[i])(ho:ops[i]? =some o)
  (h:∀K':Act→World→Prop,Shut (∀a w,(i≠last→S w)→((i≠last→S w)→AnyE P md ops Q S last fuel (listed.setIfInBounds i true) a w)→K' a w)→if Region.wanted o (yielded ops a.tmps)=true then Oper.wp P o a w K' Q else K' (a.put o.dst undef) w):
  AnyE P md ops Q S last (fuel+1) listed a w:=by
 refine⟨fun h0=>(by rw[h0] at hr;cases hr),fun j hj=> ?_⟩;rw[hr,List.mem_singleton] at hj;subst hj;exact wpOp_step ho (fun K' hK=>h K' (fun a w hS hW=>hK a w ⟨hS,hW hS⟩))
theorem E_done{listed:Array Bool}{a:Act}{w:World}(hr:Region.ready md ops listed=[])(h:Q .normal a w):∀fuel,AnyE P md ops Q S last fuel listed a w
 |0=>⟨hr,h⟩
 |_+1=>⟨fun _=>h,by rw[hr];simp⟩
theorem wp_region_E{id:Nat}{a:Act}{w:World}(S:World→Prop)(last:Nat)(hm:P.follows .mixedOrders=true)
  (h:AnyE P .any ops Q S last ops.size (Array.replicate ops.size false) a w.drew):(Code.region id ops true).wp P Q a w:=
 wp_region_any hm (any_of_E _ _ _ _ h)
end
section
variable {P:Program} {Q:Exit→Act→World→Prop} {md:Region.Mode} {S:World→Prop}
theorem T{l:List Oper}{oi:Oper}{v:Value}{fuel:Nat}{listed:Array Bool}{a a':Act}{w:World}(i:Nat)(hS:S w)
  (h:wpAnyH P md l.toArray Q S fuel (listed.setIfInBounds i true) a' w)
  (hi:l[i]? =some oi:=by rfl) (hs:Region.noSelect l.toArray=true:=by kernel_rfl) (hf:Region.free md l.toArray listed i=true:=by kernel_rfl) (hr:(Region.ready md l.toArray listed).contains i=true:=by kernel_rfl)
  (hw:Region.wanted oi (yielded l.toArray a.tmps)=true:=by rfl)
  (hy:∀W,S W→(execOp a.eval oi).run P W=.ok (.value v) W:=by intro W hW;(repeat (obtain⟨_,hW⟩:=hW));go_simp;try with_reducible rfl)
  (hQ:∀c a w,Q (.panic c) (a.put oi.dst v) w→Q (.panic c) a w:=by exact fun _ _ _ h=>h)
  (ha:a.put oi.dst v=a':=by simp only[Act.put,Za,Zb,Zc,Zd,Ze,Zf];rfl):wpAnyH P md l.toArray Q S (fuel+1) listed a w:=by
 subst ha;exact wpAnyH_take (by rw[List.getElem?_toArray];exact hi) hs hf hr hQ (Or.inl ⟨hw,hy⟩) hS h
theorem U{l:List Oper}{o:Oper}{fuel:Nat}{listed:Array Bool}{a:Act}{w:World}(i:Nat)
  (h:∀K':Act→World→Prop,Shut (∀a w,S w→(S w→wpAnyH P md l.toArray Q S fuel (listed.setIfInBounds i true) a w)→K' a w)→if Region.wanted o (yielded l.toArray a.tmps)=true then Oper.wp P o a w K' Q else K' (a.put o.dst undef) w)
  (hr:Region.ready md l.toArray listed=[i]:=by kernel_rfl) (ho:l[i]? =some o:=by rfl):
  wpAnyH P md l.toArray Q S (fuel+1) listed a w:=
 wpAnyH_ready hr (by simp) (AllReadyH.cons (by rw[List.getElem?_toArray];exact ho) h AllReadyH.nil)
theorem V{l:List Oper}{fuel:Nat}{listed:Array Bool}{a a':Act}{w:World}{K':Act→World→Prop}(hK:Shut (∀a w,S w→(S w→wpAnyH P md l.toArray Q S fuel listed a w)→K' a w))(hS:S w)
  (h:wpAnyH P md l.toArray Q S fuel listed a' w) (ha:a=a':=by first|(simp only[Act.put,Za,Zb,Zc,Zd,Ze,Zf];rfl)|rfl):K' a w:=by
 subst ha;exact hK.out _ _ hS fun _=>h
theorem B{l:List Oper}{id:Nat}{a:Act}{w:World}(S:World→Prop)(hS:S w.drew)
  (h:∀w',w'=w.drew→S w'→wpAnyH P .any l.toArray Q S l.toArray.size (Array.replicate l.toArray.size false) a w') (hm:P.follows .mixedOrders=true:=by kernel_rfl):(Code.region id l.toArray true).wp P Q a w:=
 wp_region_held hm (h _ rfl hS)
end
section
variable {P:Program} {Q:Exit→Act→World→Prop} {md:Region.Mode} {S:World→Prop} {last:Nat}
theorem LT{l:List Oper}{oi:Oper}{v:Value}{fuel:Nat}{listed:Array Bool}{a a':Act}{w:World}(i:Nat)(hS:S w)
  (h:AnyE P md l.toArray Q S last fuel (listed.setIfInBounds i true) a' w)
  (hi:l[i]? =some oi:=by rfl) (hwt:waitsFor md l.toArray last i=true:=by kernel_rfl) (hs:Region.noSelect l.toArray=true:=by kernel_rfl) (hf:Region.free md l.toArray listed i=true:=by kernel_rfl) (hr:(Region.ready md l.toArray listed).contains i=true:=by kernel_rfl)
  (hw:Region.wanted oi (yielded l.toArray a.tmps)=true:=by rfl)
  (hy:∀W,S W→(execOp a.eval oi).run P W=.ok (.value v) W:=by intro W hW;(repeat (obtain⟨_,hW⟩:=hW));go_simp;try with_reducible rfl)
  (hQ:∀c a w,Q (.panic c) (a.put oi.dst v) w→Q (.panic c) a w:=by exact fun _ _ _ h=>h)
  (ha:a.put oi.dst v=a':=by simp only[Act.put,Za,Zb,Zc,Zd,Ze,Zf];rfl):AnyE P md l.toArray Q S last (fuel+1) listed a w:=by
 subst ha;exact E_take (by rw[List.getElem?_toArray];exact hi) hwt hs hf hr hQ (Or.inl ⟨hw,hy⟩) hS h
theorem LU{l:List Oper}{o:Oper}{fuel:Nat}{listed:Array Bool}{a:Act}{w:World}(i:Nat)
  (h:∀K':Act→World→Prop,Shut (∀a w,(i≠last→S w)→((i≠last→S w)→AnyE P md l.toArray Q S last fuel (listed.setIfInBounds i true) a w)→K' a w)→if Region.wanted o (yielded l.toArray a.tmps)=true then Oper.wp P o a w K' Q else K' (a.put o.dst undef) w)
  (hr:Region.ready md l.toArray listed=[i]:=by kernel_rfl) (ho:l[i]? =some o:=by rfl):
  AnyE P md l.toArray Q S last (fuel+1) listed a w:=
 E_step hr (by rw[List.getElem?_toArray];exact ho) h
theorem LV{l:List Oper}{fuel i:Nat}{listed:Array Bool}{a a':Act}{w:World}{K':Act→World→Prop}(hK:Shut (∀a w,(i≠last→S w)→((i≠last→S w)→AnyE P md l.toArray Q S last fuel listed a w)→K' a w))(hS:i≠last→S w)
  (h:AnyE P md l.toArray Q S last fuel listed a' w) (ha:a=a':=by first|(simp only[Act.put,Za,Zb,Zc,Zd,Ze,Zf];rfl)|rfl):K' a w:=by
 subst ha;exact hK.out _ _ hS fun _=>h
theorem LB{l:List Oper}{id:Nat}{a:Act}{w:World}(S:World→Prop)(last:Nat)(hS:S w.drew)
  (h:∀w',w'=w.drew→S w'→AnyE P .any l.toArray Q S last l.toArray.size (Array.replicate l.toArray.size false) a w') (hm:P.follows .mixedOrders=true:=by kernel_rfl):(Code.region id l.toArray true).wp P Q a w:=
 wp_region_E S last hm (h _ rfl hS)
end
theorem setCell_same{w:World}{b i:Nat}{cs:Array Value}{e:TypeId}{f:Nat×Nat}{v:Value}(h:w.heap[b]? =some (.cells cs e f))(hv:cs[i]? =some v):w.setCell ⟨b,i,none⟩ v=w:=by
 have:(w.heap.modify b fun| .cells c elem frozen=>.cells (if(none:Option Nat).isSome then c else c.setIfInBounds i v) elem frozen|o=>o)=w.heap:=by
  apply Array.ext_getElem?
  intro k;rw[Array.getElem?_modify]
  split
  ·rename_i q
   subst q;rw[h];obtain⟨hi,hv'⟩:=Array.getElem?_eq_some_iff.1 hv;have:cs.setIfInBounds i v=cs:=by
    rw[Array.setIfInBounds,dif_pos hi,←hv'];exact Array.set_getElem_self hi
   simp[this]
  ·rfl
 show {w with heap:=_}=w
 cases w;exact congrArg (fun x=>World.mk x _ _ _ _) this
def rcores(R:List Rp):List (Int×Int×List Int):=cores (rpgs R)
theorem rcores_snoc(l:List Rp)(q:Rp):rcores (l++[q])=rcores l++[q.pg.core]:=by
 unfold rcores cores rpgs;rw[List.map_append,List.map_append];rfl
theorem up_of_cores{A B:List Pg}(h:cores A=cores B)(hB:B.Pairwise fun p q=>p.addr<q.addr):A.Pairwise fun p q=>p.addr<q.addr:=by
 have e:A.map (·.addr)=B.map (·.addr):=by
  have:=congrArg (List.map Prod.fst) h;unfold cores at this;rw[List.map_map,List.map_map] at this;exact this
 have h1:(B.map (·.addr)).Pairwise (·<·):=by rw[List.pairwise_map];exact hB
 rw[←e,List.pairwise_map] at h1;exact h1
namespace Rs
theorem cell_at1(W:World)(a:Obj)(x:Value)(t:TypeId):∀j u,[x][j]? =some u→((W.alloc a).alloc (.cells #[x] t)).cell? ((⟨W.heap.size+1,0,none⟩:Addr).add j)=some u:=by
 have:=cell_one_new (W.alloc a) x t
 simpa using this
def ccRel(w:World)(R:List Rp)(cb:Nat)(vi:Value)(wr:World):Prop:=
 ∃(i:Nat) (lvc:Value) (C:List Rp),vi=.int .i64 i∧i≤R.length∧C.length=i∧Rsp wr cb lvc C∧rcores C=rcores (R.take i)∧wr.ownsRow w.heap.size 352 1 lvc i (C.map Rp.ptr)∧(∀k,Rsp.foot cb lvc C k→w.heap.size≤k)∧Below w.heap.size w wr
def RCopyPost(w:World)(R:List Rp)(e:Ending)(w':World):Prop:=
 ∃(cb:Nat) (lvc:Value) (C:List Rp),e=.returned (.pointer (some ⟨cb,0,none⟩))∧Rsp w' cb lvc C∧rcores C=rcores R∧(∀k,Rsp.foot cb lvc C k→w.heap.size≤k)∧Below w.heap.size w w'
theorem copy_step{w wr w1 w3 w4:World}{R:List Rp}{cb i:Nat}{lvc v4:Value}{C:List Rp}{g1 cap1:Nat}{p:Rp}
  (hp:R[i]? =some p) (hpr:RPage wr p) (hsp:Rsp wr cb lvc C) (hCl:C.length=i) (hco:rcores C=rcores (R.take i)) (hown:wr.ownsRow w.heap.size 352 1 lvc i (C.map Rp.ptr)) (hft:∀k,Rsp.foot cb lvc C k→w.heap.size≤k) (hbw:Below w.heap.size w wr)
  (hup:(rpgs R).Pairwise fun p q=>p.addr<q.addr)
  (h1:w1.ownsRow wr.heap.size 5 1 (.slice (some ⟨g1,0,none⟩) 256 cap1) 256 (p.pg.bytes.map (Value.int .u8))) (hb1:Below wr.heap.size wr w1)
  (hb3:Below w1.heap.size w1 w3) (hq:w3.heap[w1.heap.size]? =some (.cells #[.int .u32 p.pg.addr,.int .u8 p.pg.perm,.slice (some ⟨g1,0,none⟩) 256 cap1] 355 (0,0)))
  (h4:w4.ownsRow w.heap.size 352 1 v4 (i+1) (C.map Rp.ptr++[.pointer (some ⟨w1.heap.size,0,none⟩)])) (hg4:w3.grownBy w4 lvc.ownBlock):
  ccRel w R cb (.int .i64 (i+1)) (w4.setCell ⟨cb,0,none⟩ v4):=by
 obtain⟨hi,hpe⟩:=List.getElem?_eq_some_iff.1 hp;obtain⟨hl1,h1r⟩:=h1;rcases h1r with⟨h1r,_⟩|⟨g,c,cur,he,hgb,hgh,hc1,hc2,hcs,hct⟩
 ·cases h1r
 simp only[Value.slice.injEq,Option.some.injEq,Addr.mk.injEq,and_true,true_and] at he;obtain⟨rfl,rfl⟩:=he;have s1:=hb1.size;have s3:=hb3.size;have hg1l:g1<w1.heap.size:=lQ hgh;have s4:=hg4.size;have hlv:∀k,lvc.ownBlock=some k→k<wr.heap.size:=fun k hk=>(hown.lt k hk).2
 have hb13:Below wr.heap.size wr w3:=hb1.trans (hb3.mono s1);have hold:∀k,k<wr.heap.size→lvc.ownBlock≠some k→w4.heap[k]? =wr.heap[k]? :=fun k hk hne=>(hg4.block k (by omega) (by intro e;exact hne e.symm)).trans (hb13.block k hk)
 have hok:=hpr.ok;obtain⟨q,hqd⟩:∃q:Rp,q=⟨⟨p.pg.addr,w1.heap.size,p.pg.perm,p.pg.bytes⟩,g1,cap1⟩:=⟨_,rfl⟩;have hqp:RPage w4 q:=by
  have k1:w4.heap[w1.heap.size]? =w3.heap[w1.heap.size]? :=hg4.block _ (lQ hq) (by intro e;have:=hlv _ e.symm;omega);have k2:w4.heap[g1]? =w1.heap[g1]? :=(hg4.block _ (by omega) (by intro e;have:=hlv _ e.symm;omega)).trans (hb3.block _ hg1l);rw[hqd];refine⟨k1.trans hq,⟨cur,k2.trans hgh,by simpa using hcs,fun j hj=> ?_⟩,hc1,hc2,⟨hok.a0,hok.a1,hok.a2,hok.p0,hok.p1,hok.len,hok.bd⟩⟩;have h5:(cur.toList.take (256*1))[j]? =(p.pg.bytes.map (Value.int .u8))[j]? :=by rw[hct]
  rw[List.getElem?_take_of_lt (by omega),List.getElem?_map] at h5;have hl:=hok.len;have hcl:cur.toList.length=cur.size:=Array.length_toList ..;rw[Zg (by omega)] at h5;rw[Array.getElem?_eq_getElem (by omega)]
  simpa [List.getD,Zg (show j<p.pg.bytes.length by omega)] using h5
 have hold2:∀k,(∃x,x∈C∧(k=x.pg.blk∨k=x.bb))∨k=cb→w4.heap[k]? =wr.heap[k]? :=by
  rintro k (⟨x,hx,hk⟩|rfl)
  ·have hxp:=hsp.pages x hx;obtain⟨cu,hcu,_⟩:=hxp.data;rcases hk with rfl|rfl
   ·exact hold _ hxp.lt1 (own_ne hown hxp.page (by decide))
   ·exact hold _ hxp.lt2 (own_ne hown hcu (by decide))
  ·exact hold _ (lQ hsp.head) (own_ne hown hsp.head (by decide))
 have hcore:rcores (C++[q])=rcores (R.take (i+1)):=by
  rw[rcores_snoc,hco,List.take_succ_eq_append_getElem hi,rcores_snoc,hpe,hqd];rfl
 have hrow4:w4.ownsRow w.heap.size 352 1 v4 (C++[q]).length ((C++[q]).map Rp.ptr):=by
  rw[List.length_append,hCl,List.map_append,hqd];exact h4
 have hsp4:Rsp (w4.setCell ⟨cb,0,none⟩ v4) cb v4 (C++[q]):=by
  have hhead:w4.heap[cb]? =_:=(hold2 cb (.inr rfl)).trans hsp.head;refine⟨?_, ?_, ?_, ?_, ?_⟩
  ·have:=heap_setCell_same w4 cb 0 _ _ v4 hhead
   simpa using this
  ·have hz:w4.ownsRow 0 352 1 v4 (C++[q]).length ((C++[q]).map Rp.ptr):=by
    obtain⟨hl,g⟩:=hrow4;refine⟨hl,g.imp id ?_⟩;rintro⟨b,cap,cur,k1,k2,k3⟩;exact⟨b,cap,cur,k1,Nat.zero_le _,k3⟩
   exact row_keep hz fun k hk=>Below.heap_setCell _ _ _ _ fun e=>own_ne hrow4 hhead (by decide) (by rw[←(show k=cb from e)];exact hk)
  ·intro x hx;have hx4:RPage w4 x:=by
    rcases List.mem_append.1 hx with hx|hx
    ·exact(hsp.pages x hx).keep (hold2 _ (.inl ⟨x,hx,.inl rfl⟩)) (hold2 _ (.inl ⟨x,hx,.inr rfl⟩))
    ·rw[List.mem_singleton.1 hx];exact hqp
   refine hx4.keep (Below.heap_setCell _ _ _ _ fun e=> ?_) (Below.heap_setCell _ _ _ _ fun e=> ?_)
   ·have:=hx4.page;rw[show x.pg.blk=cb from e,hhead] at this;simp at this
   ·obtain⟨cu,this,_⟩:=hx4.data;rw[show x.bb=cb from e,hhead] at this;simp at this
  ·refine up_of_cores (B:=rpgs (R.take (i+1))) hcore ?_;unfold rpgs at hup⊢;rw[List.map_take];exact hup.sublist (List.take_sublist _ _)
  ·refine List.pairwise_append.2 ⟨hsp.bbs,List.pairwise_singleton _ _,fun x hx y hy=> ?_⟩;rw[List.mem_singleton.1 hy,hqd];have:=(hsp.pages x hx).lt2
   show x.bb≠g1
   omega
 have hb4:Below w.heap.size w w4:=own_below (hbw.trans (hb13.mono hbw.size)) (by have:=hbw.size;omega) (row_keep (W:=wr) hown fun k hk=>hb13.block k (hlv k hk)) hg4;refine⟨i+1,v4,C++[q],by simp,by omega,by rw[List.length_append,hCl];rfl,hsp4,hcore, ?_, ?_,hb4.setCell (hft cb (.inl rfl)) _⟩
 ·have hhead:w4.heap[cb]? =_:=(hold2 cb (.inr rfl)).trans hsp.head;have:=hrow4;rw[List.length_append,hCl] at this;exact row_keep this fun k hk=>Below.heap_setCell _ _ _ _ fun e=>own_ne hrow4 hhead (by decide) (by rw[←(show k=cb from e)];exact hk)
 ·rintro k (g|g|⟨x,hx,g⟩)
  ·exact hft k (.inl g)
  ·exact(h4.lt k g).1
  ·rcases List.mem_append.1 hx with hx|hx
   ·exact hft k (.inr (.inr ⟨x,hx,g⟩))
   ·have:=hbw.size;rw[List.mem_singleton.1 hx,hqd] at g;rcases g with g|g
    ·have:k=w1.heap.size:=g;omega
    ·have:k=g1:=g;omega
theorem copy{w:World}{rb:Nat}{lv:Value}{R:List Rp}(h:Rsp w rb lv R):Calls Tryz.prog 208 #[.pointer (some ⟨rb,0,none⟩)] w (RCopyPost w R):=by
 have hln:=h.len;obtain⟨i0,hi0,hz0,hz1,hz2⟩:=info_parts infoPg;have Hi:=Lh hi0;have Hz0:=Lh hz0;have Hz1:=Lh hz1;have Hz2:=Lh hz2;obtain⟨i1,hi0,hz0,hz1,hz2⟩:=info_parts Sp.infoU8;have Ki:=Lh hi0;have Kz0:=Lh hz0;have Kz1:=Lh hz1;have Kz2:=Lh hz2;obtain⟨n,hn⟩:∃n,R.length=n:=⟨_,rfl⟩;have Hn:=Lh hn;rw[hn] at hln;have H:=Lh h;obtain⟨a,cap,hlv,hrow,_⟩:=h.row;have Hrow:=Lh hrow;have hc0:=h.cellHead;rw[hlv,hn] at hc0;have Hlv:=Lh hlv;have Hc0:=Lh hc0;have hrb:rb<w.heap.size:=lQ h.head;clear h hi0 hz0 hz1 hz2 hn hrow hc0 hlv;go_enter func208,ntmps208;go_wp2;go_loopw [4] (fun vi wr=>ccRel w R w.heap.size vi wr) (fun vi _=>n - (intOf vi).toNat)
 case atStart=>exact⟨0,.slice none 0 0,[],by go_num,Nat.zero_le _,rfl,rsp_nil (by simpa using heap_alloc_new w _),rfl,World.ownsRow_nil _ _ _ _,fun k hk=>by rcases hk with rfl|hk|⟨q,hq,_⟩<;>first|exact Nat.le_refl _|cases hk|simp at hq,Ba _⟩
 case round=>
  obtain⟨i,lvc,C,rfl,hi,hCl,hsp,hco,hown,hft,hbw⟩:=hrel;rw[Hn.out] at hi;have hsz:=hbw.size;have hc:wr.cell? ⟨rb,0,none⟩=some (.slice a n cap):=(hbw.cell hrb).trans Hc0.out;have HB:=Lh hbw;have HS:=Lh (H.out.below hbw fun k hk=>H.out.lt hk);have Ho:=Lh hown;have Hft:=Lh hft;have HC:=Lh hsp;have Hco:=Lh hco;have HCl:=Lh hCl;clear hco hCl
  by_cases hin:i<n
  ·have hin2:i<R.length:=by rw[Hn.out];exact hin
   obtain⟨g,rfl,hcell⟩:=Hrow.out (by rw[Hn.out];omega);have hci0:w.cell? ⟨g,i,none⟩=some (R[i]).ptr:=hcell i _ (Zg hin2);have hg:g<w.heap.size:=H.out.lt (.inr (.inl (by rw[Hlv.out];rfl)));have hci:wr.cell? ⟨g,i,none⟩=some (R[i]).ptr:=(hbw.cell hg).trans hci0;have hpg:=HS.out.pages R[i] (List.getElem_mem hin2);obtain⟨c0,c1,c2⟩:=hpg.cells;have hcc:=hsp.cellHead;unfold Rp.ptr at hci;have Hcs:Hid (∀k,Rsp.foot rb lv R k→k<w.heap.size):=Lh fun k hk=>H.out.lt hk
   have hbl:=hpg.lt2;have hpl:=hpg.lt1;have hcbl:w.heap.size<wr.heap.size:=lQ hsp.head;have hol:=hpg.ok.len;have hby:∀W,Below wr.heap.size wr W→∀j u,(R[i].pg.bytes.map (Value.int .u8))[j]? =some u→W.cell? ((⟨R[i].bb,0,none⟩:Addr).add j)=some u:=by
    intro W hW j u hj;have hjl:j<256:=by have g1:=(List.getElem?_eq_some_iff.1 hj).1;rw[List.length_map] at g1;omega
    rw[show(⟨R[i].bb,0,none⟩:Addr).add j=⟨R[i].bb,j,none⟩ by simp[Addr.add]<;>omega,hW.cell (p:=⟨R[i].bb,j,none⟩) hbl,hpg.byte j hjl,←hj];simp[List.getD,Zg (show j<R[i].pg.bytes.length by omega)]
   have Hby:=Lh hby;have Hpg:=Lh hpg;have Hri:=Lh (show R[i]? =some R[i] from Zg hin2);have hcl1:=lQ hpg.page;clear hown hbw hpg hcell hci0 hsp hft hby;generalize hpp:R[i]=p at*;clear hpp;have Hup:=Lh H.out.up;have hlen8:(p.pg.bytes.map (Value.int .u8)).length=256:=by rw[List.length_map,hol]
   go_wp2;have HS7:Hid (∀W,Below wr.heap.size wr W→W.cell? ⟨w.heap.size,0,none⟩=some lvc∧W.cell? ⟨rb,0,none⟩=some (.slice (some ⟨g,0,none⟩) n cap)∧W.cell? ⟨g,i,none⟩=some (.pointer (some ⟨p.pg.blk,0,none⟩))∧W.cell? ⟨p.pg.blk,0,none⟩=some (.int .u32 p.pg.addr)∧W.cell? ⟨p.pg.blk,1,none⟩=some (.int .u8 p.pg.perm)∧W.cell? ⟨p.pg.blk,2,none⟩=some (.slice (some ⟨p.bb,0,none⟩) 256 p.cap)):=
    Lh fun W hW=>⟨(hW.cell (p:=⟨w.heap.size,0,none⟩) hcbl).trans hcc,(hW.cell (p:=⟨rb,0,none⟩) (Nat.lt_of_lt_of_le hrb hsz)).trans hc,(hW.cell (p:=⟨g,i,none⟩) (Nat.lt_of_lt_of_le hg hsz)).trans hci,(hW.cell (p:=⟨p.pg.blk,0,none⟩) hpl).trans c0,(hW.cell (p:=⟨p.pg.blk,1,none⟩) hpl).trans c1,(hW.cell (p:=⟨p.pg.blk,2,none⟩) hpl).trans c2⟩
   have Hnb:Hid (lvc.ownBlock≠some w.heap.size):=Lh (own_ne Ho.out HC.out.head (by decide));have Hfz:Hid (wr.frozen? ⟨w.heap.size,0,none⟩=false):=Lh (by have:=HC.out.head;unfold World.frozen?;rw[this];rfl);have Hne:Hid (lvc.ownBlock≠some p.pg.blk∧lvc.ownBlock≠some rb∧lvc.ownBlock≠some g∧p.pg.blk≠w.heap.size):=Lh ⟨own_ne Ho.out Hpg.out.page (by decide),fun e=>by have:=(Ho.out.lt _ e).1;omega,fun e=>by have:=(Ho.out.lt _ e).1;omega,by
    have:=(Hcs.out p.pg.blk (.inr (.inr ⟨p,List.mem_of_getElem? Hri.out,.inl rfl⟩)));omega⟩
   have Hkeep:Hid (∀W:World,(∀k,k<wr.heap.size→lvc.ownBlock≠some k→W.heap[k]? =wr.heap[k]?)→W.cell? ⟨rb,0,none⟩=some (.slice (some ⟨g,0,none⟩) n cap)∧W.cell? ⟨g,i,none⟩=some (.pointer (some ⟨p.pg.blk,0,none⟩))∧W.cell? ⟨p.pg.blk,0,none⟩=some (.int .u32 p.pg.addr)∧W.cell? ⟨p.pg.blk,1,none⟩=some (.int .u8 p.pg.perm)∧W.cell? ⟨p.pg.blk,2,none⟩=some (.slice (some ⟨p.bb,0,none⟩) 256 p.cap)):=
    Lh fun W hW=>⟨(World.cell?_of_block (w:=wr) (hW rb (by omega) Hne.out.2.1)).trans hc,(World.cell?_of_block (w:=wr) (hW g (by omega) Hne.out.2.2.1)).trans hci,(World.cell?_of_block (w:=wr) (hW _ hpl Hne.out.1)).trans c0,(World.cell?_of_block (w:=wr) (hW _ hpl Hne.out.1)).trans c1,(World.cell?_of_block (w:=wr) (hW _ hpl Hne.out.1)).trans c2⟩
   refine wp_region_E (fun w'=>w'.cell? ⟨w.heap.size,0,none⟩=some lvc∧w'.cell? ⟨rb,0,none⟩=some (.slice (some ⟨g,0,none⟩) n cap)∧w'.cell? ⟨g,i,none⟩=some (.pointer (some ⟨p.pg.blk,0,none⟩))∧w'.cell? ⟨p.pg.blk,0,none⟩=some (.int .u32 p.pg.addr)∧w'.cell? ⟨p.pg.blk,1,none⟩=some (.int .u8 p.pg.perm)∧w'.cell? ⟨p.pg.blk,2,none⟩=some (.slice (some ⟨p.bb,0,none⟩) 256 p.cap)) 42 (by kernel_rfl) ?_;have h0:=HS7.out _ (Below.refl _ wr).drew;refine LT 0 h0 ?_;refine LT 1 h0 ?_;refine LT 2 h0 ?_;refine LT 3 h0 ?_;refine LT 4 h0 ?_;refine LT 5 h0 ?_;refine LT 6 h0 ?_;refine LT 7 h0 ?_;refine LT 8 h0 ?_;refine LT 9 h0 ?_;refine LT 10 h0 ?_;refine LT 11 h0 ?_;refine LT 12 h0 ?_;refine LT 13 h0 ?_;refine LT 14 h0 ?_;refine LT 15 h0 ?_;refine LT 16 h0 ?_;refine LT 17 h0 ?_;refine LT 18 h0 ?_;refine LT 19 h0 ?_;refine LT 20 h0 ?_;refine LT 21 h0 ?_;refine LT 22 h0 ?_;refine LT 23 h0 ?_;refine LT 24 h0 ?_;refine LT 25 h0 ?_;refine LT 26 h0 ?_;refine LT 27 h0 ?_;refine LT 28 h0 ?_;refine LT 29 h0 ?_;refine LT 30 h0 ?_;refine LT 31 h0 ?_;refine LT 32 h0 ?_;refine LT 33 h0 ?_;refine LT 34 h0 ?_;refine LU 35 fun K hK=> ?_
   refine step_append_lies _ (by rfl) _ _ _ (by rfl) wr.heap.size 5 i1 (.int .u8 0) 1 1 Tryz.underlying85 Ki.out Kz0.out Kz1.out Kz2.out rfl (by omega) (.slice none 0 0) 0 [] (by rfl) (World.ownsRow_nil _ _ _ _) ⟨p.bb,0,none⟩ 256 p.cap (p.pg.bytes.map (Value.int .u8)) (by rfl) hlen8 (Hby.out _ Br.drew) (fun x hx=>by obtain⟨y,_,rfl⟩:=List.mem_map.1 hx;rfl) (by omega) (by unfold maxLen;omega) (by omega) (by simp) wr.heap.size (by simp) ?_;intro g1 cap1 w1 ho1 hg1 _ hl1;have hb1:Below wr.heap.size wr w1:=((Below.refl _ wr).drew).grown hg1 (by simp) (fun k e=>by cases e);have hz1:=hb1.size;have h1:=HS7.out _ hb1;refine LV hK (fun _=>h1) ?_;clear hK K;refine LT 36 h1 ?_;refine LU 37 fun K hK=> ?_
   go_simp;have h2:=HS7.out _ (hb1.alloc hz1 (.cells #[.int .u32 p.pg.addr,.int .u8 p.pg.perm,.slice (some ⟨g1,0,none⟩) 256 cap1] 355));refine LV hK (fun _=>h2) ?_;clear hK K;refine LU 38 fun K hK=> ?_
   go_simp;have hb3:=(hb1.alloc hz1 (.cells #[.int .u32 p.pg.addr,.int .u8 p.pg.perm,.slice (some ⟨g1,0,none⟩) 256 cap1] 355)).alloc (by simp;omega) (.cells #[.pointer (some ⟨w1.heap.size,0,none⟩)] 352);have h3:=HS7.out _ hb3;refine LV hK (fun _=>h3) ?_;clear hK K;refine LU 39 fun K hK=> ?_
   refine step_append_lies _ (by rfl) _ _ _ (by rfl) w.heap.size 352 i0 (.pointer none) 1 8 Tryz.underlying188 Hi.out Hz0.out Hz1.out Hz2.out rfl (by omega) lvc i (C.map Rp.ptr) (by rfl) (row_keep Ho.out fun k hk=>hb3.block k (Ho.out.lt k hk).2) ⟨w1.heap.size+1,0,none⟩ 1 1 [.pointer (some ⟨w1.heap.size,0,none⟩)] (by rfl) (by rfl) (cell_at1 _ _ _ _) (by simp[Value.oneCell']) (by omega) (by unfold maxLen;omega) (by omega) (by simp;omega) (w1.heap.size+2) (by simp) ?_;intro g4 cap4 w4 ho4 hg4 _ hl4;have hb4:∀k,k<wr.heap.size→lvc.ownBlock≠some k→w4.heap[k]? =wr.heap[k]? :=fun k hk hne=>(hg4.block k (by simp;omega) (fun e=>hne e.symm)).trans (hb3.block k hk)
   have hc4:w4.cell? ⟨w.heap.size,0,none⟩=some lvc:=(World.cell?_of_block (w:=wr) (hb4 _ hcbl Hnb.out)).trans hcc;have hf4:w4.frozen? ⟨w.heap.size,0,none⟩=false:=(World.frozen?_of_block (w:=wr) (hb4 _ hcbl Hnb.out)).trans Hfz.out;have h4:=And.intro hc4 (Hkeep.out _ hb4);refine LV hK (fun _=>h4) ?_;clear hK K;refine LU 40 fun K hK=> ?_
   go_simp;refine LV hK (fun _=>h4) ?_;clear hK K;refine LT 41 h4 ?_;refine LU 42 fun K hK=> ?_
   go_simp;refine hK.out _ _ (fun e=>absurd rfl e) (fun _=> ?_);clear hK K;try simp only[Act.put,Za,Zb,Zc,Zd,Ze,Zf]
   refine E_done (by kernel_rfl) ?_ _;go_wp2;refine⟨copy_step Hri.out Hpg.out HC.out HCl.out Hco.out Ho.out Hft.out HB.out Hup.out ho1 hb1 ((Ba _).alloc (by simp) _) (heap_alloc2_old _ _ _) ho4 hg4,by simp[intOf];omega⟩
  ·obtain rfl:i=n:=by omega
   have htk:R.take i=R:=List.take_of_length_le (by rw[Hn.out];exact Nat.le_refl _);rw[htk] at Hco;clear hown hbw htk;go_wp2;go_ret;exact⟨w.heap.size,lvc,C,rfl,HC.out,Hco.out,Hft.out,HB.out⟩
end Rs
open Go.RowKit Word
namespace En
structure Like(E F:En):Prop where
 num:E.num=F.num
 kind:E.kind=F.kind
 code:E.code=F.code
 why:E.why=F.why
 text:E.text=F.text
 own:E.own=F.own
 A:cores E.A=cores F.A
 r:E.r=F.r
 pc:E.pc=F.pc
section
variable {E F:En}
theorem Like.stp(h:Like E F):Cp.Like (Cp.stp E.A E.r E.pc) (Cp.stp F.A F.r F.pc):=by
 rw[h.r,h.pc];exact Cp.like_stp h.A _ _
theorem Like.redE(h:Like E F):E.redE=F.redE:=by unfold En.redE;rw[h.kind]
theorem Like.stop(h:Like E F):E.stop=F.stop:=by
 unfold En.stop;rw[h.kind,h.stp.kind,h.stp.num,h.stp.why]
theorem Like.step(h:Like E F):Like E.step F.step:=by
 unfold En.step;rw[h.kind]
 by_cases g:F.kind≠2
 ·rw[if_pos g,if_pos g];exact h
 ·rw[if_neg g,if_neg g];have hs:=h.stp;simp only;rw[hs.kind]
  by_cases q:(Cp.stp F.A F.r F.pc).kind=2
  ·rw[if_pos q,if_pos q];exact⟨h.num,rfl,rfl,hs.why,h.text,h.own,hs.cores,hs.r,hs.pc⟩
  ·rw[if_neg q,if_neg q];exact⟨h.num,rfl,h.code,h.why,h.text,h.own,hs.cores,hs.r,hs.pc⟩
theorem Like.mayE(h:Like E F)(x:Int):E.mayE x=F.mayE x:=by unfold En.mayE;rw[h.kind]
theorem Like.pageE(h:Like E F)(x:Int):E.pageE x=F.pageE x:=by unfold En.pageE;rw[h.mayE,Cor.mapE h.A]
theorem Like.page(h:Like E F)(x:Int)(b c:Nat):Like (E.page x b) (F.page x c):=by
 unfold En.page;rw[h.pageE]
 split
 ·exact h
 ·exact⟨h.num,h.kind,h.code,h.why,h.text,by show En.ins x E.own=En.ins x F.own;rw[h.own],Cor.mapA h.A x b c 3,h.r,h.pc⟩
theorem Like.putE(h:Like E F)(s:ByteArray):E.putE s=F.putE s:=by unfold En.putE;rw[h.kind,h.text]
theorem Like.put(h:Like E F)(s:ByteArray):Like (E.put s) (F.put s):=by
 unfold En.put;rw[h.putE]
 split
 ·exact h
 ·exact⟨h.num,h.kind,h.code,h.why,by show E.text++s=F.text++s;rw[h.text],h.own,h.A,h.r,h.pc⟩
theorem Like.arg(h:Like E F)(n:Int):E.arg n=F.arg n:=by unfold En.arg;rw[h.r]
end
end En
structure RAt where
 eb:Nat
 rb:Nat
 lv:Value
 cb:Nat
 ow:Value
def RAt.foot(a:RAt)(R:List Rp)(k:Nat):Prop:=k=a.eb∨k=a.cb∨Rsp.foot a.rb a.lv R k∨a.ow.ownBlock=some k
def RAt.cells(a:RAt)(E:En):Array Value:= #[.int .i64 E.num,.pointer (some ⟨a.rb,0,none⟩),.pointer (some ⟨a.cb,0,none⟩),.int .u8 E.kind,.int .u32 E.code,.int .i64 E.why,a.ow,.string E.text]
structure Renv(w:World)(a:RAt)(R:List Rp)(E:En):Prop where
 blk:w.heap[a.eb]? =some (.cells (a.cells E) 197 (0,0))
 cp:Cpu 199 w a.cb E.r E.pc
 rp:Rsp w a.rb a.lv R
 eq:rpgs R=E.A
 ls:Sl.Lst w a.ow E.own
 ec:a.eb≠a.cb
 es:¬Rsp.foot a.rb a.lv R a.eb
 cs:¬Rsp.foot a.rb a.lv R a.cb
 le:∀g,a.ow.ownBlock=some g→g<w.heap.size∧g≠a.eb∧g≠a.cb∧¬Rsp.foot a.rb a.lv R g
 ok:E.Ok
namespace Renv
variable {w w':World} {a:RAt} {R:List Rp} {E:En}
theorem lt(h:Renv w a R E)(k:Nat)(hk:a.foot R k):k<w.heap.size:=by
 rcases hk with rfl|rfl|g|g
 ·exact lQ h.blk
 ·exact h.cp.lt
 ·exact h.rp.lt g
 ·exact(h.le k g).1
theorem frame(h:Renv w a R E)(hf:∀k,a.foot R k→w'.heap[k]? =w.heap[k]?)(hz:w.heap.size≤w'.heap.size):Renv w' a R E:=
 {
  h with
  blk:=(hf _ (.inl rfl)).trans h.blk
  cp:=h.cp.frame (hf _ (.inr (.inl rfl)))
  rp:=h.rp.frame fun k hk=>hf k (.inr (.inr (.inl hk)))
  ls:=h.ls.frame fun g hg=>hf g (.inr (.inr (.inr hg)))
  le:=fun g hg=>⟨Nat.lt_of_lt_of_le (h.le g hg).1 hz,(h.le g hg).2⟩}
theorem below(h:Renv w a R E)(hb:Below w.heap.size w w'):Renv w' a R E:=h.frame (fun k hk=>hb.block k (h.lt k hk)) hb.size
theorem cell(h:Renv w a R E)(i:Nat)(v:Value)(hi:(a.cells E)[i]? =some v):w.cell? ⟨a.eb,i,none⟩=some v:=by
 unfold World.cell?;rw[h.blk];exact hi
end Renv
theorem rcores_cores{C R:List Rp}(h:rcores C=rcores R):cores (rpgs C)=cores (rpgs R):=h
def RNewPost(w:World)(R:List Rp)(num pc:Int)(e:Ending)(w':World):Prop:=
 ∃a C,e=.returned (.tuple #[.pointer (some ⟨a.eb,0,none⟩),.bool true])∧Renv w' a C (En.new num pc (rpgs C))∧cores (rpgs C)=cores (rpgs R)∧(∀k,a.foot C k→w.heap.size≤k)∧Below w.heap.size w w'
namespace Rv
section
variable {w:World} {rb:Nat} {lv:Value} {R:List Rp}
theorem new(h:Rsp w rb lv R)(num pc:Int)(n0:1≤num)(n1:num≤8)(p0:0≤pc)(p1:pc≤4294967295):Calls Tryz.prog 101 #[.int .i64 num,.pointer (some ⟨rb,0,none⟩),.int .u32 pc] w (RNewPost w R num pc):=by
 have HC:=Lh (Rs.copy h);have g1:¬num<1:=by omega
 have g2:¬8<num:=by omega
 have HFin:Hid (∀cb lvc C w2,Rsp w2 cb lvc C→rcores C=rcores R→(∀k,Rsp.foot cb lvc C k→w.heap.size≤k)→Below w.heap.size w w2→
   RNewPost w R num pc (.returned (.tuple #[.pointer (some ⟨w2.heap.size+1,0,none⟩),.bool true])) ((w2.alloc (.cells #[.int .u32 0,.int .u32 0,.int .u32 0,.int .u32 0,.int .u32 0,.int .u32 0,.int .u32 0,.int .u32 0,.int .u32 0,.int .u32 0,.int .u32 0,.int .u32 0,.int .u32 0,.int .u32 0,.int .u32 0,.int .u32 0,.int .u32 pc] 199)).alloc (.cells #[.int .i64 num,.pointer (some ⟨cb,0,none⟩),.pointer (some ⟨w2.heap.size,0,none⟩),.int .u8 2,.int .u32 0,.int .i64 0,.slice none 0 0,.string ⟨#[]⟩] 197))):=Lh fun cb lvc C w2 hs hc hf hb=>by
  have hz:=hb.size;have hb1:Below w2.heap.size w2 (w2.alloc (.cells #[.int .u32 0,.int .u32 0,.int .u32 0,.int .u32 0,.int .u32 0,.int .u32 0,.int .u32 0,.int .u32 0,.int .u32 0,.int .u32 0,.int .u32 0,.int .u32 0,.int .u32 0,.int .u32 0,.int .u32 0,.int .u32 0,.int .u32 pc] 199)):=Ba _;have hz1:(w2.alloc (.cells #[.int .u32 0,.int .u32 0,.int .u32 0,.int .u32 0,.int .u32 0,.int .u32 0,.int .u32 0,.int .u32 0,.int .u32 0,.int .u32 0,.int .u32 0,.int .u32 0,.int .u32 0,.int .u32 0,.int .u32 0,.int .u32 0,.int .u32 pc] 199)).heap.size=w2.heap.size+1:=by simp
  have hcp:Cpu 199 (w2.alloc (.cells #[.int .u32 0,.int .u32 0,.int .u32 0,.int .u32 0,.int .u32 0,.int .u32 0,.int .u32 0,.int .u32 0,.int .u32 0,.int .u32 0,.int .u32 0,.int .u32 0,.int .u32 0,.int .u32 0,.int .u32 0,.int .u32 0,.int .u32 pc] 199)) w2.heap.size (List.replicate 16 0) pc:=⟨heap_alloc_new w2 _,⟨rfl,fun x hx=>by rw[List.eq_of_mem_replicate hx];omega⟩,p0,p1⟩;generalize w2.alloc (.cells #[.int .u32 0,.int .u32 0,.int .u32 0,.int .u32 0,.int .u32 0,.int .u32 0,.int .u32 0,.int .u32 0,.int .u32 0,.int .u32 0,.int .u32 0,.int .u32 0,.int .u32 0,.int .u32 0,.int .u32 0,.int .u32 0,.int .u32 pc] 199)=w3 at*;have hba:Below w3.heap.size w3 (w3.alloc (.cells #[.int .i64 num,.pointer (some ⟨cb,0,none⟩),.pointer (some ⟨w2.heap.size,0,none⟩),.int .u8 2,.int .u32 0,.int .i64 0,.slice none 0 0,.string ⟨#[]⟩] 197)):=Ba _;have hen:=heap_alloc_new w3 (.cells #[.int .i64 num,.pointer (some ⟨cb,0,none⟩),.pointer (some ⟨w2.heap.size,0,none⟩),.int .u8 2,.int .u32 0,.int .i64 0,.slice none 0 0,.string ⟨#[]⟩] 197);rw[hz1] at hen;refine⟨⟨w2.heap.size+1,cb,lvc,w2.heap.size,.slice none 0 0⟩,C,rfl, ?_,rcores_cores hc,fun k hk=> ?_, ?_⟩
  ·exact {blk:=hen,cp:=hcp.below hba,rp:=(hs.same hb1).same hba,eq:=rfl,ls:=Sl.Lst.nil _,ec:=by show w2.heap.size+1≠w2.heap.size;omega,es:=fun g=>absurd (hs.lt g) (by show¬w2.heap.size+1<w2.heap.size;omega),cs:=fun g=>Nat.lt_irrefl _ (hs.lt g),le:=fun g hg=>(nomatch hg),ok:=⟨List.Pairwise.nil,fun x hx=>(nomatch hx),fun x hx=>(nomatch hx),Nat.zero_le _⟩}
  ·rcases hk with g|g|g|g
   ·rw[g];show w.heap.size≤w2.heap.size+1;omega
   ·rw[g];exact hz
   ·exact hf k g
   ·cases g
  ·exact(hb.trans (hb1.mono hz)).alloc (by omega) _
 generalize RNewPost w R num pc=PQ at*;clear h;go_enter func101,ntmps101;go_wp2_with fail;refine HC.out.mono ?_;rintro e w2 ⟨cb,lvc,C,rfl,hs,hc,hf,hb⟩;have HS:=Lh (⟨hs,hc,hf,hb⟩:Rsp w2 cb lvc C∧rcores C=rcores R∧(∀k,Rsp.foot cb lvc C k→w.heap.size≤k)∧Below w.heap.size w w2);clear hs hc hf hb;go_wp2;exact HFin.out cb lvc C w2 HS.out.1 HS.out.2.1 HS.out.2.2.1 HS.out.2.2.2
end
end Rv
theorem SlV.setCell{w:World}{e:TypeId}{s:Nat}{g off n cap:Nat}{xs:List Value}(h:SlV w e s (.slice (some ⟨g,off,none⟩) n cap) n xs)(j:Nat)(hj:j<n*s)(u:Value):SlV (w.setCell ⟨g,off+j,none⟩ u) e s (.slice (some ⟨g,off,none⟩) n cap) n (xs.set j u):=by
 obtain⟨hl,h⟩:=h;refine⟨by rw[List.length_set];exact hl, ?_⟩;rcases h with⟨rfl,_⟩|⟨g',off',cap',cur,hv,hg,hc,hm,hs,ht⟩
 ·omega
 ·simp only[Value.slice.injEq,Option.some.injEq,Addr.mk.injEq,and_true,true_and] at hv;obtain⟨⟨rfl,rfl⟩,rfl⟩:=hv;refine .inr ⟨g,off,cap,_,rfl,heap_setCell_same w g (off+j) cur e u hg,hc,hm,by simpa using hs,fun i hi=> ?_⟩;have hsz:off+j<cur.size:=by
   have:n*s≤cap*s:=Nat.mul_le_mul_right _ hc;omega
  rw[Array.getElem?_setIfInBounds,List.getElem?_set]
  by_cases hij:j=i
  ·subst hij;rw[if_pos rfl,if_pos rfl,if_pos hsz,if_pos (by omega)]
  ·rw[if_neg (by omega),if_neg hij,ht i hi]
namespace Ni
structure NicS where
 ports:List Int
 q:Int→List ByteArray
 sent:List ByteArray
 gone:Int
def slcElem(v:Value):Option (DataW Unit×List MemPlace):=
 match v with
 | .slice none n cap=>some (.agg [.lit (.int .i64 (-1)),.lit (.int .i64 0),.lit (.int .i64 n),.lit (.int .i64 cap)],[])
 | .slice (some ⟨b,off,none⟩) n cap=>some (.agg [.lit (.int .i64 b),.lit (.int .i64 off),.lit (.int .i64 n),.lit (.int .i64 cap)],[])
 |_=>none
def nilD:DataW Unit:=.agg [.lit (.int .i64 (-1)),.lit (.int .i64 0),.lit (.int .i64 (0:Nat)),.lit (.int .i64 (0:Nat))]
def foot(nb mb:Nat)(V:Int→Value)(sv:Value)(k:Nat):Prop:=k=nb∨k=mb∨sv.ownBlock=some k∨∃x,(V x).ownBlock=some k
structure Nc(w:World)(nb mb:Nat)(V:Int→Value)(sv:Value)(S:NicS):Prop where
 head:w.heap[nb]? =some (.cells #[.map (some mb),sv,.int .i64 S.gone] 330 (0,0))
 map:∃D n,w.ownsMap Tryz.prog 22 slcElem mb n D∧(∀x,slcElem (V x)=some (D.atKey (.int .u16 x) nilD,[]))∧Maps.size D=S.ports.length∧∀x,Maps.has D (.int .u16 x)=decide (x∈S.ports)
 rows:∀x,SlV w 9 1 (V x) (S.q x).length ((S.q x).map .string)
 sent:SlV w 9 1 sv S.sent.length (S.sent.map .string)
 nodup:S.ports.Nodup
 range:∀x,x∈S.ports→0≤x∧x<65536
 apart:∀x y k,x≠y→(V x).ownBlock=some k→(V y).ownBlock≠some k
 sapart:∀x k,(V x).ownBlock=some k→sv.ownBlock≠some k
 rapart:∀x,(V x).ownBlock≠some nb∧(V x).ownBlock≠some mb
 tapart:sv.ownBlock≠some nb∧sv.ownBlock≠some mb
 small:∀x,(S.q x).length≤8
 lt:∀k,foot nb mb V sv k→k<w.heap.size
theorem Nc.frame{w w':World}{nb mb:Nat}{V:Int→Value}{sv:Value}{S:NicS}(h:Nc w nb mb V sv S)(hs:w.heap.size≤w'.heap.size)(hf:∀k,foot nb mb V sv k→w'.heap[k]? =w.heap[k]?):Nc w' nb mb V sv S:=by
 refine⟨(hf nb (.inl rfl)).trans h.head, ?_,fun x=>(h.rows x).keep fun g hg=>hf g (.inr (.inr (.inr ⟨x,hg⟩))),h.sent.keep fun g hg=>hf g (.inr (.inr (.inl hg))),h.nodup,h.range,h.apart,h.sapart,h.rapart,h.tapart,h.small,fun k hk=>Nat.lt_of_lt_of_le (h.lt k hk) hs⟩;obtain⟨D,n,ho,hv,hz,hh⟩:=h.map;obtain⟨es,clock,hb,rest⟩:=ho;exact⟨D,n,⟨es,clock,(hf mb (.inr (.inl rfl))).trans hb,rest⟩,hv,hz,hh⟩
theorem Nc.keep{w w':World}{nb mb:Nat}{V:Int→Value}{sv:Value}{S:NicS}{G:Nat→Prop}(h:Nc w nb mb V sv S)(hm:Mod G w w')(hf:∀k,foot nb mb V sv k→¬G k):Nc w' nb mb V sv S:=
 h.frame hm.size fun k hk=>hm.block k (h.lt k hk) (hf k hk)
def NicO(w:World)(F:Nat→Prop)(nb:Nat)(S:NicS):Prop:=∃mb V sv,Nc w nb mb V sv S∧∀k,foot nb mb V sv k→F k
theorem NicO.keep{w w':World}{F G:Nat→Prop}{nb:Nat}{S:NicS}(h:NicO w F nb S)(hm:Mod G w w')(hf:∀k,F k→¬G k):NicO w' F nb S:=by
 obtain⟨mb,V,sv,hn,g⟩:=h;exact⟨mb,V,sv,hn.keep hm fun k hk=>hf k (g k hk),g⟩
theorem NicO.same{w w':World}{F:Nat→Prop}{nb:Nat}{S:NicS}(h:NicO w F nb S)(hm:Below w.heap.size w w'):NicO w' F nb S:=h.keep (G:=fun _=>False) (Mod.of_below hm _) fun _ _ g=>g
end Ni
end Go.Proofs.YtehihecknhcggaaGreat
namespace Go.Proofs.YtehihecknhcggaaGreat.Ni
open Go.RowKit
def newS:NicS:=⟨[],fun _=>[],[],0⟩
theorem new(w:World):Calls Tryz.prog 82 #[] w fun e w'=>e=.returned (.pointer (some ⟨w.heap.size+1,0,none⟩))∧Nc w' (w.heap.size+1) w.heap.size (fun _=>.slice none 0 0) (.slice none 0 0) newS∧Below w.heap.size w w'∧w'.heap.size=w.heap.size+2:=by
 have hmm:= @run_makeMap Tryz.prog;go_enter func82,ntmps82;go_wp2;go_ret;refine⟨rfl,⟨?_, ?_,fun x=>SlV.nil _ _ _,SlV.nil _ _ _,List.nodup_nil,fun x hx=>by simp[newS] at hx,fun x y k _ h=>by simp[Value.ownBlock] at h,fun x k h=>by simp[Value.ownBlock] at h,fun x=>by simp[Value.ownBlock],by simp[Value.ownBlock],fun x=>by simp[newS],fun k hk=> ?_⟩,by repeat (first|exact Below.refl _ _|refine Below.alloc ?_ (by simp) _),by simp⟩
 ·have:=heap_alloc_new (w.alloc (.map #[] 0)) (.cells #[.map (some w.heap.size),.slice none 0 0,.int .i64 0] 330)
  simpa [newS] using this
 ·exact⟨.map [],0,(World.ownsMap_made w _ _ _).alloc _,fun x=>rfl,rfl,fun x=>by simp[newS,Maps.has]⟩
 ·simp
  rcases hk with rfl|rfl|g|⟨x,g⟩
  ·omega
  ·omega
  ·simp[Value.ownBlock] at g
  ·simp[Value.ownBlock] at g
variable {w:World} {nb mb:Nat} {V:Int→Value} {sv:Value} {S:NicS}
end Go.Proofs.YtehihecknhcggaaGreat.Ni
namespace Go.Proofs.YtehihecknhcggaaGreat.Ni
open Go.RowKit
theorem infoStr:(Tryz.prog.info? 9).map (fun i=>(i.zero,i.size,i.bytes))=some (some (.string ByteArray.empty),1,16):=by kernel_rfl
end Go.Proofs.YtehihecknhcggaaGreat.Ni
namespace Go.Proofs.YtehihecknhcggaaGreat.Ni
open Go.RowKit
theorem infoStr':∃i,Tryz.prog.info? 9=some i∧i.zero=some (.string ByteArray.empty)∧i.size=1∧i.bytes=16:=info_parts infoStr
end Go.Proofs.YtehihecknhcggaaGreat.Ni
