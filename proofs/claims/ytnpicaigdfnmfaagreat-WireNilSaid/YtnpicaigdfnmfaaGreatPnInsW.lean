/- InsW, StepW, CpuW in one text. -/
import Derived.Test.YtnpicaigdfnmfaaGreatProg
import Derived.Test.YtnpicaigdfnmfaaGreatPnPag
import Derived.Test.YtnpicaigdfnmfaaGreatPnBase
import Derived.Laws.Tables
import Derived.Laws.CopyOwn
import Derived.Deep.MidRow
import Derived.Deep.QuietTactic
import Derived.BigQuiet
import Derived.Deep.DeepCutAuto
import Derived.Test.YtnpicaigdfnmfaaGreatPnWrkW
import Derived.Test.YtnpicaigdfnmfaaGreatPnZa
set_option linter.unusedVariables false
set_option linter.unusedSimpArgs false
set_option maxRecDepth 100000
set_option maxHeartbeats 16000000
open Go.Proofs.Tryz
namespace Go.Proofs.YtnpicaigdfnmfaaGreat.Ins
open Go.RowKit
def tabX(k n:Nat):Int:=if n≤14 then(if 1≤n∧n<k then 7 else 0) else usesV n
def tabL(k:Nat):Array Value:=((List.range 256).map fun(n:Nat)=>Value.int .u8 (tabX k n)).toArray
theorem tab_size(k:Nat):(tabL k).size=256:=by unfold tabL;simp
theorem tab_at(k n:Nat)(hn:n<256):(tabL k)[n]? =some (.int .u8 (tabX k n)):=by
 unfold tabL;simp[List.getElem?_range hn]
theorem tab_set(k:Nat)(h1:1≤k)(h2:k≤14):(tabL k).setIfInBounds k (.int .u8 7)=tabL (k+1):=by
 apply Array.ext_getElem?
 intro n
 by_cases hn:n<256
 ·rw[Array.getElem?_setIfInBounds,tab_at _ _ hn,tab_at _ _ hn,tab_size]
  by_cases e:k=n
  ·subst e;rw[if_pos rfl,if_pos (by omega)];unfold tabX;rw[if_pos h2,if_pos (by omega)]
  ·rw[if_neg e];unfold tabX
   split
   ·by_cases g:1≤n∧n<k
    ·rw[if_pos g,if_pos (by omega)]
    ·rw[if_neg g,if_neg (by omega)]
   ·rfl
 ·rw[Array.getElem?_eq_none (by rw[Array.size_setIfInBounds,tab_size];omega),Array.getElem?_eq_none (by rw[tab_size];omega)]
theorem tab_last(n:Nat)(hn:n<256):tabX 15 n=usesV n:=by
 unfold tabX
 split
 ·unfold usesV
  by_cases g:1≤n
  ·rw[if_pos (by omega),if_pos (by omega)]
  ·have:n=0:=by omega
   subst this;rfl
 ·rfl
def tabRel(w:World)(si:Value)(wr:World):Prop:=
 ∃k:Nat,1≤k∧k≤15∧si=.int .i64 k∧wr.heap[w.heap.size+1]? =some (.cells (tabL k) 234 (0,0))∧wr.heap[w.heap.size]? =some (.cells Tryz.zeroCells234 234 (0,0))∧Below w.heap.size w wr
theorem tab_one:((((((((((((((((((((((Tryz.zeroCells234.setIfInBounds 17 (Value.int IntKind.u8 11)).setIfInBounds 19 (Value.int IntKind.u8 11)).setIfInBounds 22 (Value.int IntKind.u8 11)).setIfInBounds 23 (Value.int IntKind.u8 11)).setIfInBounds 24 (Value.int IntKind.u8 11)).setIfInBounds 25 (Value.int IntKind.u8 11)).setIfInBounds 26 (Value.int IntKind.u8 11)).setIfInBounds 29 (Value.int IntKind.u8 11)).setIfInBounds 30 (Value.int IntKind.u8 11)).setIfInBounds 32 (Value.int IntKind.u8 9)).setIfInBounds 33 (Value.int IntKind.u8 11)).setIfInBounds 34 (Value.int IntKind.u8 11)).setIfInBounds 35 (Value.int IntKind.u8 14)).setIfInBounds 36 (Value.int IntKind.u8 14)).setIfInBounds 40 (Value.int IntKind.u8 8)).setIfInBounds 41 (Value.int IntKind.u8 9)).setIfInBounds 42 (Value.int IntKind.u8 2)).setIfInBounds 50 (Value.int IntKind.u8 8)).setIfInBounds 43 (Value.int IntKind.u8 14)).setIfInBounds 44 (Value.int IntKind.u8 14)).setIfInBounds 45 (Value.int IntKind.u8 14)).setIfInBounds 46 (Value.int IntKind.u8 14))=tabL 1:=by kernel_rfl
theorem zero_size:Tryz.zeroCells234.size=256:=by kernel_rfl
theorem info_tab:(Tryz.prog.info? 234).map (·.size)=some 256:=by kernel_rfl
theorem table(w:World):Calls Tryz.prog 282 #[] w fun e w'=>e=.returned (.agg (tabL 15))∧Below w.heap.size w w':=by
 have hone:=tab_one;have hz:=zero_size;have hcell:(tabL 1).all (·.oneCell')=true:=by kernel_rfl
 have hcell2:(tabL 15).all (·.oneCell')=true:=by kernel_rfl
 have hst:∀(c:Array Value) (W:World) (g:Nat) (old:Array Value),W.heap[g]? =some (.cells old 234 (0,0))→old.size=256→c.size=256→c.all (·.oneCell')=true→(storeCells ⟨g,0,none⟩ c.toList).run Tryz.prog W=.ok () (W.setRow g c):=fun c W g old hg ho hs h1=>by
  have h:=run_storeCells_from (P:=Tryz.prog) g 234 c.toList 0 old W hg (by simp;omega) (fun v hv=>(Array.all_eq_true_iff_forall_mem.1 h1) v (by simpa using hv));rw[h]
  simp
 have hst1:=hst (tabL 1) ((w.alloc (.cells Tryz.zeroCells234 234)).alloc (.cells Tryz.zeroCells234 234)) (w.heap.size+1) _ (by have h:=heap_alloc_new (w.alloc (.cells Tryz.zeroCells234 234)) (.cells Tryz.zeroCells234 234);rwa [show(w.alloc (.cells Tryz.zeroCells234 234)).heap.size=w.heap.size+1 by simp] at h) hz (tab_size 1) hcell;have Hst:=Lh hst;have Hc2:=Lh hcell2;have hsz:=tab_size 1;clear hcell hcell2 hst hz;go_enter func282,ntmps282;go_wp2;go_loopw [2] (fun si wr=>tabRel w si wr) (fun si _=>15 - (intOf si).toNat)
 case atStart=>
  refine⟨1,by omega,by omega,by go_num, ?_, ?_, ?_⟩
  ·have h:=heap_alloc_new (w.alloc (.cells Tryz.zeroCells234 234)) (.cells Tryz.zeroCells234 234);rw[show(w.alloc (.cells Tryz.zeroCells234 234)).heap.size=w.heap.size+1 by simp] at h;exact setRow_heap _ _ _ _ _ _ h
  ·have h:=heap_alloc_new w (.cells Tryz.zeroCells234 234);rw[setRow_other _ _ _ _ (by omega),Below.heap_alloc _ _ _ (by simp)];exact h
  ·exact below_setRow ((Ba _).alloc (by simp) _) (by omega) _
 case round=>
  clear hst1 hone hsz;obtain⟨k,k1,k2,rfl,hb1,hb0,hbel⟩:=hrel;have hlt:=lQ hb1
  by_cases hk:k≤14
  ·have hc:wr.cell? ⟨w.heap.size+1,k,none⟩=some (.int .u8 (tabX k k)):=by
    unfold World.cell?;rw[hb1];exact tab_at k k (by omega)
   have hf:wr.frozen? ⟨w.heap.size+1,k,none⟩=false:=by
    unfold World.frozen?;rw[hb1];rfl
   have Hb1:=Lh hb1;have Hb0:=Lh hb0;have Hbel:=Lh hbel;clear hb1 hb0 hbel;go_wp2;refine⟨⟨k+1,by omega,by omega,by go_num, ?_, ?_, ?_⟩,by simp[intOf];omega⟩
   ·rw[setCell_eq_setRow _ _ _ _ _ _ _ Hb1.out,←tab_set k k1 hk];exact setRow_heap _ _ _ _ _ _ Hb1.out
   ·rw[setCell_eq_setRow _ _ _ _ _ _ _ Hb1.out,setRow_other _ _ _ _ (by omega)];exact Hb0.out
   ·rw[setCell_eq_setRow _ _ _ _ _ _ _ Hb1.out];exact below_setRow Hbel.out (by omega) _
  ·obtain rfl:k=15:=by omega
   have hra:wr.rangeAt (w.heap.size+1) 0 (tabL 15).toList:=fun j v hj=>by
    unfold World.cell?;rw[hb1]
    simpa using hj
   have hinf:(Tryz.prog.info? 234).map (·.size)=some (tabL 15).toList.length:=by rw[Array.length_toList,tab_size];exact info_tab
   have hund:=Tryz.underlying234;have hst2:=Hst.out (tabL 15) wr w.heap.size _ hb0 zero_size (tab_size 15) Hc2.out;have hra2:(wr.setRow w.heap.size (tabL 15)).rangeAt w.heap.size 0 (tabL 15).toList:=fun j v hj=>by
    unfold World.cell?;rw[setRow_heap _ _ _ _ _ _ hb0]
    simpa using hj
   have hsz:=tab_size 15;have hld2:=run_loadVar_mid (P:=Tryz.prog) (wr.setRow w.heap.size (tabL 15)) w.heap.size 0 234 (tabL 15).toList _ hra2 hund rfl hinf;rw[Array.toArray_toList] at hld2;have hbl:=below_setRow hbel (Nat.le_refl _) (tabL 15);have Hbl:=Lh hbl;have Hra:=Lh hra;have Hund:=Lh hund;have Hinf:=Lh hinf;clear hb1 hb0 hbel hbl hra hra2 hinf hund;go_wp2_with (refine wpList_load_mid rfl 234 (.tmp 1) rfl (w.heap.size+1) 0 rfl (tabL 15).toList _ Hra.out Hund.out rfl Hinf.out ?_;rw[Array.toArray_toList]);refine bodyPost_ret (v:=.agg (tabL 15)) ?_ rfl ⟨rfl,Hbl.out⟩;simp[results,Tryz.results282];exact hld2
theorem tab_op(op:Int)(h0:0≤op)(h1:op≤255):(tabL 15)[op.toNat]? =some (.int .u8 (usesV op)):=by
 obtain⟨n,rfl⟩:=Int.eq_ofNat_of_zero_le h0;rw[Int.toNat_natCast,tab_at 15 n (by omega),tab_last n (by omega)]
end Go.Proofs.YtnpicaigdfnmfaaGreat.Ins
namespace Go.Proofs.YtnpicaigdfnmfaaGreat.Ins
open Go.RowKit Word
theorem fits(u n bit:Int)(u0:0≤u)(u1:u≤255)(n0:0≤n)(n1:n≤255)(b0:0≤bit)(b1:bit≤255)(b:Nat)(w:World)(hc:w.cell? ⟨b,0,none⟩=some (.int .u8 u)):
  Calls Tryz.prog 283 #[.int .u8 n,.int .u8 bit,.pointer (some ⟨b,0,none⟩)] w fun e w'=>e=.returned (.bool (fitV n (bits .and .u8 u bit != 0)))∧w=w':=by
 unfold fitV
 by_cases hn:n=0
 ·subst hn;go_enter func283,ntmps283;go_wp2;go_ret;exact⟨rfl,rfl⟩
 ·have h1:(n == 0)=false:=by simpa using hn
  cases h2:(bits .and .u8 u bit != 0) with
  |true=>
   go_enter func283,ntmps283;go_wp2;go_ret;exact⟨by simp[h1],rfl⟩
  |false=>
   go_enter func283,ntmps283;go_wp2;go_ret;exact⟨by simp[h1],rfl⟩
theorem index_tab(op:Int)(h0:0≤op)(h1:op≤255)(W:World):(Instr.index 234 (.agg (tabL 15)) (.int .u8 op)).run Tryz.prog W=.ok (.int .u8 (usesV op)) W:=by
 have h:=tab_op op h0 h1;have hu:=Tryz.underlying234;simp[Instr.index,run_underlying hu,asIntOf,go_sem];rw[if_pos ⟨h0,by omega⟩,h];rfl
theorem cells5(w:World)(a b c d e:Value)(t:TypeId)(i:Nat):(w.alloc (.cells #[a,b,c,d,e] t)).cell? ⟨w.heap.size,0+i,none⟩=[a,b,c,d,e][i]? :=by
 rw[World.cell?_alloc_mark];simp
theorem check(x:Ins)(hx:x.ok)(w:World):Calls Tryz.prog 224 #[x.val] w fun e w'=>e=.returned (.int .i64 (encE x))∧Below w.heap.size w w':=by
 obtain⟨op,d,a,b,imm⟩:=x;obtain⟨o0,o1,d0,d1,a0,a1,b0,b1,i0,i1⟩:=hx;simp only at o0 o1 d0 d1 a0 a1 b0 b1 i0 i1;have hidx:=index_tab op o0 o1;have hE:encE ⟨op,d,a,b,imm⟩=if(usesV op != 0&&fitV d (bits .and .u8 (usesV op) 1 != 0)&&fitV a (bits .and .u8 (usesV op) 2 != 0)&&fitV b (bits .and .u8 (usesV op) 4 != 0)&&((bits .and .u8 (usesV op) 8 != 0)||imm == 0)) then 0 else 2:=rfl
 generalize encE ⟨op,d,a,b,imm⟩=E at*;have HE:=Lh hE;clear hE;unfold val;simp only;go_enter func224,ntmps224;go_wp2;generalize hW:w.alloc (.cells #[.int .u8 op,.int .u8 d,.int .u8 a,.int .u8 b,.int .u32 imm] 116)=W at*;have hbW:Below w.heap.size w W:=by rw[←hW];exact Ba _
 have hcs:∀i,W.cell? ⟨w.heap.size,0+i,none⟩=[Value.int .u8 op,.int .u8 d,.int .u8 a,.int .u8 b,.int .u32 imm][i]? :=fun i=>by rw[←hW];exact cells5 w _ _ _ _ _ _ i
 have hop:W.cell? ⟨w.heap.size,0,none⟩=some (.int .u8 op):=hcs 0;have hlt:w.heap.size<W.heap.size:=by rw[←hW];simp
 have hcs1:=hcs 1;have hcs2:=hcs 2;have hcs3:=hcs 3;have hcs4:=hcs 4;have HB:=Lh hbW;have HC:=Lh (⟨hcs1,hcs2,hcs3,hcs4⟩:_∧_∧_∧_);clear hcs hcs1 hcs2 hcs3 hcs4 hW hbW;have hopA:∀o,(W.alloc o).cell? ⟨w.heap.size,0,none⟩=some (.int .u8 op):=fun o=>(World.cell?_of_block (w:=W) (Below.heap_alloc _ _ _ hlt)).trans hop
 have hopB:∀w0 w1:World,Below w0.heap.size w0 w1→w0.cell? ⟨w.heap.size,0,none⟩=some (.int .u8 op)→W.heap.size≤w0.heap.size→w1.cell? ⟨w.heap.size,0,none⟩=some (.int .u8 op):=fun w0 w1 hb h hl=>(World.cell?_of_block (w:=w0) (hb.block _ (by simp only;omega))).trans h
 have hopD:∀w0 w1:World,Below w0.heap.size w0 w1→w0.cell? ⟨w.heap.size,0,none⟩=some (.int .u8 op)→W.heap.size≤w0.heap.size→∀o,(w1.alloc o).cell? ⟨w.heap.size,0,none⟩=some (.int .u8 op):=fun w0 w1 hb h hl o=>(World.cell?_of_block (w:=w1) (Below.heap_alloc _ _ _ (by have:=hb.size;simp only;omega))).trans (hopB w0 w1 hb h hl)
 have hopV:∀w0 w1:World,Below w0.heap.size w0 w1→∀v,w0.cell? ⟨W.heap.size,0,none⟩=some v→W.heap.size<w0.heap.size→w1.cell? ⟨W.heap.size,0,none⟩=some v:=fun w0 w1 hb v h hl=>(World.cell?_of_block (w:=w0) (hb.block _ (by simp only;omega))).trans h
 have hopF:∀w0 w1:World,Below w0.heap.size w0 w1→w0.frozen? ⟨W.heap.size,0,none⟩=false→W.heap.size<w0.heap.size→w1.frozen? ⟨W.heap.size,0,none⟩=false:=fun w0 w1 hb h hl=>by
  unfold World.frozen? at h⊢;rw[hb.block _ (by simp only;omega)];exact h
 have hopZ:∀x:Value,(W.alloc (.cells #[x] 5)).cell? ⟨W.heap.size,0,none⟩=some x:=fun x=>by rw[World.cell?_alloc_mark];rfl
 have hopG:∀x:Value,(W.alloc (.cells #[x] 5)).frozen? ⟨W.heap.size,0,none⟩=false:=fun x=>by unfold World.frozen?;rw[heap_alloc_new];rfl
 go_upto_region 1 with fail;go_cut [3] (fun s3 wx=>∃B:Nat,s3=.pointer (some ⟨B,0,none⟩)∧W.heap.size≤B∧wx.cell? ⟨B,0,none⟩=some (.int .u8 (usesV op))∧Below W.heap.size W wx)
 case first=>
  go_region_with (
          go_at_call 282;refine(table _).mono ?_;rintro e w1 ⟨rfl,hb1⟩;have hop1:=hopB _ _ hb1 (by first|exact hop|exact hopA _) (by first|exact Nat.le_refl _|(simp;done)|(simp;omega));have hop1A:=hopD _ _ hb1 (by first|exact hop|exact hopA _) (by first|exact Nat.le_refl _|(simp;done)|(simp;omega));have hbW1:Below W.heap.size W w1:=bQ (b:=_) (by first|exact Below.refl _ _|exact Br.drew|exact Ba _|exact(Ba _).drew|exact(Br.drew.alloc (Nat.le_refl _) _)|exact((Br.drew.alloc (Nat.le_refl _) _)).drew) hb1;try (have hv1:=hopV _ _ hb1 _ (hopZ _) (by simp);have hv2:=hopF _ _ hb1 (hopG _) (by simp)))
  all_goals go_wp2_with fail
  all_goals go_meet
  all_goals first
   |exact⟨_,rfl,hbW1.size,by first|(rw[World.cell?_alloc_mark];rfl)|(rw[World.cell?_drew,World.cell?_alloc_mark];rfl),by first|exact hbW1.alloc hbW1.size _|exact(hbW1.alloc hbW1.size _).drew⟩
   |exact⟨_,rfl,Nat.le_refl _,World.cell?_setCell_same _ _ _ hv1,hbW1.setCell (Nat.le_refl _) _⟩
   |trace_state
 case rest=>
  obtain⟨B,rfl,hB,hcb,hbw⟩:=hcut;obtain⟨hcs1,hcs2,hcs3,hcs4⟩:=HC.out;have kp:∀j,wc.cell? ⟨w.heap.size,j,none⟩=W.cell? ⟨w.heap.size,j,none⟩:=fun j=>World.cell?_of_block (w:=W) (hbw.block _ hlt)
  have k1:wc.cell? ⟨w.heap.size,1,none⟩=some (.int .u8 d):=(kp 1).trans hcs1;have k2:wc.cell? ⟨w.heap.size,2,none⟩=some (.int .u8 a):=(kp 2).trans hcs2;have k3:wc.cell? ⟨w.heap.size,3,none⟩=some (.int .u8 b):=(kp 3).trans hcs3;have k4:wc.cell? ⟨w.heap.size,4,none⟩=some (.int .u32 imm):=(kp 4).trans hcs4;have hu:=usesV_bd op;have H1:=Lh (fits (usesV op) d 1 hu.1 hu.2 d0 d1 (by omega) (by omega) B wc hcb);have H2:=Lh (fits (usesV op) a 2 hu.1 hu.2 a0 a1 (by omega) (by omega) B wc hcb);have H3:=Lh (fits (usesV op) b 4 hu.1 hu.2 b0 b1 (by omega) (by omega) B wc hcb);have HR:=Lh (HB.out.trans (hbw.mono HB.out.size));have hmf:∀(fn:Fn) (first cap:Array Value) (w:World),(Instr.makeFunc fn first cap).run Tryz.prog w=.ok (.func fn first cap) w:=fun _ _ _ _=>rfl
  clear kp hcs1 hcs2 hcs3 hcs4 hbw hB HC HB hopA hopB hopD hopV hopF hopZ hopG hidx hop hlt;generalize usesV op=u at*;generalize fitV d (bits .and .u8 u 1 != 0)=fd at*;generalize fitV a (bits .and .u8 u 2 != 0)=fa at*;generalize fitV b (bits .and .u8 u 4 != 0)=fb at*;cases hu0:(u == 0) with
  |true=>
   have:(u != 0)=false:=by rw[bne,hu0];rfl
   have HT:=Lh this;clear this;go_wp2;go_ret;exact⟨ret_int (by rw[HE.out,HT.out];first|rfl|(rw[hi8];rfl)|(rw[hi8,him];rfl)),HR.out⟩
  |false=>
   have:(u != 0)=true:=by rw[bne,hu0];rfl
   have HT:=Lh this;clear this;cases fd with
   |false=>
    go_wp2_with (go_at_call 283;(with_reducible refine H1.out.mono ?_);rintro e w2 ⟨rfl,rfl⟩);go_ret;exact⟨ret_int (by rw[HE.out,HT.out];first|rfl|(rw[hi8];rfl)|(rw[hi8,him];rfl)),HR.out⟩
   |true=>
    cases fa with
    |false=>
     go_wp2_with (go_at_call 283;first|((with_reducible refine H1.out.mono ?_);rintro e w2 ⟨rfl,rfl⟩)|((with_reducible refine H2.out.mono ?_);rintro e w2 ⟨rfl,rfl⟩));go_ret;exact⟨ret_int (by rw[HE.out,HT.out];first|rfl|(rw[hi8];rfl)|(rw[hi8,him];rfl)),HR.out⟩
    |true=>
     cases fb with
     |false=>
      go_wp2_with (go_at_call 283;first|((with_reducible refine H1.out.mono ?_);rintro e w2 ⟨rfl,rfl⟩)|((with_reducible refine H2.out.mono ?_);rintro e w2 ⟨rfl,rfl⟩)|((with_reducible refine H3.out.mono ?_);rintro e w2 ⟨rfl,rfl⟩));go_ret;exact⟨ret_int (by rw[HE.out,HT.out];first|rfl|(rw[hi8];rfl)|(rw[hi8,him];rfl)),HR.out⟩
     |true=>
      cases hi8:(bits .and .u8 u 8 != 0) with
      |true=>
       go_wp2_with (go_at_call 283;first|((with_reducible refine H1.out.mono ?_);rintro e w2 ⟨rfl,rfl⟩)|((with_reducible refine H2.out.mono ?_);rintro e w2 ⟨rfl,rfl⟩)|((with_reducible refine H3.out.mono ?_);rintro e w2 ⟨rfl,rfl⟩));go_ret;exact⟨ret_int (by rw[HE.out,HT.out];first|rfl|(rw[hi8];rfl)|(rw[hi8,him];rfl)),HR.out⟩
      |false=>
       cases him:(imm == 0) with
       |true=>
        go_wp2_with (go_at_call 283;first|((with_reducible refine H1.out.mono ?_);rintro e w2 ⟨rfl,rfl⟩)|((with_reducible refine H2.out.mono ?_);rintro e w2 ⟨rfl,rfl⟩)|((with_reducible refine H3.out.mono ?_);rintro e w2 ⟨rfl,rfl⟩));go_ret;exact⟨ret_int (by rw[HE.out,HT.out];first|rfl|(rw[hi8];rfl)|(rw[hi8,him];rfl)),HR.out⟩
       |false=>
        go_wp2_with (go_at_call 283;first|((with_reducible refine H1.out.mono ?_);rintro e w2 ⟨rfl,rfl⟩)|((with_reducible refine H2.out.mono ?_);rintro e w2 ⟨rfl,rfl⟩)|((with_reducible refine H3.out.mono ?_);rintro e w2 ⟨rfl,rfl⟩));go_ret;exact⟨ret_int (by rw[HE.out,HT.out];first|rfl|(rw[hi8];rfl)|(rw[hi8,him];rfl)),HR.out⟩
end Go.Proofs.YtnpicaigdfnmfaaGreat.Ins
namespace Go.Proofs.YtnpicaigdfnmfaaGreat.Ins
open Go.RowKit Word
theorem decode(s:ByteArray)(hm:s.size≤1048576)(w:World):Calls Tryz.prog 162 #[.string s] w fun e w'=>e=.returned (.tuple #[(decX s).val,.int .i64 (decE s)])∧Below w.heap.size w w':=by
 by_cases h8:s.size=8
 ·obtain⟨y0,y1,y2,y3,y4,y5,y6,y7,hn,b0,b1,b2,b3,b4,b5,b6,b7⟩:=eight h8;have g0:((s[0]'(by omega)).toNat:Int)=y0:=by rw[nums_get,hn];rfl
  have g1:((s[1]'(by omega)).toNat:Int)=y1:=by rw[nums_get,hn];rfl
  have g2:((s[2]'(by omega)).toNat:Int)=y2:=by rw[nums_get,hn];rfl
  have g3:((s[3]'(by omega)).toNat:Int)=y3:=by rw[nums_get,hn];rfl
  have hd:decI s=⟨y0,y1 % 16,y1 / 16,y2,getV [y4,y5,y6,y7]⟩:=by unfold decI;rw[hn];rfl
  cases h3:(y3 != 0) with
  |true=>
   go_enter func162,ntmps162;go_wp2;refine bodyPost_ret (v:=.tuple #[nix.val,.int .i64 7]) (by simp[results,Tryz.results162,go_sem,val,nix]) rfl ⟨?_,Ba _⟩;have hB:decB s=false:=by unfold decB;rw[hn];simp only[List.getD,List.getElem?_cons_zero,List.getElem?_cons_succ,Option.getD_some];rw[show(y3 == 0)=false by simpa [bne] using h3];simp
   unfold decX decE;rw[hB];rfl
  |false=>
   have hg:nums (s.extract 4 8)=[y4,y5,y6,y7]:=by
    have:=nums_drop s 4;rw[h8] at this;rw[this,hn];rfl
   have hgs:(s.extract 4 8).size=4:=by rw[←nums_length,hg];rfl
   have Hg:=Lh (get_ok (s.extract 4 8) (by omega) (by omega));rw[hg] at Hg;have hvb:=getV_bd [y4,y5,y6,y7] (by intro x hx;simp at hx;omega);have hv0:=hvb.1;have hv1:getV [y4,y5,y6,y7]≤4294967295:=by have:=hvb.2;simp at this;omega
   generalize getV [y4,y5,y6,y7]=v at*;go_enter func162,ntmps162;go_wp2_with (go_at_call 175;(with_reducible refine(Hg.out _).mono ?_);rintro e w2 ⟨rfl,rfl⟩);go_region;go_wp2_with fail;generalize hW1:((w.alloc (.cells #[Value.int .u8 0,.int .u8 0,.int .u8 0,.int .u8 0,.int .u32 0] 116)).alloc (.cells #[Value.int .u8 y0,.int .u8 (y1 % 16),.int .u8 (y1 / 16),.int .u8 y2,.int .u32 v] 116)).drew=W1 at*;have hbl:Below w.heap.size w W1:=by rw[←hW1];exact((Ba _).alloc (by simp) _).drew
   have hsz:W1.heap.size=w.heap.size+2:=by rw[←hW1];simp
   have c1:W1.heap[w.heap.size+1]? =some (.cells #[Value.int .u8 y0,.int .u8 (y1 % 16),.int .u8 (y1 / 16),.int .u8 y2,.int .u32 v] 116 (0,0)):=by
    rw[←hW1];have h:=heap_alloc_new (w.alloc (.cells #[Value.int .u8 0,.int .u8 0,.int .u8 0,.int .u8 0,.int .u32 0] 116)) (.cells #[Value.int .u8 y0,.int .u8 (y1 % 16),.int .u8 (y1 / 16),.int .u8 y2,.int .u32 v] 116)
    rwa [show(w.alloc (.cells #[Value.int .u8 0,.int .u8 0,.int .u8 0,.int .u8 0,.int .u32 0] 116)).heap.size=w.heap.size+1 by simp] at h
   have c0:W1.heap[w.heap.size]? =some (.cells #[Value.int .u8 0,.int .u8 0,.int .u8 0,.int .u8 0,.int .u32 0] 116 (0,0)):=by
    rw[←hW1];exact(Below.heap_alloc _ _ _ (by simp)).trans (heap_alloc_new w _)
   have hck:=check ⟨y0,y1 % 16,y1 / 16,y2,v⟩ (by constructor<;>simp only<;>omega) W1;have hH:Hid (∀w3,Below W1.heap.size W1 w3→Below w.heap.size w w3∧w3.heap[w.heap.size+1]? =some (.cells #[Value.int .u8 y0,.int .u8 (y1 % 16),.int .u8 (y1 / 16),.int .u8 y2,.int .u32 v] 116 (0,0))∧w3.heap[w.heap.size]? =some (.cells #[Value.int .u8 0,.int .u8 0,.int .u8 0,.int .u8 0,.int .u32 0] 116 (0,0))):=Lh fun w3 hb=>⟨hbl.trans (hb.mono hbl.size),(hb.block _ (by omega)).trans c1,(hb.block _ (by omega)).trans c0⟩
   have HX:Hid (decX s=(if mayV ⟨y0,y1 % 16,y1 / 16,y2,v⟩ then⟨y0,y1 % 16,y1 / 16,y2,v⟩ else nix)∧decE s=(if mayV ⟨y0,y1 % 16,y1 / 16,y2,v⟩ then 0 else 7)):=Lh (by
    have hB:decB s=mayV ⟨y0,y1 % 16,y1 / 16,y2,v⟩:=by
     unfold decB;rw[hd,hn,h8];simp only[List.getD,List.getElem?_cons_zero,List.getElem?_cons_succ,Option.getD_some];rw[show(y3 == 0)=true by simpa [bne] using h3]
     simp
    unfold decX decE;rw[hB,hd];exact⟨rfl,rfl⟩)
   refine hck.mono ?_;rintro e w3 ⟨rfl,hb3⟩;obtain⟨hb,c1,c0⟩:=hH.out w3 hb3;have HB:=Lh hb;have q0:w3.cell? ⟨w.heap.size+1,0,none⟩=some (.int .u8 y0):=by unfold World.cell?;rw[c1];rfl
   have q1:w3.cell? ⟨w.heap.size+1,1,none⟩=some (.int .u8 (y1 % 16)):=by unfold World.cell?;rw[c1];rfl
   have q2:w3.cell? ⟨w.heap.size+1,2,none⟩=some (.int .u8 (y1 / 16)):=by unfold World.cell?;rw[c1];rfl
   have q3:w3.cell? ⟨w.heap.size+1,3,none⟩=some (.int .u8 y2):=by unfold World.cell?;rw[c1];rfl
   have q4:w3.cell? ⟨w.heap.size+1,4,none⟩=some (.int .u32 v):=by unfold World.cell?;rw[c1];rfl
   have r0:w3.cell? ⟨w.heap.size,0,none⟩=some (.int .u8 0):=by unfold World.cell?;rw[c0];rfl
   have r1:w3.cell? ⟨w.heap.size,1,none⟩=some (.int .u8 0):=by unfold World.cell?;rw[c0];rfl
   have r2:w3.cell? ⟨w.heap.size,2,none⟩=some (.int .u8 0):=by unfold World.cell?;rw[c0];rfl
   have r3:w3.cell? ⟨w.heap.size,3,none⟩=some (.int .u8 0):=by unfold World.cell?;rw[c0];rfl
   have r4:w3.cell? ⟨w.heap.size,4,none⟩=some (.int .u32 0):=by unfold World.cell?;rw[c0];rfl
   have fr:∀j,w3.frozen? ⟨w.heap.size,j,none⟩=false:=fun j=>by unfold World.frozen?;rw[c0];rfl
   have t0:=fr 0;have t1:=fr 1;have t2:=fr 2;have t3:=fr 3;have t4:=fr 4;clear c1 c0 hb hb3 hck hH hbl hsz fr hd hn hg hgs Hg hvb;cases hm:mayV ⟨y0,y1 % 16,y1 / 16,y2,v⟩ with
   |true=>
    unfold encE;rw[hm];rw[hm] at HX;go_wp2_with fail;refine bodyPost_ret (v:=.tuple #[Ins.val ⟨y0,y1 % 16,y1 / 16,y2,v⟩,.int .i64 0]) (by simp[results,Tryz.results162,go_sem,val, *]) rfl ⟨?_,((((HB.out.setCell (Nat.le_refl _) _).setCell (Nat.le_refl _) _).setCell (Nat.le_refl _) _).setCell (Nat.le_refl _) _).setCell (Nat.le_refl _) _⟩;rw[HX.out.1,HX.out.2];rfl
   |false=>
    unfold encE;rw[hm];rw[hm] at HX;go_wp2_with fail;refine bodyPost_ret (v:=.tuple #[nix.val,.int .i64 7]) (by simp[results,Tryz.results162,go_sem,val,nix, *]) rfl ⟨?_,((((HB.out.setCell (Nat.le_refl _) _).setCell (Nat.le_refl _) _).setCell (Nat.le_refl _) _).setCell (Nat.le_refl _) _).setCell (Nat.le_refl _) _⟩;rw[HX.out.1,HX.out.2];rfl
 ·have HX:Hid (decX s=nix∧decE s=7):=Lh (by
   have hB:decB s=false:=by
    cases hB:decB s with
    |false=>rfl
    |true=>exact absurd (decB_size hB) h8
   unfold decX decE;rw[hB];exact⟨rfl,rfl⟩)
  have h8':((s.size:Int) != 8)=true:=by simpa using (by omega:(s.size:Int)≠8)
  go_enter func162,ntmps162;go_wp2;refine bodyPost_ret (v:=.tuple #[nix.val,.int .i64 7]) (by simp[results,Tryz.results162,go_sem,val,nix]) rfl ⟨?_,Ba _⟩;rw[HX.out.1,HX.out.2]
end Go.Proofs.YtnpicaigdfnmfaaGreat.Ins
namespace Go.Proofs.YtnpicaigdfnmfaaGreat
open Go.RowKit Word
namespace Cp
def StPost(w:World)(cb sb mb:Nat)(A:List Pg)(o:Out)(e:Ending)(w':World):Prop:=
 e=.returned o.stop∧Cpu 155 w' cb o.r o.pc∧Spc w' sb mb o.A∧Mod (fun k=>k=cb∨Sp.pgBlk A k) w w'
def stopV(k n y:Int):Value:=.agg #[.int .u8 k,.int .u32 n,.int .i64 y]
section
variable {w:World} {cb sb mb:Nat} {A:List Pg} {r:List Int} {pc:Int}
theorem fetch_no(hf:Sp.fitsB A pc 8 4=false):Sp.getE A pc 8 4=50:=by
 unfold Sp.getE;rw[if_neg (by omega)];exact Sp.fitsE_no hf
theorem fetch_yes(hf:Sp.fitsB A pc 8 4=true):Sp.getE A pc 8 4=0∧Sp.getS A pc 8 4=strOfNums (Sp.getL A pc 8):=by
 unfold Sp.getE Sp.getS;rw[if_neg (by omega),if_neg (by omega)];refine⟨Sp.fitsE_yes hf, ?_⟩
 show(if Sp.fitsB A pc 8 4=true then _ else _)=_
 rw[if_pos hf];rfl
structure RsBox(W:World)(b:Nat):Prop where
 blk:W.heap[b]? =some (.cells #[.int .u8 0,.int .u32 0,.int .i64 0] 175 (0,0))
theorem RsBox.frame{W w':World}{b:Nat}(h:RsBox W b)(e:w'.heap[b]? =W.heap[b]?):RsBox w' b:=⟨e.trans h.blk⟩
theorem RsBox.cells{W:World}{b:Nat}(h:RsBox W b):W.cell? ⟨b,0,none⟩=some (.int .u8 0)∧W.cell? ⟨b,1,none⟩=some (.int .u32 0)∧W.cell? ⟨b,2,none⟩=some (.int .i64 0)∧W.frozen? ⟨b,0,none⟩=false∧W.frozen? ⟨b,1,none⟩=false∧W.frozen? ⟨b,2,none⟩=false:=by
 unfold World.cell? World.frozen?;rw[h.blk];exact⟨rfl,rfl,rfl,rfl,rfl,rfl⟩
theorem below_set3{B:Nat}{a W:World}(h:Below B a W){b:Nat}(hb:B≤b)(x y z:Value):Below B a (((W.setCell ⟨b,0,none⟩ x).setCell ⟨b,1,none⟩ y).setCell ⟨b,2,none⟩ z):=
 ((h.setCell hb _).setCell hb _).setCell hb _
theorem step_fault(hc:Cpu 155 w cb r pc)(hs:Spc w sb mb A)(hf:Sp.fitsB A pc 8 4=false):
  Calls Tryz.prog 117 #[.pointer (some ⟨cb,0,none⟩),.pointer (some ⟨sb,0,none⟩)] w fun e w'=>e=.returned (stopV 2 0 50)∧Below w.heap.size w w':=by
 have hE:=fetch_no hf;have hbW:Below w.heap.size w (w.alloc (.cells #[.int .u8 0,.int .u32 0,.int .i64 0] 175)):=Ba _;have hcp:=(hc.below hbW).cellPc;have hF:=Sp.fetch (hs.below hbW fun _ hk=>hs.lt hk) pc hc.p0 hc.p1;rw[hE] at hF;have HF:=Lh hF;have HB:=Lh hbW;have HR:=Lh (⟨heap_alloc_new w _⟩:RsBox (w.alloc (.cells #[.int .u8 0,.int .u32 0,.int .i64 0] 175)) w.heap.size);clear hc hs hbW hE hf hF;go_enter func117,ntmps117;go_wp2_with fail;refine HF.out.mono ?_;rintro e w1 ⟨rfl,hb1⟩;obtain⟨c0,c1,c2,f0,f1,f2⟩:=(HR.out.frame (hb1.block _ (by simp))).cells;have HB1:=Lh (bQ HB.out hb1);clear hb1;go_wp2;refine bodyPost_ret (v:=stopV 2 0 50) (by simp[results,Tryz.results117,go_sem,stopV, *]) rfl ⟨rfl,below_set3 HB1.out (Nat.le_refl _) _ _ _⟩
theorem step_form(hc:Cpu 155 w cb r pc)(hs:Spc w sb mb A)(hf:Sp.fitsB A pc 8 4=true)(hd:Ins.decB (strOfNums (Sp.getL A pc 8))=false):
  Calls Tryz.prog 117 #[.pointer (some ⟨cb,0,none⟩),.pointer (some ⟨sb,0,none⟩)] w fun e w'=>e=.returned (stopV 2 0 7)∧Below w.heap.size w w':=by
 have hE:=fetch_yes hf;have hbW:Below w.heap.size w (w.alloc (.cells #[.int .u8 0,.int .u32 0,.int .i64 0] 175)):=Ba _;have hcp:=(hc.below hbW).cellPc;have hF:=Sp.fetch (hs.below hbW fun _ hk=>hs.lt hk) pc hc.p0 hc.p1;rw[hE.1,hE.2] at hF;have HF:=Lh hF;have HB:=Lh hbW;have HR:=Lh (⟨heap_alloc_new w _⟩:RsBox (w.alloc (.cells #[.int .u8 0,.int .u32 0,.int .i64 0] 175)) w.heap.size);have HD:Hid (∀W,Calls Tryz.prog 162 #[.string (strOfNums (Sp.getL A pc 8))] W fun e w'=>e=.returned (.tuple #[Ins.nix.val,.int .i64 7])∧Below W.heap.size W w'):=Lh fun W=>by
  have h:=Ins.decode (strOfNums (Sp.getL A pc 8)) (by rw[size_strOfNums,Sp.getL_length];omega) W;unfold Ins.decX Ins.decE at h;rw[hd] at h;exact h
 generalize strOfNums (Sp.getL A pc 8)=S at*;clear hc hs hbW hE hf hF hd;go_enter func117,ntmps117;go_wp2_with fail;refine HF.out.mono ?_;rintro e w1 ⟨rfl,hb1⟩;have HR1:=Lh (HR.out.frame (hb1.block _ (by simp)));have HB1:=Lh (bQ HB.out hb1);clear hb1;go_wp2_with fail;refine(HD.out _).mono ?_;rintro e w2 ⟨rfl,hb2⟩;have hs1:=HR1.out.blk;have HR2:=Lh (HR1.out.frame (hb2.block _ (lQ hs1)));have HB2:=Lh (bQ HB1.out hb2);have hlt:=lQ HR2.out.blk;have HA:Hid (∀o,RsBox (w2.alloc o) w.heap.size∧Below w.heap.size w (w2.alloc o)):=Lh fun o=>⟨HR2.out.frame (Below.heap_alloc _ _ _ hlt),HB2.out.alloc HB2.out.size _⟩
 clear hb2 hs1;unfold Ins.nix Ins.val;simp only;obtain⟨c0,c1,c2,f0,f1,f2⟩:=HR2.out.cells;go_wp2;refine bodyPost_ret (v:=stopV 2 0 7) (by simp[results,Tryz.results117,go_sem,stopV, *]) rfl ⟨rfl,(below_set3 HB2.out (Nat.le_refl _) _ _ _).alloc (Nat.le_trans HB2.out.size (by simp)) _⟩
end
end Cp
open Go.RowKit Word
namespace Cp
section
variable {w:World} {cb sb mb:Nat} {A:List Pg} {r:List Int} {pc:Int}
def insCells(x:Ins):Array Value:= #[.int .u8 x.op,.int .u8 x.d,.int .u8 x.a,.int .u8 x.b,.int .u32 x.imm]
def doW(w2:World)(cb sb:Nat)(pc:Int)(x:Ins):World:=(w2.alloc (.cells (insCells x) 116)).alloc (.cells #[.pointer (some ⟨cb,0,none⟩),.pointer (some ⟨sb,0,none⟩),.int .u32 (next pc),.int .i64 0] 327)
theorem doW_ws{w2:World}(hc:Cpu 155 w2 cb r pc)(hs:Spc w2 sb mb A)(hn:¬Spc.foot sb mb A cb)(x:Ins):WS (doW w2 cb sb pc x) (w2.heap.size+1) cb sb mb A r pc (next pc) 0:=by
 have hb:Below w2.heap.size w2 (doW w2 cb sb pc x):=(Ba _).alloc (by simp) _;have h:=heap_alloc_new (w2.alloc (.cells (insCells x) 116)) (.cells #[.pointer (some ⟨cb,0,none⟩),.pointer (some ⟨sb,0,none⟩),.int .u32 (next pc),.int .i64 0] 327);rw[show(w2.alloc (.cells (insCells x) 116)).heap.size=w2.heap.size+1 by simp] at h;exact⟨⟨h,(next_bd pc).1,(next_bd pc).2⟩,hc.below hb,hs.below hb fun _ hk=>hs.lt hk,by have:=hc.lt;omega,hn,fun g=>by have:=hs.lt g;omega⟩
structure After(w w2 w4:World)(cb:Nat)(A:List Pg)(x:Ins):Prop where
 rs:RsBox w4 w.heap.size
 bx:w4.heap[w2.heap.size]? =some (.cells (insCells x) 116 (0,0))
 mod:Mod (fun k=>k=cb∨Sp.pgBlk A k) w w4
theorem after{w2 w3 w4:World}(hb:Below w.heap.size w w2)(hr:RsBox w2 w.heap.size)(hc:Cpu 155 w cb r pc)(hs:Spc w sb mb A)(x:Ins)(hb3:Below (doW w2 cb sb pc x).heap.size (doW w2 cb sb pc x) w3)(hm:Mod (fun k=>k=cb∨k=w2.heap.size+1∨Sp.pgBlk A k) w3 w4):After w w2 w4 cb A x:=by
 have h1:=lQ hr.blk;have h2:=hc.lt;have hp:∀k,Sp.pgBlk A k→k<w.heap.size:=fun k hk=>hs.lt (.inr (.inr hk))
 have hsz:(doW w2 cb sb pc x).heap.size=w2.heap.size+2:=by simp[doW]
 have hs3:=hb3.size;have hwb:Below w2.heap.size w2 (doW w2 cb sb pc x):=(Ba _).alloc (by simp) _;refine⟨⟨?_⟩, ?_, ?_⟩
 ·rw[hm.block w.heap.size (by omega) (by rintro(g|g|g);omega;omega;have:=hp _ g;omega),hb3.block _ (by omega),hwb.block _ h1];exact hr.blk
 ·rw[hm.block w2.heap.size (by omega) (by rintro(g|g|g);omega;omega;have:=hp _ g;omega),hb3.block _ (by omega)];exact(Below.heap_alloc _ _ _ (by simp)).trans (heap_alloc_new w2 _)
 ·exact(((Mod.of_below hb _).same (Mod.of_below hwb _)).same (Mod.of_below hb3 _)).trans hm fun i hi g=>by
   rcases g with g|g|g
   ·exact .inl (.inl g)
   ·exact .inr (by omega)
   ·exact .inl (.inr g)
theorem doW_box{w2 w3:World}(x:Ins)(hb3:Below (doW w2 cb sb pc x).heap.size (doW w2 cb sb pc x) w3):w3.heap[w2.heap.size]? =some (.cells (insCells x) 116 (0,0)):=
 (hb3.block _ (by simp[doW];omega)).trans ((Below.heap_alloc _ _ _ (by simp)).trans (heap_alloc_new w2 _))
theorem box_cells{W:World}{b:Nat}{x:Ins}(h:W.heap[b]? =some (.cells (insCells x) 116 (0,0))):W.cell? ⟨b,0,none⟩=some (.int .u8 x.op)∧W.cell? ⟨b,1,none⟩=some (.int .u8 x.d)∧W.cell? ⟨b,2,none⟩=some (.int .u8 x.a)∧W.cell? ⟨b,3,none⟩=some (.int .u8 x.b)∧W.cell? ⟨b,4,none⟩=some (.int .u32 x.imm):=by
 unfold World.cell?;rw[h];exact⟨rfl,rfl,rfl,rfl,rfl⟩
theorem set3_cpu{V:World}{cb b:Nat}{r:List Int}{pc:Int}(h:Cpu 155 V cb r pc)(hne:cb≠b)(x y z:Value):Cpu 155 (((V.setCell ⟨b,0,none⟩ x).setCell ⟨b,1,none⟩ y).setCell ⟨b,2,none⟩ z) cb r pc:=
 h.frame (by rw[Below.heap_setCell _ _ _ _ hne,Below.heap_setCell _ _ _ _ hne,Below.heap_setCell _ _ _ _ hne])
theorem set3_spc{V:World}{sb mb b:Nat}{A:List Pg}(h:Spc V sb mb A)(hne:∀k,Spc.foot sb mb A k→k≠b)(x y z:Value):Spc (((V.setCell ⟨b,0,none⟩ x).setCell ⟨b,1,none⟩ y).setCell ⟨b,2,none⟩ z) sb mb A:=
 h.frame fun k hk=>by rw[Below.heap_setCell _ _ _ _ (hne k hk),Below.heap_setCell _ _ _ _ (hne k hk),Below.heap_setCell _ _ _ _ (hne k hk)]
theorem set3_mod{F:Nat→Prop}{a V:World}(h:Mod F a V){b:Nat}(hb:a.heap.size≤b)(x y z:Value):Mod F a (((V.setCell ⟨b,0,none⟩ x).setCell ⟨b,1,none⟩ y).setCell ⟨b,2,none⟩ z):=
 ((h.setCell _ (.inr hb) _).setCell _ (.inr hb) _).setCell _ (.inr hb) _
theorem setPc_spc{V:World}{sb mb cb:Nat}{A:List Pg}(h:Spc V sb mb A)(hne:¬Spc.foot sb mb A cb)(v:Value):Spc (V.setCell ⟨cb,16,none⟩ v) sb mb A:=
 h.frame fun k hk=>Below.heap_setCell _ _ _ _ (fun e=>hne (by have e':k=cb:=e;rw[←e'];exact hk))
theorem nilFn(k:Nat)(w:World):(binOp .neq 329 (.func (.func k) #[] #[]) .nilFunc).run Tryz.prog w=.ok (.bool true) w:=by kernel_rfl
theorem nilFn0(w:World):(binOp .neq 329 .nilFunc .nilFunc).run Tryz.prog w=.ok (.bool false) w:=by kernel_rfl
theorem step_do(hc:Cpu 155 w cb r pc)(hs:Spc w sb mb A)(hn:¬Spc.foot sb mb A cb)(hf:Sp.fitsB A pc 8 4=true)(x:Ins)(hd:Ins.decB (strOfNums (Sp.getL A pc 8))=true)(hx:Ins.decI (strOfNums (Sp.getL A pc 8))=x)(h50:(x.op == 50)=false)
  (k:Nat) (henter:∀args W,(callFunc k args).run Tryz.prog W=.ok (.enter k args) W) (hfind:∀W,Calls Tryz.prog 163 #[.int .u8 x.op] W fun e w'=>e=.returned (.func (.func k) #[] #[])∧Below W.heap.size W w')
  (A':List Pg) (hft:∀k,Spc.foot sb mb A' k→Spc.foot sb mb A k) (r':List Int) (nx':Int) (hdo:∀W wb,WS W wb cb sb mb A r pc (next pc) 0→Calls Tryz.prog k #[.pointer (some ⟨wb,0,none⟩),x.val] W (WkPost W wb cb sb mb A A' r' pc nx' 0)):
  Calls Tryz.prog 117 #[.pointer (some ⟨cb,0,none⟩),.pointer (some ⟨sb,0,none⟩)] w (StPost w cb sb mb A (goes A' r' nx')):=by
 have hE:=fetch_yes hf;have hbW:Below w.heap.size w (w.alloc (.cells #[.int .u8 0,.int .u32 0,.int .i64 0] 175)):=Ba _;have hcp:=(hc.below hbW).cellPc;have hF:=Sp.fetch (hs.below hbW fun _ hk=>hs.lt hk) pc hc.p0 hc.p1;rw[hE.1,hE.2] at hF;have HF:=Lh hF;have HB:=Lh hbW;have HR:=Lh (⟨heap_alloc_new w _⟩:RsBox (w.alloc (.cells #[.int .u8 0,.int .u32 0,.int .i64 0] 175)) w.heap.size);have HD:Hid (∀W,Calls Tryz.prog 162 #[.string (strOfNums (Sp.getL A pc 8))] W fun e w'=>e=.returned (.tuple #[x.val,.int .i64 0])∧Below W.heap.size W w'):=Lh fun W=>by
  have h:=Ins.decode (strOfNums (Sp.getL A pc 8)) (by rw[size_strOfNums,Sp.getL_length];omega) W;unfold Ins.decX Ins.decE at h;rw[hd,hx] at h;exact h
 have HFin:Hid (∀w',Cpu 155 w' cb r' nx'→Spc w' sb mb A'→Mod (fun k=>k=cb∨Sp.pgBlk A k) w w'→StPost w cb sb mb A (goes A' r' nx') (.returned (stopV 0 0 0)) w'):=Lh fun w' g1 g2 g3=>⟨rfl,g1,g2,g3⟩
 generalize StPost w cb sb mb A (goes A' r' nx')=PQ at*;generalize strOfNums (Sp.getL A pc 8)=S at*;have hnf:=nilFn k;have HFt:Hid (∀k,Spc.foot sb mb A' k→k≠w.heap.size):=Lh fun k hk=>by have:=hs.lt (hft k hk);omega
 have HC:=Lh hc;have HS:=Lh hs;have HN:=Lh hn;have HFd:=Lh hfind;have HDo:=Lh hdo;have hnx:IntKind.u32.wrap (pc+8)=next pc:=by rw[IntKind.wrap_u32'];rfl
 clear hc hs hn hbW hE hf hF hd hx hfind hdo hft;obtain⟨op,d,a,b,imm⟩:=x;simp only at h50;unfold Ins.val at HD HDo;simp only at HD HDo HFd;go_enter func117,ntmps117;go_wp2_with fail;refine HF.out.mono ?_;rintro e w1 ⟨rfl,hb1⟩;have HR1:=Lh (HR.out.frame (hb1.block _ (by simp)));have HB1:=Lh (bQ HB.out hb1);clear hb1;go_wp2_with fail;refine(HD.out _).mono ?_;rintro e w2 ⟨rfl,hb2⟩;have hs1:=HR1.out.blk;have HR2:=Lh (HR1.out.frame (hb2.block _ (lQ hs1)));have HB2:=Lh (bQ HB1.out hb2);have hq1:=(HC.out.below HB2.out).cellPc;have hq2:=HC.out.lt;have hq3:=HB2.out.size;have hq4:cb<w2.heap.size:=by omega
 clear hb2 hs1;go_wp2_with fail;refine(HFd.out _).mono ?_;rintro e w3 ⟨rfl,hb3⟩;have hb3':Below (doW w2 cb sb pc ⟨op,d,a,b,imm⟩).heap.size (doW w2 cb sb pc ⟨op,d,a,b,imm⟩) w3:=hb3;have HB3:=Lh hb3';have HW3:=Lh ((doW_ws (HC.out.below HB2.out) (HS.out.below HB2.out fun _ hk=>HS.out.lt hk) HN.out ⟨op,d,a,b,imm⟩).below hb3');obtain⟨y0,y1,y2,y3,y4⟩:=box_cells (doW_box ⟨op,d,a,b,imm⟩ hb3');simp only at y0 y1 y2 y3 y4;clear hb3 hb3';go_wp2_with fail;refine(HDo.out w3 _ HW3.out).mono ?_;rintro e w4 ⟨rfl,hw4,hm4⟩;have ha:=after HB2.out HR2.out HC.out HS.out ⟨op,d,a,b,imm⟩ HB3.out hm4;have z2:=hw4.cell2;have z3:=hw4.cell3;have zp:=hw4.cp.cellPc;have zf:=hw4.cp.thaw 16;obtain⟨x0,_,_,_,x4⟩:=box_cells ha.bx;simp only at x0 x4;obtain⟨c0,c1,c2,f0,f1,f2⟩:=ha.rs.cells;have hbc:w.heap.size≠cb:=by have:=HC.out.lt;omega
 have hbb:w2.heap.size≠cb:=by omega
 have HW4:=Lh hw4;have HA:=Lh ha;clear hw4 hm4 ha y0 y1 y2 y3 y4 hq1 hq2 hq3 hq4;go_wp2;refine bodyPost_ret (v:=stopV 0 0 0) (by simp[results,Tryz.results117,go_sem,stopV, *]) rfl ?_;exact HFin.out _ (set3_cpu (HW4.out.cp.setPc nx' HW4.out.wk.n0 HW4.out.wk.n1) (fun e=>hbc e.symm) _ _ _) (set3_spc (setPc_spc HW4.out.sp HW4.out.n2 _) HFt.out _ _ _) (set3_mod (HA.out.mod.setCell _ (.inl (.inl rfl)) _) (Nat.le_refl _) _ _ _)
theorem step_dof(hc:Cpu 155 w cb r pc)(hs:Spc w sb mb A)(hn:¬Spc.foot sb mb A cb)(hf:Sp.fitsB A pc 8 4=true)(x:Ins)(hd:Ins.decB (strOfNums (Sp.getL A pc 8))=true)(hx:Ins.decI (strOfNums (Sp.getL A pc 8))=x)(h50:(x.op == 50)=false)
  (k:Nat) (henter:∀args W,(callFunc k args).run Tryz.prog W=.ok (.enter k args) W) (hfind:∀W,Calls Tryz.prog 163 #[.int .u8 x.op] W fun e w'=>e=.returned (.func (.func k) #[] #[])∧Below W.heap.size W w')
  (A':List Pg) (hft:∀k,Spc.foot sb mb A' k→Spc.foot sb mb A k) (r':List Int) (nx':Int) (hdo:∀W wb,WS W wb cb sb mb A r pc (next pc) 0→Calls Tryz.prog k #[.pointer (some ⟨wb,0,none⟩),x.val] W (WkPost W wb cb sb mb A A' r' pc nx' 50)):
  Calls Tryz.prog 117 #[.pointer (some ⟨cb,0,none⟩),.pointer (some ⟨sb,0,none⟩)] w (StPost w cb sb mb A (faults A' r' pc 50)):=by
 have hE:=fetch_yes hf;have hbW:Below w.heap.size w (w.alloc (.cells #[.int .u8 0,.int .u32 0,.int .i64 0] 175)):=Ba _;have hcp:=(hc.below hbW).cellPc;have hF:=Sp.fetch (hs.below hbW fun _ hk=>hs.lt hk) pc hc.p0 hc.p1;rw[hE.1,hE.2] at hF;have HF:=Lh hF;have HB:=Lh hbW;have HR:=Lh (⟨heap_alloc_new w _⟩:RsBox (w.alloc (.cells #[.int .u8 0,.int .u32 0,.int .i64 0] 175)) w.heap.size);have HD:Hid (∀W,Calls Tryz.prog 162 #[.string (strOfNums (Sp.getL A pc 8))] W fun e w'=>e=.returned (.tuple #[x.val,.int .i64 0])∧Below W.heap.size W w'):=Lh fun W=>by
  have h:=Ins.decode (strOfNums (Sp.getL A pc 8)) (by rw[size_strOfNums,Sp.getL_length];omega) W;unfold Ins.decX Ins.decE at h;rw[hd,hx] at h;exact h
 have HFin:Hid (∀w',Cpu 155 w' cb r' pc→Spc w' sb mb A'→Mod (fun k=>k=cb∨Sp.pgBlk A k) w w'→StPost w cb sb mb A (faults A' r' pc 50) (.returned (stopV 2 0 50)) w'):=Lh fun w' g1 g2 g3=>⟨rfl,g1,g2,g3⟩
 generalize StPost w cb sb mb A (faults A' r' pc 50)=PQ at*;generalize strOfNums (Sp.getL A pc 8)=S at*;have hnf:=nilFn k;have HFt:Hid (∀k,Spc.foot sb mb A' k→k≠w.heap.size):=Lh fun k hk=>by have:=hs.lt (hft k hk);omega
 have HC:=Lh hc;have HS:=Lh hs;have HN:=Lh hn;have HFd:=Lh hfind;have HDo:=Lh hdo;have hnx:IntKind.u32.wrap (pc+8)=next pc:=by rw[IntKind.wrap_u32'];rfl
 clear hc hs hn hbW hE hf hF hd hx hfind hdo hft;obtain⟨op,d,a,b,imm⟩:=x;simp only at h50;unfold Ins.val at HD HDo;simp only at HD HDo HFd;go_enter func117,ntmps117;go_wp2_with fail;refine HF.out.mono ?_;rintro e w1 ⟨rfl,hb1⟩;have HR1:=Lh (HR.out.frame (hb1.block _ (by simp)));have HB1:=Lh (bQ HB.out hb1);clear hb1;go_wp2_with fail;refine(HD.out _).mono ?_;rintro e w2 ⟨rfl,hb2⟩;have hs1:=HR1.out.blk;have HR2:=Lh (HR1.out.frame (hb2.block _ (lQ hs1)));have HB2:=Lh (bQ HB1.out hb2);have hq1:=(HC.out.below HB2.out).cellPc;have hq2:=HC.out.lt;have hq3:=HB2.out.size;have hq4:cb<w2.heap.size:=by omega
 clear hb2 hs1;go_wp2_with fail;refine(HFd.out _).mono ?_;rintro e w3 ⟨rfl,hb3⟩;have hb3':Below (doW w2 cb sb pc ⟨op,d,a,b,imm⟩).heap.size (doW w2 cb sb pc ⟨op,d,a,b,imm⟩) w3:=hb3;have HB3:=Lh hb3';have HW3:=Lh ((doW_ws (HC.out.below HB2.out) (HS.out.below HB2.out fun _ hk=>HS.out.lt hk) HN.out ⟨op,d,a,b,imm⟩).below hb3');obtain⟨y0,y1,y2,y3,y4⟩:=box_cells (doW_box ⟨op,d,a,b,imm⟩ hb3');simp only at y0 y1 y2 y3 y4;clear hb3 hb3';go_wp2_with fail;refine(HDo.out w3 _ HW3.out).mono ?_;rintro e w4 ⟨rfl,hw4,hm4⟩;have ha:=after HB2.out HR2.out HC.out HS.out ⟨op,d,a,b,imm⟩ HB3.out hm4;have z2:=hw4.cell2;have z3:=hw4.cell3;have zp:=hw4.cp.cellPc;have zf:=hw4.cp.thaw 16;obtain⟨x0,_,_,_,x4⟩:=box_cells ha.bx;simp only at x0 x4;obtain⟨c0,c1,c2,f0,f1,f2⟩:=ha.rs.cells;have hbc:w.heap.size≠cb:=by have:=HC.out.lt;omega
 have hbb:w2.heap.size≠cb:=by omega
 have HW4:=Lh hw4;have HA:=Lh ha;clear hw4 hm4 ha y0 y1 y2 y3 y4 hq1 hq2 hq3 hq4;go_wp2;refine bodyPost_ret (v:=stopV 2 0 50) (by simp[results,Tryz.results117,go_sem,stopV, *]) rfl ?_;exact HFin.out _ (set3_cpu HW4.out.cp (fun e=>hbc e.symm) _ _ _) (set3_spc HW4.out.sp HFt.out _ _ _) (set3_mod HA.out.mod (Nat.le_refl _) _ _ _)
theorem step_sys(hc:Cpu 155 w cb r pc)(hs:Spc w sb mb A)(hn:¬Spc.foot sb mb A cb)(hf:Sp.fitsB A pc 8 4=true)(x:Ins)(hd:Ins.decB (strOfNums (Sp.getL A pc 8))=true)(hx:Ins.decI (strOfNums (Sp.getL A pc 8))=x)(h50:(x.op == 50)=true)
  (hfind:∀W,Calls Tryz.prog 163 #[.int .u8 x.op] W fun e w'=>e=.returned .nilFunc∧Below W.heap.size W w'):
  Calls Tryz.prog 117 #[.pointer (some ⟨cb,0,none⟩),.pointer (some ⟨sb,0,none⟩)] w (StPost w cb sb mb A ⟨1,x.imm,0,r,next pc,A⟩):=by
 have hE:=fetch_yes hf;have hbW:Below w.heap.size w (w.alloc (.cells #[.int .u8 0,.int .u32 0,.int .i64 0] 175)):=Ba _;have hcp:=(hc.below hbW).cellPc;have hF:=Sp.fetch (hs.below hbW fun _ hk=>hs.lt hk) pc hc.p0 hc.p1;rw[hE.1,hE.2] at hF;have HF:=Lh hF;have HB:=Lh hbW;have HR:=Lh (⟨heap_alloc_new w _⟩:RsBox (w.alloc (.cells #[.int .u8 0,.int .u32 0,.int .i64 0] 175)) w.heap.size);have HD:Hid (∀W,Calls Tryz.prog 162 #[.string (strOfNums (Sp.getL A pc 8))] W fun e w'=>e=.returned (.tuple #[x.val,.int .i64 0])∧Below W.heap.size W w'):=Lh fun W=>by
  have h:=Ins.decode (strOfNums (Sp.getL A pc 8)) (by rw[size_strOfNums,Sp.getL_length];omega) W;unfold Ins.decX Ins.decE at h;rw[hd,hx] at h;exact h
 have HFin:Hid (∀w',Cpu 155 w' cb r (next pc)→Spc w' sb mb A→Mod (fun k=>k=cb∨Sp.pgBlk A k) w w'→StPost w cb sb mb A ⟨1,x.imm,0,r,next pc,A⟩ (.returned (stopV 1 x.imm 0)) w'):=Lh fun w' g1 g2 g3=>⟨rfl,g1,g2,g3⟩
 generalize StPost w cb sb mb A ⟨1,x.imm,0,r,next pc,A⟩=PQ at*;generalize strOfNums (Sp.getL A pc 8)=S at*;have hnf:=nilFn0;have HFt:Hid (∀k,Spc.foot sb mb A k→k≠w.heap.size):=Lh fun k hk=>by have:=hs.lt hk;omega
 have HC:=Lh hc;have HS:=Lh hs;have HN:=Lh hn;have HFd:=Lh hfind;have hnx:IntKind.u32.wrap (pc+8)=next pc:=by rw[IntKind.wrap_u32'];rfl
 clear hc hs hn hbW hE hf hF hd hx hfind;obtain⟨op,d,a,b,imm⟩:=x;simp only at h50;unfold Ins.val at HD;simp only at HD HFd HFin;go_enter func117,ntmps117;go_wp2_with fail;refine HF.out.mono ?_;rintro e w1 ⟨rfl,hb1⟩;have HR1:=Lh (HR.out.frame (hb1.block _ (by simp)));have HB1:=Lh (bQ HB.out hb1);clear hb1;go_wp2_with fail;refine(HD.out _).mono ?_;rintro e w2 ⟨rfl,hb2⟩;have hs1:=HR1.out.blk;have HR2:=Lh (HR1.out.frame (hb2.block _ (lQ hs1)));have HB2:=Lh (bQ HB1.out hb2);have hq1:=(HC.out.below HB2.out).cellPc;have hq2:=HC.out.lt;have hq3:=HB2.out.size;have hq4:cb<w2.heap.size:=by omega
 clear hb2 hs1;go_wp2_with fail;refine(HFd.out _).mono ?_;rintro e w3 ⟨rfl,hb3⟩;have hb3':Below (doW w2 cb sb pc ⟨op,d,a,b,imm⟩).heap.size (doW w2 cb sb pc ⟨op,d,a,b,imm⟩) w3:=hb3;have HB3:=Lh hb3';have HW3:=Lh ((doW_ws (HC.out.below HB2.out) (HS.out.below HB2.out fun _ hk=>HS.out.lt hk) HN.out ⟨op,d,a,b,imm⟩).below hb3');obtain⟨y0,y1,y2,y3,y4⟩:=box_cells (doW_box ⟨op,d,a,b,imm⟩ hb3');simp only at y0 y1 y2 y3 y4;clear hb3 hb3';have ha:=after HB2.out HR2.out HC.out HS.out ⟨op,d,a,b,imm⟩ HB3.out (Mod.refl _ w3);have hw4:=HW3.out;have z2:=hw4.cell2;have z3:=hw4.cell3;have zp:=hw4.cp.cellPc;have zf:=hw4.cp.thaw 16;obtain⟨x0,_,_,_,x4⟩:=box_cells ha.bx;simp only at x0 x4;obtain⟨c0,c1,c2,f0,f1,f2⟩:=ha.rs.cells;have hbc:w.heap.size≠cb:=by have:=HC.out.lt;omega
 have hbb:w2.heap.size≠cb:=by omega
 have HW4:=Lh hw4;have HA:=Lh ha;clear hw4 ha y0 y1 y2 y3 y4 hq1 hq2 hq3 hq4;go_wp2;refine bodyPost_ret (v:=stopV 1 imm 0) (by simp[results,Tryz.results117,go_sem,stopV, *]) rfl ?_;exact HFin.out _ (set3_cpu (HW4.out.cp.setPc (next pc) HW4.out.wk.n0 HW4.out.wk.n1) (fun e=>hbc e.symm) _ _ _) (set3_spc (setPc_spc HW4.out.sp HW4.out.n2 _) HFt.out _ _ _) (set3_mod (HA.out.mod.setCell _ (.inl (.inl rfl)) _) (Nat.le_refl _) _ _ _)
end
end Cp
open Go.RowKit Word
namespace Cp
theorem uses_cases{op:Int}(h:Ins.usesV op≠0):(1≤op∧op≤14)∨(15≤op∧op≤30)∨op=32∨op=33∨op=34∨op=35∨op=36∨op=40∨op=41∨op=42∨op=43∨op=44∨op=45∨op=46∨op=50:=by
 unfold Ins.usesV at h
 by_cases h1:1≤op∧op≤14
 ·exact .inl h1
 rw[if_neg h1] at h
 by_cases h2:op=17∨op=19∨op=22∨op=23∨op=24∨op=25∨op=26∨op=29∨op=30∨op=33∨op=34
 ·omega
 rw[if_neg h2] at h
 by_cases h3:op=32∨op=41
 ·omega
 rw[if_neg h3] at h
 by_cases h4:op=35∨op=36∨op=43∨op=44∨op=45∨op=46
 ·omega
 rw[if_neg h4] at h
 by_cases h5:op=40∨op=50
 ·omega
 rw[if_neg h5] at h
 by_cases h6:op=42
 ·omega
 rw[if_neg h6] at h;exact absurd rfl h
theorem stp_eq{A:List Pg}{r:List Int}{pc:Int}(hf:Sp.fitsB A pc 8 4=true)(hd:Ins.decB (strOfNums (Sp.getL A pc 8))=true):stp A r pc=exe A r pc (Ins.decI (strOfNums (Sp.getL A pc 8))):=by unfold stp;rw[if_pos hf,if_pos hd]
theorem exe_loads{A:List Pg}{r:List Int}{pc:Int}{x:Ins}{n:Nat}(h:exe A r pc x=loads A r pc x n)(hf:Sp.fitsB A (addr r x) n 1=true):exe A r pc x=goes A (putG r x.d (getV (Sp.getL A (addr r x) n))) (next pc):=by rw[h];unfold loads;rw[if_pos hf]
theorem exe_loads'{A:List Pg}{r:List Int}{pc:Int}{x:Ins}{n:Nat}(h:exe A r pc x=loads A r pc x n)(hf:Sp.fitsB A (addr r x) n 1=false):exe A r pc x=faults A r pc 50:=by rw[h];unfold loads;rw[hf];rfl
theorem exe_stores{A:List Pg}{r:List Int}{pc:Int}{x:Ins}{n:Nat}(h:exe A r pc x=stores A r pc x n)(hf:Sp.fitsB A (addr r x) n 2=true):exe A r pc x=goes (putN A (addr r x) ((putL (rg r x.b)).take n) n) r (next pc):=by rw[h];unfold stores;rw[if_pos hf]
theorem exe_stores'{A:List Pg}{r:List Int}{pc:Int}{x:Ins}{n:Nat}(h:exe A r pc x=stores A r pc x n)(hf:Sp.fitsB A (addr r x) n 2=false):exe A r pc x=faults A r pc 50:=by rw[h];unfold stores;rw[hf];rfl
section
variable {w:World} {cb sb mb:Nat} {A:List Pg} {r:List Int} {pc:Int}
theorem step(hc:Cpu 155 w cb r pc)(hs:Spc w sb mb A)(hn:¬Spc.foot sb mb A cb):
  Calls Tryz.prog 117 #[.pointer (some ⟨cb,0,none⟩),.pointer (some ⟨sb,0,none⟩)] w (StPost w cb sb mb A (stp A r pc)):=by
 cases hf:Sp.fitsB A pc 8 4 with
 |false=>
  have e:stp A r pc=faults A r pc 50:=by unfold stp;rw[hf];rfl
  rw[e];exact(step_fault hc hs hf).mono fun e w' ⟨g1,g2⟩=>⟨g1,hc.below g2,hs.below g2 fun _ hk=>hs.lt hk,Mod.of_below g2 _⟩
 |true=>
 cases hd:Ins.decB (strOfNums (Sp.getL A pc 8)) with
 |false=>
  have e:stp A r pc=faults A r pc 7:=by unfold stp;rw[if_pos hf,hd];rfl
  rw[e];exact(step_form hc hs hf hd).mono fun e w' ⟨g1,g2⟩=>⟨g1,hc.below g2,hs.below g2 fun _ hk=>hs.lt hk,Mod.of_below g2 _⟩
 |true=>
 rw[stp_eq hf hd];have hm:=Ins.decB_may hd;have hok:=Ins.decI_ok (Ins.decB_size hd);have hsm:=Ins.may_small hm hok;have hu:=uses_cases (Ins.may_op hm);generalize hx:Ins.decI (strOfNums (Sp.getL A pc 8))=x at*;have o0:=hok.o0;have o1:=hok.o1;have i0:=hok.i0;have i1:=hok.i1;obtain⟨op,d,a,b,imm⟩:=x;obtain⟨d0,d1,a0,a1,b0,b1⟩:=hsm;simp only at o0 o1 i0 i1 d0 d1 a0 a1 b0 b1 hu;obtain⟨d,rfl⟩:=Int.eq_ofNat_of_zero_le d0;obtain⟨a,rfl⟩:=Int.eq_ofNat_of_zero_le a0;obtain⟨b,rfl⟩:=Int.eq_ofNat_of_zero_le b0;have hd':d<16:=by omega
 have ha':a<16:=by omega
 have hb':b<16:=by omega
 rcases hu with hu|hu|rfl|rfl|rfl|rfl|rfl|rfl|rfl|rfl|rfl|rfl|rfl|rfl|rfl
 ·have e:exe A r pc ⟨op,d,a,b,imm⟩=goes A (putG r d (opv op (rg r a) (rg r b))) (next pc):=by unfold exe;rw[if_pos hu.2]
  rw[e];exact step_do hc hs hn hf _ hd hx (by simp;omega) 225 (fun _ _=>by kernel_rfl) (find3 op hu.2) A (fun _ g=>g) _ _ fun W wb h=>three h op d a b imm o0 o1 hd' ha' hb'
 ·have e:exe A r pc ⟨op,d,a,b,imm⟩=goes A (putG r d (opv (op - 16) (rg r a) imm)) (next pc):=by unfold exe;rw[if_neg (by simp only;omega),if_pos hu.2]
  rw[e]
  by_cases h16:op=15
  ·subst h16;have:=Ins.may_op hm;exact absurd rfl this
  ·exact step_do hc hs hn hf _ hd hx (by simp;omega) 226 (fun _ _=>by kernel_rfl) (find2 op hu.1 hu.2) A (fun _ g=>g) _ _ fun W wb h=>two h op d a b imm o0 o1 i0 i1 hd' ha' hb' (by omega)
 ·have e:exe A r pc ⟨32,d,a,b,imm⟩=goes A (putG r d imm) (next pc):=rfl;rw[e];exact step_do hc hs hn hf _ hd hx rfl 285 (fun _ _=>by kernel_rfl) (fun W=>(find1 32 285 (by omega) (by omega) (by kernel_rfl) W).mono fun e w' ⟨g1,g2⟩=>⟨g1.trans rfl,g2⟩) A (fun _ g=>g) _ _ fun W wb h=>li h 32 d a b imm o0 o1 i0 i1 hd' ha' hb'
 ·have e:exe A r pc ⟨33,d,a,b,imm⟩=loads A r pc ⟨33,d,a,b,imm⟩ 1:=rfl;cases hq:Sp.fitsB A (addr r ⟨33,d,a,b,imm⟩) 1 1 with
  |true=>
   rw[exe_loads e hq];exact step_do hc hs hn hf _ hd hx rfl 286 (fun _ _=>by kernel_rfl) (fun W=>(find1 33 286 (by omega) (by omega) (by kernel_rfl) W).mono fun e w' ⟨g1,g2⟩=>⟨g1.trans rfl,g2⟩) A (fun _ g=>g) _ _ fun W wb h=>lb_yes h 33 d a b imm o0 o1 i0 i1 hd' ha' hb' hq
  |false=>
   rw[exe_loads' e hq];exact step_dof hc hs hn hf _ hd hx rfl 286 (fun _ _=>by kernel_rfl) (fun W=>(find1 33 286 (by omega) (by omega) (by kernel_rfl) W).mono fun e w' ⟨g1,g2⟩=>⟨g1.trans rfl,g2⟩) A (fun _ g=>g) _ (next pc) fun W wb h=>lb_no h 33 d a b imm o0 o1 i0 i1 hd' ha' hb' hq
 ·have e:exe A r pc ⟨34,d,a,b,imm⟩=loads A r pc ⟨34,d,a,b,imm⟩ 4:=rfl;cases hq:Sp.fitsB A (addr r ⟨34,d,a,b,imm⟩) 4 1 with
  |true=>
   rw[exe_loads e hq];exact step_do hc hs hn hf _ hd hx rfl 287 (fun _ _=>by kernel_rfl) (fun W=>(find1 34 287 (by omega) (by omega) (by kernel_rfl) W).mono fun e w' ⟨g1,g2⟩=>⟨g1.trans rfl,g2⟩) A (fun _ g=>g) _ _ fun W wb h=>lw_yes h 34 d a b imm o0 o1 i0 i1 hd' ha' hb' hq
  |false=>
   rw[exe_loads' e hq];exact step_dof hc hs hn hf _ hd hx rfl 287 (fun _ _=>by kernel_rfl) (fun W=>(find1 34 287 (by omega) (by omega) (by kernel_rfl) W).mono fun e w' ⟨g1,g2⟩=>⟨g1.trans rfl,g2⟩) A (fun _ g=>g) _ (next pc) fun W wb h=>lw_no h 34 d a b imm o0 o1 i0 i1 hd' ha' hb' hq
 ·have e:exe A r pc ⟨35,d,a,b,imm⟩=stores A r pc ⟨35,d,a,b,imm⟩ 1:=rfl;cases hq:Sp.fitsB A (addr r ⟨35,d,a,b,imm⟩) 1 2 with
  |true=>
   rw[exe_stores e hq];exact step_do hc hs hn hf _ hd hx rfl 288 (fun _ _=>by kernel_rfl) (fun W=>(find1 35 288 (by omega) (by omega) (by kernel_rfl) W).mono fun e w' ⟨g1,g2⟩=>⟨g1.trans rfl,g2⟩) _ (fun _ g=>foot_putN.1 g) _ _ fun W wb h=>sb_yes h 35 d a b imm o0 o1 i0 i1 hd' ha' hb' hq
  |false=>
   rw[exe_stores' e hq];exact step_dof hc hs hn hf _ hd hx rfl 288 (fun _ _=>by kernel_rfl) (fun W=>(find1 35 288 (by omega) (by omega) (by kernel_rfl) W).mono fun e w' ⟨g1,g2⟩=>⟨g1.trans rfl,g2⟩) A (fun _ g=>g) _ (next pc) fun W wb h=>sb_no h 35 d a b imm o0 o1 i0 i1 hd' ha' hb' hq
 ·have e:exe A r pc ⟨36,d,a,b,imm⟩=stores A r pc ⟨36,d,a,b,imm⟩ 4:=rfl;cases hq:Sp.fitsB A (addr r ⟨36,d,a,b,imm⟩) 4 2 with
  |true=>
   rw[exe_stores e hq];exact step_do hc hs hn hf _ hd hx rfl 289 (fun _ _=>by kernel_rfl) (fun W=>(find1 36 289 (by omega) (by omega) (by kernel_rfl) W).mono fun e w' ⟨g1,g2⟩=>⟨g1.trans rfl,g2⟩) _ (fun _ g=>foot_putN.1 g) _ _ fun W wb h=>sw_yes h 36 d a b imm o0 o1 i0 i1 hd' ha' hb' hq
  |false=>
   rw[exe_stores' e hq];exact step_dof hc hs hn hf _ hd hx rfl 289 (fun _ _=>by kernel_rfl) (fun W=>(find1 36 289 (by omega) (by omega) (by kernel_rfl) W).mono fun e w' ⟨g1,g2⟩=>⟨g1.trans rfl,g2⟩) A (fun _ g=>g) _ (next pc) fun W wb h=>sw_no h 36 d a b imm o0 o1 i0 i1 hd' ha' hb' hq
 ·have e:exe A r pc ⟨40,d,a,b,imm⟩=goes A r imm:=rfl;rw[e];exact step_do hc hs hn hf _ hd hx rfl 290 (fun _ _=>by kernel_rfl) (fun W=>(find1 40 290 (by omega) (by omega) (by kernel_rfl) W).mono fun e w' ⟨g1,g2⟩=>⟨g1.trans rfl,g2⟩) A (fun _ g=>g) _ _ fun W wb h=>jump h 40 d a b imm o0 o1 i0 i1 hd' ha' hb'
 ·have e:exe A r pc ⟨41,d,a,b,imm⟩=goes A (putG r d (next pc)) imm:=rfl;rw[e];exact step_do hc hs hn hf _ hd hx rfl 291 (fun _ _=>by kernel_rfl) (fun W=>(find1 41 291 (by omega) (by omega) (by kernel_rfl) W).mono fun e w' ⟨g1,g2⟩=>⟨g1.trans rfl,g2⟩) A (fun _ g=>g) _ _ fun W wb h=>jal h 41 d a b imm o0 o1 i0 i1 hd' ha' hb'
 ·have e:exe A r pc ⟨42,d,a,b,imm⟩=goes A r (rg r a):=rfl;rw[e];exact step_do hc hs hn hf _ hd hx rfl 292 (fun _ _=>by kernel_rfl) (fun W=>(find1 42 292 (by omega) (by omega) (by kernel_rfl) W).mono fun e w' ⟨g1,g2⟩=>⟨g1.trans rfl,g2⟩) A (fun _ g=>g) _ _ fun W wb h=>jr h 42 d a b imm o0 o1 i0 i1 hd' ha' hb'
 ·have e:exe A r pc ⟨43,d,a,b,imm⟩=goes A r (br (rg r a == rg r b) imm (next pc)):=rfl;rw[e];exact step_do hc hs hn hf _ hd hx rfl 293 (fun _ _=>by kernel_rfl) (fun W=>(find1 43 293 (by omega) (by omega) (by kernel_rfl) W).mono fun e w' ⟨g1,g2⟩=>⟨g1.trans rfl,g2⟩) A (fun _ g=>g) _ _ fun W wb h=>beq h 43 d a b imm o0 o1 i0 i1 hd' ha' hb'
 ·have e:exe A r pc ⟨44,d,a,b,imm⟩=goes A r (br (rg r a != rg r b) imm (next pc)):=rfl;rw[e];exact step_do hc hs hn hf _ hd hx rfl 294 (fun _ _=>by kernel_rfl) (fun W=>(find1 44 294 (by omega) (by omega) (by kernel_rfl) W).mono fun e w' ⟨g1,g2⟩=>⟨g1.trans rfl,g2⟩) A (fun _ g=>g) _ _ fun W wb h=>bne h 44 d a b imm o0 o1 i0 i1 hd' ha' hb'
 ·have e:exe A r pc ⟨45,d,a,b,imm⟩=goes A r (br (decide (rg r a<rg r b)) imm (next pc)):=rfl;rw[e];exact step_do hc hs hn hf _ hd hx rfl 295 (fun _ _=>by kernel_rfl) (fun W=>(find1 45 295 (by omega) (by omega) (by kernel_rfl) W).mono fun e w' ⟨g1,g2⟩=>⟨g1.trans rfl,g2⟩) A (fun _ g=>g) _ _ fun W wb h=>bltu h 45 d a b imm o0 o1 i0 i1 hd' ha' hb'
 ·have e:exe A r pc ⟨46,d,a,b,imm⟩=goes A r (br (decide (rg r b≤rg r a)) imm (next pc)):=rfl;rw[e];exact step_do hc hs hn hf _ hd hx rfl 296 (fun _ _=>by kernel_rfl) (fun W=>(find1 46 296 (by omega) (by omega) (by kernel_rfl) W).mono fun e w' ⟨g1,g2⟩=>⟨g1.trans rfl,g2⟩) A (fun _ g=>g) _ _ fun W wb h=>bgeu h 46 d a b imm o0 o1 i0 i1 hd' ha' hb'
 ·have e:exe A r pc ⟨50,d,a,b,imm⟩=⟨1,imm,0,r,next pc,A⟩:=rfl;rw[e];exact step_sys hc hs hn hf _ hd hx rfl (fun W=>(find1 50 (-1) (by omega) (by omega) (by kernel_rfl) W).mono fun e w' ⟨g1,g2⟩=>⟨g1.trans rfl,g2⟩)
end
end Cp
open Go.RowKit Word
namespace Cp
def blks(A:List Pg):List Nat:=A.map Pg.blk
theorem blks_set(A:List Pg)(x v:Int):blks (setByte A x v)=blks A:=by
 unfold blks setByte;rw[List.map_map];exact List.map_congr_left fun p _=>setPg_blk x v p
theorem blks_putN(A:List Pg)(addr:Int)(xs:List Int):∀k,blks (putN A addr xs k)=blks A
 |0=>rfl
 |k+1=>(blks_set _ _ _).trans (blks_putN A addr xs k)
theorem pgBlk_iff{A B:List Pg}(h:blks A=blks B)(k:Nat):Sp.pgBlk A k↔Sp.pgBlk B k:=by
 have e:∀C:List Pg,Sp.pgBlk C k↔k∈blks C:=fun C=>by
  unfold Sp.pgBlk blks;rw[List.mem_map];exact⟨fun⟨p,h1,h2⟩=>⟨p,h1,h2.symm⟩,fun⟨p,h1,h2⟩=>⟨p,h1,h2.symm⟩⟩
 rw[e,e,h]
theorem foot_iff{A B:List Pg}(h:blks A=blks B){sb mb k:Nat}:Spc.foot sb mb A k↔Spc.foot sb mb B k:=by
 unfold Spc.foot;have:=pgBlk_iff h k;unfold Sp.pgBlk at this;rw[this]
theorem blks_loads(A:List Pg)(r:List Int)(pc:Int)(x:Ins)(n:Nat):blks (loads A r pc x n).A=blks A:=by unfold loads;split<;>rfl
theorem blks_stores(A:List Pg)(r:List Int)(pc:Int)(x:Ins)(n:Nat):blks (stores A r pc x n).A=blks A:=by
 unfold stores
 split
 ·exact blks_putN _ _ _ _
 ·rfl
theorem blks_exe(A:List Pg)(r:List Int)(pc:Int)(x:Ins):blks (exe A r pc x).A=blks A:=by
 unfold exe
 by_cases c0:x.op≤14
 ·rw[if_pos c0];rfl
 rw[if_neg c0]
 by_cases c1:x.op≤30
 ·rw[if_pos c1];rfl
 rw[if_neg c1]
 by_cases c2:x.op=32
 ·rw[if_pos c2];rfl
 rw[if_neg c2]
 by_cases c3:x.op=33
 ·rw[if_pos c3];exact blks_loads _ _ _ _ _
 rw[if_neg c3]
 by_cases c4:x.op=34
 ·rw[if_pos c4];exact blks_loads _ _ _ _ _
 rw[if_neg c4]
 by_cases c5:x.op=35
 ·rw[if_pos c5];exact blks_stores _ _ _ _ _
 rw[if_neg c5]
 by_cases c6:x.op=36
 ·rw[if_pos c6];exact blks_stores _ _ _ _ _
 rw[if_neg c6]
 by_cases c7:x.op=40
 ·rw[if_pos c7];rfl
 rw[if_neg c7]
 by_cases c8:x.op=41
 ·rw[if_pos c8];rfl
 rw[if_neg c8]
 by_cases c9:x.op=42
 ·rw[if_pos c9];rfl
 rw[if_neg c9]
 by_cases c10:x.op=43
 ·rw[if_pos c10];rfl
 rw[if_neg c10]
 by_cases c11:x.op=44
 ·rw[if_pos c11];rfl
 rw[if_neg c11]
 by_cases c12:x.op=45
 ·rw[if_pos c12];rfl
 rw[if_neg c12]
 by_cases c13:x.op=46
 ·rw[if_pos c13];rfl
 rw[if_neg c13]
theorem blks_stp(A:List Pg)(r:List Int)(pc:Int):blks (stp A r pc).A=blks A:=by
 unfold stp
 split
 ·split
  ·exact blks_exe _ _ _ _
  ·rfl
 ·rfl
section
variable {w:World} {cb sb mb:Nat} {A:List Pg} {r:List Int} {pc:Int}
theorem reg_ok(h:Cpu 155 w cb r pc)(n:Nat)(hn:n<16):
  Calls Tryz.prog 164 #[.pointer (some ⟨cb,0,none⟩),.int .i64 n] w fun e w'=>e=.returned (.tuple #[.int .u32 (rg r n),.int .i64 0])∧w=w':=by
 have hc:=h.cellReg n hn;have g0:decide ((n:Int)<0)=false:=decide_eq_false (by omega);have g1:decide ((16:Int)≤n)=false:=decide_eq_false (by omega);have g2:(n:Int)<16:=by omega
 clear h;go_enter func164,ntmps164;go_wp2;go_ret2;exact⟨rfl,rfl⟩
theorem setReg_ok(h:Cpu 155 w cb r pc)(n:Nat)(hn:n<16)(v:Int)(v0:0≤v)(v1:v≤4294967295):
  Calls Tryz.prog 79 #[.pointer (some ⟨cb,0,none⟩),.int .i64 n,.int .u32 v] w fun e w'=>e=.returned (.int .i64 0)∧Cpu 155 w' cb (putG r n v) pc∧Mod (fun k=>k=cb) w w':=by
 have g0:decide ((n:Int)<0)=false:=decide_eq_false (by omega);have g1:decide ((16:Int)≤n)=false:=decide_eq_false (by omega);have g2:(n:Int) % 256=n:=by omega
 have g3:IntKind.u8.wrap (n:Int)=n:=by rw[IntKind.wrap_u8];omega
 have H:=Lh h;clear h;go_enter func79,ntmps79;go_wp2_with fail;refine(put H.out n hn v v0 v1).mono ?_;rintro e w2 ⟨rfl,hc,hm⟩;have HC:=Lh hc;have HM:=Lh hm;clear hc hm;go_wp2;go_ret;exact⟨rfl,HC.out,HM.out⟩
theorem pc_ok(h:Cpu 155 w cb r pc):Calls Tryz.prog 30 #[.pointer (some ⟨cb,0,none⟩)] w fun e w'=>e=.returned (.int .u32 pc)∧w=w':=by
 have hc:=h.cellPc;clear h;go_enter func30,ntmps30;go_wp2;go_ret;exact⟨rfl,rfl⟩
theorem new(pc:Int)(p0:0≤pc)(p1:pc≤4294967295)(w:World):Calls Tryz.prog 77 #[.int .u32 pc] w fun e w'=>e=.returned (.pointer (some ⟨w.heap.size,0,none⟩))∧Cpu 155 w' w.heap.size (List.replicate 16 0) pc∧Below w.heap.size w w':=by
 go_enter func77,ntmps77;go_wp2;go_ret;refine⟨rfl,⟨(heap_alloc_new w _).trans ?_,⟨rfl,fun x hx=> ?_⟩,p0,p1⟩,Ba _⟩
 ·rfl
 ·have:=List.eq_of_mem_replicate hx;omega
end
end Cp
open Go.RowKit Word
namespace Cp
section
variable {w:World} {cb sb mb:Nat} {A:List Pg} {r:List Int} {pc:Int}
theorem set3_blk{V:World}{b:Nat}{t:TypeId}{a0 a1 a2:Value}(h0:V.heap[b]? =some (.cells #[a0,a1,a2] t (0,0)))(x y z:Value):(((V.setCell ⟨b,0,none⟩ x).setCell ⟨b,1,none⟩ y).setCell ⟨b,2,none⟩ z).heap[b]? =some (.cells #[x,y,z] t (0,0)):=by
 have e1:=setCell_eq_setRow V b 0 _ _ _ x h0;have h1:=setRow_heap V b _ (#[a0,a1,a2].setIfInBounds 0 x) _ _ h0;rw[←e1] at h1;have e2:=setCell_eq_setRow _ b 1 _ _ _ y h1;have h2:=setRow_heap _ b _ ((#[a0,a1,a2].setIfInBounds 0 x).setIfInBounds 1 y) _ _ h1;rw[←e2] at h2;have e3:=setCell_eq_setRow _ b 2 _ _ _ z h2;have h3:=setRow_heap _ b _ (((#[a0,a1,a2].setIfInBounds 0 x).setIfInBounds 1 y).setIfInBounds 2 z) _ _ h2;rw[←e3] at h3;exact h3
end
end Cp
end Go.Proofs.YtnpicaigdfnmfaaGreat
