/- WrkW, Find in one text. -/
import Derived.Test.YtnpicaigdfnmfaaGreatPnPag
import Derived.Deep.RegionHeld3
import Derived.Deep.QuietTactic
import Derived.BigQuiet
import Derived.Test.YtnpicaigdfnmfaaGreatProg
import Derived.Test.YtnpicaigdfnmfaaGreatPnBase
import Derived.Maps.Own
import Derived.Test.YtnpicaigdfnmfaaGreatPnZa
set_option linter.unusedVariables false
set_option linter.unusedSimpArgs false
set_option maxRecDepth 100000
set_option maxHeartbeats 16000000
open Go.Proofs.Tryz
namespace Go.Proofs.YtnpicaigdfnmfaaGreat
open Go.RowKit Word
structure Wk(w:World)(wb cb sb:Nat)(nx why:Int):Prop where
 blk:w.heap[wb]? =some (.cells #[.pointer (some ⟨cb,0,none⟩),.pointer (some ⟨sb,0,none⟩),.int .u32 nx,.int .i64 why] 327 (0,0))
 n0:0≤nx
 n1:nx≤4294967295
structure WS(w:World)(wb cb sb mb:Nat)(A:List Pg)(r:List Int)(pc nx why:Int):Prop where
 wk:Wk w wb cb sb nx why
 cp:Cpu 155 w cb r pc
 sp:Spc w sb mb A
 n1:cb≠wb
 n2:¬Spc.foot sb mb A cb
 n3:¬Spc.foot sb mb A wb
namespace WS
variable {w w':World} {wb cb sb mb:Nat} {A:List Pg} {r:List Int} {pc nx why:Int}
theorem lt(h:WS w wb cb sb mb A r pc nx why):wb<w.heap.size:=lQ h.wk.blk
theorem frame(h:WS w wb cb sb mb A r pc nx why)(h1:w'.heap[wb]? =w.heap[wb]?)(h2:w'.heap[cb]? =w.heap[cb]?)(h3:∀k,Spc.foot sb mb A k→w'.heap[k]? =w.heap[k]?):WS w' wb cb sb mb A r pc nx why:=
 ⟨⟨h1.trans h.wk.blk,h.wk.n0,h.wk.n1⟩,h.cp.frame h2,h.sp.frame h3,h.n1,h.n2,h.n3⟩
theorem below(h:WS w wb cb sb mb A r pc nx why)(hb:Below w.heap.size w w'):WS w' wb cb sb mb A r pc nx why:=h.frame (hb.block _ h.lt) (hb.block _ h.cp.lt) fun k hk=>hb.block _ (h.sp.lt hk)
theorem cell0(h:WS w wb cb sb mb A r pc nx why):w.cell? ⟨wb,0,none⟩=some (.pointer (some ⟨cb,0,none⟩)):=by unfold World.cell?;rw[h.wk.blk];rfl
theorem cell1(h:WS w wb cb sb mb A r pc nx why):w.cell? ⟨wb,1,none⟩=some (.pointer (some ⟨sb,0,none⟩)):=by unfold World.cell?;rw[h.wk.blk];rfl
theorem cell2(h:WS w wb cb sb mb A r pc nx why):w.cell? ⟨wb,2,none⟩=some (.int .u32 nx):=by unfold World.cell?;rw[h.wk.blk];rfl
theorem cell3(h:WS w wb cb sb mb A r pc nx why):w.cell? ⟨wb,3,none⟩=some (.int .i64 why):=by unfold World.cell?;rw[h.wk.blk];rfl
theorem thaw(h:WS w wb cb sb mb A r pc nx why)(j:Nat):w.frozen? ⟨wb,j,none⟩=false:=by unfold World.frozen?;rw[h.wk.blk];rfl
theorem setNext(h:WS w wb cb sb mb A r pc nx why)(v:Int)(v0:0≤v)(v1:v≤4294967295):WS (w.setCell ⟨wb,2,none⟩ (.int .u32 v)) wb cb sb mb A r pc v why:=by
 have e:=setCell_eq_setRow w wb 2 _ _ _ (.int .u32 v) h.wk.blk;rw[e];exact⟨⟨setRow_heap _ _ _ _ _ _ h.wk.blk,v0,v1⟩,h.cp.frame (setRow_other _ _ _ _ h.n1),h.sp.frame fun k hk=>setRow_other _ _ _ _ (fun g=>h.n3 (g▸hk)),h.n1,h.n2,h.n3⟩
theorem setWhy(h:WS w wb cb sb mb A r pc nx why)(v:Int):WS (w.setCell ⟨wb,3,none⟩ (.int .i64 v)) wb cb sb mb A r pc nx v:=by
 have e:=setCell_eq_setRow w wb 3 _ _ _ (.int .i64 v) h.wk.blk;rw[e];exact⟨⟨setRow_heap _ _ _ _ _ _ h.wk.blk,h.wk.n0,h.wk.n1⟩,h.cp.frame (setRow_other _ _ _ _ h.n1),h.sp.frame fun k hk=>setRow_other _ _ _ _ (fun g=>h.n3 (g▸hk)),h.n1,h.n2,h.n3⟩
theorem putReg(h:WS w wb cb sb mb A r pc nx why){r':List Int}(hc:Cpu 155 w' cb r' pc)(hm:Mod (fun k=>k=cb) w w'):WS w' wb cb sb mb A r' pc nx why:=
 ⟨⟨(hm.block _ h.lt (fun g=>h.n1 g.symm)).trans h.wk.blk,h.wk.n0,h.wk.n1⟩,hc,h.sp.keep hm (fun k hk g=>h.n2 (g▸hk)),h.n1,h.n2,h.n3⟩
end WS
def WkPost(w:World)(wb cb sb mb:Nat)(A:List Pg)(A':List Pg)(r':List Int)(pc nx' why':Int)(e:Ending)(w':World):Prop:=
 e=.returned (.tuple #[])∧WS w' wb cb sb mb A' r' pc nx' why'∧Mod (fun k=>k=cb∨k=wb∨Sp.pgBlk A k) w w'
structure InsBox(W:World)(bx:Nat)(op:Int)(d a b:Nat)(imm:Int):Prop where
 blk:W.heap[bx]? =some (.cells #[.int .u8 op,.int .u8 d,.int .u8 a,.int .u8 b,.int .u32 imm] 116 (0,0))
theorem InsBox.below{W w':World}{bx:Nat}{op:Int}{d a b:Nat}{imm:Int}(h:InsBox W bx op d a b imm)(hb:Below W.heap.size W w'):InsBox w' bx op d a b imm:=⟨(hb.block _ (lQ h.blk)).trans h.blk⟩
theorem InsBox.cells{W:World}{bx:Nat}{op:Int}{d a b:Nat}{imm:Int}(h:InsBox W bx op d a b imm):W.cell? ⟨bx,0,none⟩=some (.int .u8 op)∧W.cell? ⟨bx,1,none⟩=some (.int .u8 d)∧W.cell? ⟨bx,2,none⟩=some (.int .u8 a)∧W.cell? ⟨bx,3,none⟩=some (.int .u8 b)∧W.cell? ⟨bx,4,none⟩=some (.int .u32 imm):=by
 unfold World.cell?;rw[h.blk];exact⟨rfl,rfl,rfl,rfl,rfl⟩
theorem undrew{w w':World}(h:Below w.drew.heap.size w.drew w'):Below w.heap.size w w':=⟨h.os,h.tape,h.output,h.size,h.block⟩
theorem undrewM{F:Nat→Prop}{w w':World}(h:Mod F w.drew w'):Mod F w w':=⟨h.os,h.tape,h.output,h.size,h.block⟩
theorem put_keep{w w1 w2:World}{wb cb sb mb bx:Nat}{A:List Pg}{r r':List Int}{pc nx why op:Int}{d a b:Nat}{imm:Int}
  (h:WS w1 wb cb sb mb A r pc nx why∧InsBox w1 bx op d a b imm∧Below w.heap.size w w1) (hm:Mod (fun k=>k=cb) w1 w2) (hc:Cpu 155 w2 cb r' pc) (hne:bx≠cb):
  WS w2 wb cb sb mb A r' pc nx why∧InsBox w2 bx op d a b imm∧Mod (fun k=>k=cb) w w2:=
 ⟨h.1.putReg hc hm,⟨(hm.block _ (lQ h.2.1.blk) hne).trans h.2.1.blk⟩,(Mod.of_below h.2.2 _).same hm⟩
namespace Cp
section
variable {w:World} {wb cb sb mb:Nat} {A:List Pg} {r:List Int} {pc nx why:Int}
theorem three(h:WS w wb cb sb mb A r pc nx why)(op:Int)(d a b:Nat)(imm:Int)(o0:0≤op)(o1:op≤255)(hd:d<16)(ha:a<16)(hb:b<16):
  Calls Tryz.prog 225 #[.pointer (some ⟨wb,0,none⟩),Ins.val ⟨op,d,a,b,imm⟩] w (WkPost w wb cb sb mb A A (putG r d (opv op (rg r a) (rg r b))) pc nx why):=by
 have hva:=rg_bd h.cp.regs a;have hvb:=rg_bd h.cp.regs b;have hvo:=opv_bd op _ _ hva.1 hva.2 hvb.1 hvb.2;have ha1:(a:Int)<16:=by omega
 have hb1:(b:Int)<16:=by omega
 have HFin:Hid (∀w',WS w' wb cb sb mb A (putG r d (opv op (rg r a) (rg r b))) pc nx why→Mod (fun k=>k=cb) w w'→WkPost w wb cb sb mb A A (putG r d (opv op (rg r a) (rg r b))) pc nx why (.returned (.tuple #[])) w'):=Lh fun w' g1 g2=>⟨rfl,g1,g2.mono fun k _ hk=>.inl hk⟩
 generalize WkPost w wb cb sb mb A A (putG r d (opv op (rg r a) (rg r b))) pc nx why=PQ at*;have Hlt:Hid (w.heap.size≠cb):=Lh (by have:=h.cp.lt;omega);have H:=Lh h;clear h;unfold Ins.val;simp only;go_enter func225,ntmps225;go_wp2;generalize hW:w.alloc (.cells #[.int .u8 op,.int .u8 d,.int .u8 a,.int .u8 b,.int .u32 imm] 116)=W at*;have hbW:Below w.heap.size w W:=by rw[←hW];exact Ba _
 have hbx:InsBox W w.heap.size op d a b imm:=⟨by rw[←hW];exact heap_alloc_new w _⟩;have HW:=Lh (H.out.below hbW);have HS:Hid (∀w1,Below W.heap.size W w1→WS w1 wb cb sb mb A r pc nx why∧InsBox w1 w.heap.size op d a b imm∧Below w.heap.size w w1):=Lh fun w1 g=>⟨HW.out.below g,hbx.below g,hbW.trans (g.mono hbW.size)⟩
 clear hW;have k0:=hbx.cells.1;have k1:=hbx.cells.2.1;have k2:=hbx.cells.2.2.1;have k3:=hbx.cells.2.2.2.1;have k4:=HW.out.cell0;have k5:=HW.out.cp.cellReg a ha;have k6:=HW.out.cp.cellReg b hb;clear hbx hbW;go_region_held3 (fun w'=>w'.cell? ⟨w.heap.size,0,none⟩=some (.int .u8 op)∧w'.cell? ⟨w.heap.size,2,none⟩=some (.int .u8 a)∧w'.cell? ⟨w.heap.size,3,none⟩=some (.int .u8 b)∧w'.cell? ⟨wb,0,none⟩=some (.pointer (some ⟨cb,0,none⟩))∧w'.cell? ⟨cb,a,none⟩=some (.int .u32 (rg r a))∧w'.cell? ⟨cb,b,none⟩=some (.int .u32 (rg r b)))
  (first
   |exact⟨k0,k2,k3,k4,k5,k6⟩
   |exact⟨q0,q2,q3,q4,q5,q6⟩)
  (first
   |(
     go_at_call 284;refine(Word.Op op _ _ o0 o1 hva.1 hva.2 hvb.1 hvb.2 _).mono ?_;rintro e w1 ⟨rfl,hq1⟩;have hq:=HS.out w1 (by first|exact hq1|exact undrew hq1);have q0:=hq.2.1.cells.1;have q2:=hq.2.1.cells.2.2.1;have q3:=hq.2.1.cells.2.2.2.1;have q4:=hq.1.cell0;have q5:=hq.1.cp.cellReg a ha;have q6:=hq.1.cp.cellReg b hb))
 clear k0 k1 k2 k3 k4 k5 k6 q0 q2 q3 q5 q6;have q1:=hq.2.1.cells.2.1;have HQ:=Lh hq;clear hq hq1;go_wp2_with fail;go_region_held3 (fun w'=>w'.cell? ⟨w.heap.size,1,none⟩=some (.int .u8 d)∧w'.cell? ⟨wb,0,none⟩=some (.pointer (some ⟨cb,0,none⟩)))
  (first
   |exact⟨q1,q4⟩
   |exact⟨z1,z4⟩)
  (first
   |(
     go_at_call 125
     first|refine(put (w:=w1.drew) (HQ.out.1.cp.frame rfl) d hd _ hvo.1 hvo.2).mono ?_|refine(put (w:=w1) HQ.out.1.cp d hd _ hvo.1 hvo.2).mono ?_
     rintro e w2 ⟨rfl,hc2,hm2⟩;have hz:=put_keep HQ.out (by first|exact hm2|exact undrewM hm2) hc2 Hlt.out;have z1:=hz.2.1.cells.2.1;have z4:=hz.1.cell0))
 all_goals
  have HZ:=Lh hz;clear hz z1 z4;go_end0;exact HFin.out _ HZ.out.1 HZ.out.2.2
end
end Cp
open Go.RowKit Word
namespace Cp
section
variable {w:World} {wb cb sb mb:Nat} {A:List Pg} {r:List Int} {pc nx why:Int}
theorem two(h:WS w wb cb sb mb A r pc nx why)(op:Int)(d a b:Nat)(imm:Int)(o0:0≤op)(o1:op≤255)(i0:0≤imm)(i1:imm≤4294967295)(hd:d<16)(ha:a<16)(hb:b<16)(o16:16≤op):
  Calls Tryz.prog 226 #[.pointer (some ⟨wb,0,none⟩),Ins.val ⟨op,d,a,b,imm⟩] w (WkPost w wb cb sb mb A A (putG r d (opv (op - 16) (rg r a) imm)) pc (nx) why):=by
 have hva:=rg_bd h.cp.regs a;have hvb:=rg_bd h.cp.regs b;have ha1:(a:Int)<16:=by omega
 have hb1:(b:Int)<16:=by omega
 have hvo:=opv_bd (op - 16) (rg r a) imm hva.1 hva.2 i0 i1;have hop1:0≤op - 16:=by omega
 have hop2:op - 16≤255:=by omega
 have hopw:IntKind.u8.wrap (op - 16)=op - 16:=by rw[IntKind.wrap_u8];omega
 have hopm:(op - 16) % 256=op - 16:=by omega
 have HFin:Hid (∀w',WS w' wb cb sb mb A (putG r d (opv (op - 16) (rg r a) imm)) pc (nx) why→Mod (fun k=>k=cb∨k=wb∨Sp.pgBlk A k) w w'→WkPost w wb cb sb mb A A (putG r d (opv (op - 16) (rg r a) imm)) pc (nx) why (.returned (.tuple #[])) w'):=Lh fun w' g1 g2=>⟨rfl,g1,g2⟩
 generalize WkPost w wb cb sb mb A A (putG r d (opv (op - 16) (rg r a) imm)) pc (nx) why=PQ at*;have Hlt:Hid (w.heap.size≠cb∧w.heap.size≠wb):=Lh (by have:=h.cp.lt;have:=h.lt;omega);have H:=Lh h;clear h;unfold Ins.val;simp only;go_enter func226,ntmps226;go_wp2_with fail;generalize hW:w.alloc (.cells #[.int .u8 op,.int .u8 d,.int .u8 a,.int .u8 b,.int .u32 imm] 116)=W at*;have hbW:Below w.heap.size w W:=by rw[←hW];exact Ba _
 have hbx:InsBox W w.heap.size op d a b imm:=⟨by rw[←hW];exact heap_alloc_new w _⟩;have HW:=Lh (H.out.below hbW);have HS:Hid (∀w1,Below W.heap.size W w1→WS w1 wb cb sb mb A r pc nx why∧InsBox w1 w.heap.size op d a b imm∧Below w.heap.size w w1):=Lh fun w1 g=>⟨HW.out.below g,hbx.below g,hbW.trans (g.mono hbW.size)⟩
 clear hW;have k0:=hbx.cells.1;have k1:=hbx.cells.2.1;have k2:=hbx.cells.2.2.1;have k3:=hbx.cells.2.2.2.1;have k8:=hbx.cells.2.2.2.2;have k4:=HW.out.cell0;have k5:=HW.out.cp.cellReg a ha;have k6:=HW.out.cp.cellReg b hb;have k7:=HW.out.cp.cellPc;have k9:=HW.out.cell2;have f2:=HW.out.thaw 2;clear hbx hbW;go_region_held3 (fun w'=>w'.cell? ⟨w.heap.size,0,none⟩=some (.int .u8 op)∧w'.cell? ⟨w.heap.size,2,none⟩=some (.int .u8 a)∧w'.cell? ⟨w.heap.size,4,none⟩=some (.int .u32 imm)∧w'.cell? ⟨wb,0,none⟩=some (.pointer (some ⟨cb,0,none⟩))∧w'.cell? ⟨cb,a,none⟩=some (.int .u32 (rg r a)))
  (first
   |exact⟨k0,k2,k8,k4,k5⟩
   |exact⟨q0,q2,q8,q4,q5⟩)
  (first
   |(
     go_at_call 284;refine(Word.Op (op - 16) _ _ hop1 hop2 hva.1 hva.2 i0 i1 _).mono ?_;rintro e w1 ⟨rfl,hq1⟩;have hq:=HS.out w1 (by first|exact hq1|exact undrew hq1);have q0:=hq.2.1.cells.1;have q2:=hq.2.1.cells.2.2.1;have q8:=hq.2.1.cells.2.2.2.2;have q4:=hq.1.cell0;have q5:=hq.1.cp.cellReg a ha))
 clear k0 k1 k2 k3 k4 k5 k6 k7 k8 k9 f2 q0 q2 q5 q8;have q1:=hq.2.1.cells.2.1;have HQ:=Lh hq;clear hq hq1;go_wp2_with fail;go_region_held3 (fun w'=>w'.cell? ⟨w.heap.size,1,none⟩=some (.int .u8 d)∧w'.cell? ⟨wb,0,none⟩=some (.pointer (some ⟨cb,0,none⟩)))
  (first
   |exact⟨q1,q4⟩
   |exact⟨z1,z4⟩)
  (first
   |(
     go_at_call 125
     first|refine(put (w:=w1.drew) (HQ.out.1.cp.frame rfl) d hd _ hvo.1 hvo.2).mono ?_|refine(put (w:=w1) HQ.out.1.cp d hd _ hvo.1 hvo.2).mono ?_
     rintro e w2 ⟨rfl,hc2,hm2⟩;have hz:=put_keep HQ.out (by first|exact hm2|exact undrewM hm2) hc2 Hlt.out.1;have z1:=hz.2.1.cells.2.1;have z8:=hz.2.1.cells.2.2.2.2;have z4:=hz.1.cell0;have z7:=hz.1.cp.cellPc))
 all_goals
  have HZ:=Lh hz;clear hz z1 z4 z7 z8;go_end0;exact HFin.out _ HZ.out.1 (HZ.out.2.2.mono fun k _ hk=>.inl hk)
theorem li(h:WS w wb cb sb mb A r pc nx why)(op:Int)(d a b:Nat)(imm:Int)(o0:0≤op)(o1:op≤255)(i0:0≤imm)(i1:imm≤4294967295)(hd:d<16)(ha:a<16)(hb:b<16):
  Calls Tryz.prog 285 #[.pointer (some ⟨wb,0,none⟩),Ins.val ⟨op,d,a,b,imm⟩] w (WkPost w wb cb sb mb A A (putG r d imm) pc (nx) why):=by
 have hva:=rg_bd h.cp.regs a;have hvb:=rg_bd h.cp.regs b;have ha1:(a:Int)<16:=by omega
 have hb1:(b:Int)<16:=by omega
 have hvi:0≤imm∧imm≤4294967295:=⟨i0,i1⟩;have HFin:Hid (∀w',WS w' wb cb sb mb A (putG r d imm) pc (nx) why→Mod (fun k=>k=cb∨k=wb∨Sp.pgBlk A k) w w'→WkPost w wb cb sb mb A A (putG r d imm) pc (nx) why (.returned (.tuple #[])) w'):=Lh fun w' g1 g2=>⟨rfl,g1,g2⟩
 generalize WkPost w wb cb sb mb A A (putG r d imm) pc (nx) why=PQ at*;have Hlt:Hid (w.heap.size≠cb∧w.heap.size≠wb):=Lh (by have:=h.cp.lt;have:=h.lt;omega);have H:=Lh h;clear h;unfold Ins.val;simp only;go_enter func285,ntmps285;go_wp2_with fail;generalize hW:w.alloc (.cells #[.int .u8 op,.int .u8 d,.int .u8 a,.int .u8 b,.int .u32 imm] 116)=W at*;have hbW:Below w.heap.size w W:=by rw[←hW];exact Ba _
 have hbx:InsBox W w.heap.size op d a b imm:=⟨by rw[←hW];exact heap_alloc_new w _⟩;have HW:=Lh (H.out.below hbW);have HS:Hid (∀w1,Below W.heap.size W w1→WS w1 wb cb sb mb A r pc nx why∧InsBox w1 w.heap.size op d a b imm∧Below w.heap.size w w1):=Lh fun w1 g=>⟨HW.out.below g,hbx.below g,hbW.trans (g.mono hbW.size)⟩
 clear hW;have k0:=hbx.cells.1;have k1:=hbx.cells.2.1;have k2:=hbx.cells.2.2.1;have k3:=hbx.cells.2.2.2.1;have k8:=hbx.cells.2.2.2.2;have k4:=HW.out.cell0;have k5:=HW.out.cp.cellReg a ha;have k6:=HW.out.cp.cellReg b hb;have k7:=HW.out.cp.cellPc;have k9:=HW.out.cell2;have f2:=HW.out.thaw 2;clear hbx hbW;have HQ:=Lh (HS.out W Br);go_region_held3 (fun w'=>w'.cell? ⟨w.heap.size,1,none⟩=some (.int .u8 d)∧w'.cell? ⟨w.heap.size,4,none⟩=some (.int .u32 imm)∧w'.cell? ⟨wb,0,none⟩=some (.pointer (some ⟨cb,0,none⟩)))
  (first
   |exact⟨k1,k8,k4⟩
   |exact⟨z1,z8,z4⟩)
  (first
   |(
     go_at_call 125
     first|refine(put (w:=W.drew) (HQ.out.1.cp.frame rfl) d hd _ hvi.1 hvi.2).mono ?_|refine(put (w:=W) HQ.out.1.cp d hd _ hvi.1 hvi.2).mono ?_
     rintro e w2 ⟨rfl,hc2,hm2⟩;have hz:=put_keep HQ.out (by first|exact hm2|exact undrewM hm2) hc2 Hlt.out.1;have z1:=hz.2.1.cells.2.1;have z8:=hz.2.1.cells.2.2.2.2;have z4:=hz.1.cell0;have z7:=hz.1.cp.cellPc))
 all_goals
  have HZ:=Lh hz;clear hz z1 z4 z7 z8;go_end0;exact HFin.out _ HZ.out.1 (HZ.out.2.2.mono fun k _ hk=>.inl hk)
theorem jump(h:WS w wb cb sb mb A r pc nx why)(op:Int)(d a b:Nat)(imm:Int)(o0:0≤op)(o1:op≤255)(i0:0≤imm)(i1:imm≤4294967295)(hd:d<16)(ha:a<16)(hb:b<16):
  Calls Tryz.prog 290 #[.pointer (some ⟨wb,0,none⟩),Ins.val ⟨op,d,a,b,imm⟩] w (WkPost w wb cb sb mb A A (r) pc (imm) why):=by
 have hva:=rg_bd h.cp.regs a;have hvb:=rg_bd h.cp.regs b;have ha1:(a:Int)<16:=by omega
 have hb1:(b:Int)<16:=by omega
 have HFin:Hid (∀w',WS w' wb cb sb mb A (r) pc (imm) why→Mod (fun k=>k=cb∨k=wb∨Sp.pgBlk A k) w w'→WkPost w wb cb sb mb A A (r) pc (imm) why (.returned (.tuple #[])) w'):=Lh fun w' g1 g2=>⟨rfl,g1,g2⟩
 generalize WkPost w wb cb sb mb A A (r) pc (imm) why=PQ at*;have Hlt:Hid (w.heap.size≠cb∧w.heap.size≠wb):=Lh (by have:=h.cp.lt;have:=h.lt;omega);have H:=Lh h;clear h;unfold Ins.val;simp only;have hbW:Below w.heap.size w (w.alloc (.cells #[.int .u8 op,.int .u8 d,.int .u8 a,.int .u8 b,.int .u32 imm] 116)):=Ba _;have hbx:InsBox (w.alloc (.cells #[.int .u8 op,.int .u8 d,.int .u8 a,.int .u8 b,.int .u32 imm] 116)) w.heap.size op d a b imm:=⟨heap_alloc_new w _⟩;have HW:=Lh (H.out.below hbW);have HM:=Lh (Mod.of_below hbW (fun k=>k=cb∨k=wb∨Sp.pgBlk A k));have k8:=hbx.cells.2.2.2.2;have k9:=HW.out.cell2;have f2:=HW.out.thaw 2;clear hbx hbW;go_enter func290,ntmps290;go_wp2;go_end0;exact HFin.out _ (HW.out.setNext imm i0 i1) (HM.out.setCell _ (.inl (.inr (.inl rfl))) _)
theorem jal(h:WS w wb cb sb mb A r pc nx why)(op:Int)(d a b:Nat)(imm:Int)(o0:0≤op)(o1:op≤255)(i0:0≤imm)(i1:imm≤4294967295)(hd:d<16)(ha:a<16)(hb:b<16):
  Calls Tryz.prog 291 #[.pointer (some ⟨wb,0,none⟩),Ins.val ⟨op,d,a,b,imm⟩] w (WkPost w wb cb sb mb A A (putG r d (next pc)) pc (imm) why):=by
 have hva:=rg_bd h.cp.regs a;have hvb:=rg_bd h.cp.regs b;have ha1:(a:Int)<16:=by omega
 have hb1:(b:Int)<16:=by omega
 have hvn:=next_bd pc;have HFin:Hid (∀w',WS w' wb cb sb mb A (putG r d (next pc)) pc (imm) why→Mod (fun k=>k=cb∨k=wb∨Sp.pgBlk A k) w w'→WkPost w wb cb sb mb A A (putG r d (next pc)) pc (imm) why (.returned (.tuple #[])) w'):=Lh fun w' g1 g2=>⟨rfl,g1,g2⟩
 generalize WkPost w wb cb sb mb A A (putG r d (next pc)) pc (imm) why=PQ at*;have Hlt:Hid (w.heap.size≠cb∧w.heap.size≠wb):=Lh (by have:=h.cp.lt;have:=h.lt;omega);have H:=Lh h;clear h;unfold Ins.val;simp only;go_enter func291,ntmps291;go_wp2_with fail;generalize hW:w.alloc (.cells #[.int .u8 op,.int .u8 d,.int .u8 a,.int .u8 b,.int .u32 imm] 116)=W at*;have hbW:Below w.heap.size w W:=by rw[←hW];exact Ba _
 have hbx:InsBox W w.heap.size op d a b imm:=⟨by rw[←hW];exact heap_alloc_new w _⟩;have HW:=Lh (H.out.below hbW);have HS:Hid (∀w1,Below W.heap.size W w1→WS w1 wb cb sb mb A r pc nx why∧InsBox w1 w.heap.size op d a b imm∧Below w.heap.size w w1):=Lh fun w1 g=>⟨HW.out.below g,hbx.below g,hbW.trans (g.mono hbW.size)⟩
 clear hW;have k0:=hbx.cells.1;have k1:=hbx.cells.2.1;have k2:=hbx.cells.2.2.1;have k3:=hbx.cells.2.2.2.1;have k8:=hbx.cells.2.2.2.2;have k4:=HW.out.cell0;have k5:=HW.out.cp.cellReg a ha;have k6:=HW.out.cp.cellReg b hb;have k7:=HW.out.cp.cellPc;have k9:=HW.out.cell2;have f2:=HW.out.thaw 2;clear hbx hbW;have HQ:=Lh (HS.out W Br);have hnx:(pc+8) % 4294967296=next pc:=rfl;go_region_held3 (fun w'=>w'.cell? ⟨w.heap.size,1,none⟩=some (.int .u8 d)∧w'.cell? ⟨wb,0,none⟩=some (.pointer (some ⟨cb,0,none⟩))∧w'.cell? ⟨cb,16,none⟩=some (.int .u32 pc))
  (first
   |exact⟨k1,k4,k7⟩
   |exact⟨z1,z4,z7⟩)
  (first
   |(
     go_at_call 125
     first|refine(put (w:=W.drew) (HQ.out.1.cp.frame rfl) d hd _ hvn.1 hvn.2).mono ?_|refine(put (w:=W) HQ.out.1.cp d hd _ hvn.1 hvn.2).mono ?_
     rintro e w2 ⟨rfl,hc2,hm2⟩;have hz:=put_keep HQ.out (by first|exact hm2|exact undrewM hm2) hc2 Hlt.out.1;have z1:=hz.2.1.cells.2.1;have z8:=hz.2.1.cells.2.2.2.2;have z4:=hz.1.cell0;have z7:=hz.1.cp.cellPc))
 have HZ:=Lh hz;have f3:=hz.1.thaw 2;have q9:=hz.1.cell2;clear hz z1 z4 z7;go_wp2_with fail;go_end0;exact HFin.out _ (HZ.out.1.setNext imm i0 i1) ((HZ.out.2.2.mono fun k _ hk=>.inl hk).setCell _ (.inl (.inr (.inl rfl))) _)
theorem jr(h:WS w wb cb sb mb A r pc nx why)(op:Int)(d a b:Nat)(imm:Int)(o0:0≤op)(o1:op≤255)(i0:0≤imm)(i1:imm≤4294967295)(hd:d<16)(ha:a<16)(hb:b<16):
  Calls Tryz.prog 292 #[.pointer (some ⟨wb,0,none⟩),Ins.val ⟨op,d,a,b,imm⟩] w (WkPost w wb cb sb mb A A (r) pc (rg r a) why):=by
 have hva:=rg_bd h.cp.regs a;have hvb:=rg_bd h.cp.regs b;have ha1:(a:Int)<16:=by omega
 have hb1:(b:Int)<16:=by omega
 have HFin:Hid (∀w',WS w' wb cb sb mb A (r) pc (rg r a) why→Mod (fun k=>k=cb∨k=wb∨Sp.pgBlk A k) w w'→WkPost w wb cb sb mb A A (r) pc (rg r a) why (.returned (.tuple #[])) w'):=Lh fun w' g1 g2=>⟨rfl,g1,g2⟩
 generalize WkPost w wb cb sb mb A A (r) pc (rg r a) why=PQ at*;have Hlt:Hid (w.heap.size≠cb∧w.heap.size≠wb):=Lh (by have:=h.cp.lt;have:=h.lt;omega);have H:=Lh h;clear h;unfold Ins.val;simp only;go_enter func292,ntmps292;go_wp2_with fail;generalize hW:w.alloc (.cells #[.int .u8 op,.int .u8 d,.int .u8 a,.int .u8 b,.int .u32 imm] 116)=W at*;have hbW:Below w.heap.size w W:=by rw[←hW];exact Ba _
 have hbx:InsBox W w.heap.size op d a b imm:=⟨by rw[←hW];exact heap_alloc_new w _⟩;have HW:=Lh (H.out.below hbW);have HS:Hid (∀w1,Below W.heap.size W w1→WS w1 wb cb sb mb A r pc nx why∧InsBox w1 w.heap.size op d a b imm∧Below w.heap.size w w1):=Lh fun w1 g=>⟨HW.out.below g,hbx.below g,hbW.trans (g.mono hbW.size)⟩
 clear hW;have k0:=hbx.cells.1;have k1:=hbx.cells.2.1;have k2:=hbx.cells.2.2.1;have k3:=hbx.cells.2.2.2.1;have k8:=hbx.cells.2.2.2.2;have k4:=HW.out.cell0;have k5:=HW.out.cp.cellReg a ha;have k6:=HW.out.cp.cellReg b hb;have k7:=HW.out.cp.cellPc;have k9:=HW.out.cell2;have f2:=HW.out.thaw 2;clear hbx hbW;go_region
 all_goals
  go_wp2;go_end0;exact HFin.out _ ((HW.out.below (Br.drew)).setNext _ hva.1 hva.2) ((Mod.of_below ((HS.out W Br).2.2) (fun k=>k=cb∨k=wb∨Sp.pgBlk A k)).drew.setCell _ (.inl (.inr (.inl rfl))) _)
theorem beq(h:WS w wb cb sb mb A r pc nx why)(op:Int)(d a b:Nat)(imm:Int)(o0:0≤op)(o1:op≤255)(i0:0≤imm)(i1:imm≤4294967295)(hd:d<16)(ha:a<16)(hb:b<16):
  Calls Tryz.prog 293 #[.pointer (some ⟨wb,0,none⟩),Ins.val ⟨op,d,a,b,imm⟩] w (WkPost w wb cb sb mb A A (r) pc (br (rg r a == rg r b) imm nx) why):=by
 have hva:=rg_bd h.cp.regs a;have hvb:=rg_bd h.cp.regs b;have ha1:(a:Int)<16:=by omega
 have hb1:(b:Int)<16:=by omega
 have HFin:Hid (∀w',WS w' wb cb sb mb A (r) pc (br (rg r a == rg r b) imm nx) why→Mod (fun k=>k=cb∨k=wb∨Sp.pgBlk A k) w w'→WkPost w wb cb sb mb A A (r) pc (br (rg r a == rg r b) imm nx) why (.returned (.tuple #[])) w'):=Lh fun w' g1 g2=>⟨rfl,g1,g2⟩
 generalize WkPost w wb cb sb mb A A (r) pc (br (rg r a == rg r b) imm nx) why=PQ at*;have Hlt:Hid (w.heap.size≠cb∧w.heap.size≠wb):=Lh (by have:=h.cp.lt;have:=h.lt;omega);have H:=Lh h;clear h;unfold Ins.val;simp only;go_enter func293,ntmps293;go_wp2_with fail;generalize hW:w.alloc (.cells #[.int .u8 op,.int .u8 d,.int .u8 a,.int .u8 b,.int .u32 imm] 116)=W at*;have hbW:Below w.heap.size w W:=by rw[←hW];exact Ba _
 have hbx:InsBox W w.heap.size op d a b imm:=⟨by rw[←hW];exact heap_alloc_new w _⟩;have HW:=Lh (H.out.below hbW);have HS:Hid (∀w1,Below W.heap.size W w1→WS w1 wb cb sb mb A r pc nx why∧InsBox w1 w.heap.size op d a b imm∧Below w.heap.size w w1):=Lh fun w1 g=>⟨HW.out.below g,hbx.below g,hbW.trans (g.mono hbW.size)⟩
 clear hW;have k0:=hbx.cells.1;have k1:=hbx.cells.2.1;have k2:=hbx.cells.2.2.1;have k3:=hbx.cells.2.2.2.1;have k8:=hbx.cells.2.2.2.2;have k4:=HW.out.cell0;have k5:=HW.out.cp.cellReg a ha;have k6:=HW.out.cp.cellReg b hb;have k7:=HW.out.cp.cellPc;have k9:=HW.out.cell2;have f2:=HW.out.thaw 2;clear hbx hbW;have HV:Hid (∀V,V.heap=W.heap→WS V wb cb sb mb A r pc nx why):=Lh fun V e=>HW.out.frame (by rw[e]) (by rw[e]) fun k _=>by rw[e]
 cases hc:(rg r a == rg r b) with
 |true=>
  rw[hc] at HFin;go_region
  all_goals
   go_wp2_with fail
   first
    |refine(jump (w:=W.drew) (HV.out _ rfl) op d a b imm o0 o1 i0 i1 hd ha hb).mono ?_
    |refine(jump (w:=W) (HV.out _ rfl) op d a b imm o0 o1 i0 i1 hd ha hb).mono ?_
   rintro e w2 ⟨rfl,hw2,hm2⟩;have HW2:=Lh hw2;have HM2:Hid (Mod (fun k=>k=cb∨k=wb∨Sp.pgBlk A k) w w2):=Lh ((Mod.of_below (HS.out W Br).2.2 _).same (by first|exact hm2|exact undrewM hm2));clear hw2 hm2;go_wp2;go_end0;exact HFin.out _ HW2.out HM2.out
 |false=>
  rw[hc] at HFin;go_region
  all_goals
   go_wp2_with fail;go_end0;exact HFin.out _ (HV.out _ rfl) (Mod.of_below (HS.out W Br).2.2 _).drew
theorem bne(h:WS w wb cb sb mb A r pc nx why)(op:Int)(d a b:Nat)(imm:Int)(o0:0≤op)(o1:op≤255)(i0:0≤imm)(i1:imm≤4294967295)(hd:d<16)(ha:a<16)(hb:b<16):
  Calls Tryz.prog 294 #[.pointer (some ⟨wb,0,none⟩),Ins.val ⟨op,d,a,b,imm⟩] w (WkPost w wb cb sb mb A A (r) pc (br (rg r a != rg r b) imm nx) why):=by
 have hva:=rg_bd h.cp.regs a;have hvb:=rg_bd h.cp.regs b;have ha1:(a:Int)<16:=by omega
 have hb1:(b:Int)<16:=by omega
 have HFin:Hid (∀w',WS w' wb cb sb mb A (r) pc (br (rg r a != rg r b) imm nx) why→Mod (fun k=>k=cb∨k=wb∨Sp.pgBlk A k) w w'→WkPost w wb cb sb mb A A (r) pc (br (rg r a != rg r b) imm nx) why (.returned (.tuple #[])) w'):=Lh fun w' g1 g2=>⟨rfl,g1,g2⟩
 generalize WkPost w wb cb sb mb A A (r) pc (br (rg r a != rg r b) imm nx) why=PQ at*;have Hlt:Hid (w.heap.size≠cb∧w.heap.size≠wb):=Lh (by have:=h.cp.lt;have:=h.lt;omega);have H:=Lh h;clear h;unfold Ins.val;simp only;go_enter func294,ntmps294;go_wp2_with fail;generalize hW:w.alloc (.cells #[.int .u8 op,.int .u8 d,.int .u8 a,.int .u8 b,.int .u32 imm] 116)=W at*;have hbW:Below w.heap.size w W:=by rw[←hW];exact Ba _
 have hbx:InsBox W w.heap.size op d a b imm:=⟨by rw[←hW];exact heap_alloc_new w _⟩;have HW:=Lh (H.out.below hbW);have HS:Hid (∀w1,Below W.heap.size W w1→WS w1 wb cb sb mb A r pc nx why∧InsBox w1 w.heap.size op d a b imm∧Below w.heap.size w w1):=Lh fun w1 g=>⟨HW.out.below g,hbx.below g,hbW.trans (g.mono hbW.size)⟩
 clear hW;have k0:=hbx.cells.1;have k1:=hbx.cells.2.1;have k2:=hbx.cells.2.2.1;have k3:=hbx.cells.2.2.2.1;have k8:=hbx.cells.2.2.2.2;have k4:=HW.out.cell0;have k5:=HW.out.cp.cellReg a ha;have k6:=HW.out.cp.cellReg b hb;have k7:=HW.out.cp.cellPc;have k9:=HW.out.cell2;have f2:=HW.out.thaw 2;clear hbx hbW;have HV:Hid (∀V,V.heap=W.heap→WS V wb cb sb mb A r pc nx why):=Lh fun V e=>HW.out.frame (by rw[e]) (by rw[e]) fun k _=>by rw[e]
 cases hc:(rg r a != rg r b) with
 |true=>
  rw[hc] at HFin;go_region
  all_goals
   go_wp2_with fail
   first
    |refine(jump (w:=W.drew) (HV.out _ rfl) op d a b imm o0 o1 i0 i1 hd ha hb).mono ?_
    |refine(jump (w:=W) (HV.out _ rfl) op d a b imm o0 o1 i0 i1 hd ha hb).mono ?_
   rintro e w2 ⟨rfl,hw2,hm2⟩;have HW2:=Lh hw2;have HM2:Hid (Mod (fun k=>k=cb∨k=wb∨Sp.pgBlk A k) w w2):=Lh ((Mod.of_below (HS.out W Br).2.2 _).same (by first|exact hm2|exact undrewM hm2));clear hw2 hm2;go_wp2;go_end0;exact HFin.out _ HW2.out HM2.out
 |false=>
  rw[hc] at HFin;go_region
  all_goals
   go_wp2_with fail;go_end0;exact HFin.out _ (HV.out _ rfl) (Mod.of_below (HS.out W Br).2.2 _).drew
theorem bltu(h:WS w wb cb sb mb A r pc nx why)(op:Int)(d a b:Nat)(imm:Int)(o0:0≤op)(o1:op≤255)(i0:0≤imm)(i1:imm≤4294967295)(hd:d<16)(ha:a<16)(hb:b<16):
  Calls Tryz.prog 295 #[.pointer (some ⟨wb,0,none⟩),Ins.val ⟨op,d,a,b,imm⟩] w (WkPost w wb cb sb mb A A (r) pc (br (decide (rg r a<rg r b)) imm nx) why):=by
 have hva:=rg_bd h.cp.regs a;have hvb:=rg_bd h.cp.regs b;have ha1:(a:Int)<16:=by omega
 have hb1:(b:Int)<16:=by omega
 have HFin:Hid (∀w',WS w' wb cb sb mb A (r) pc (br (decide (rg r a<rg r b)) imm nx) why→Mod (fun k=>k=cb∨k=wb∨Sp.pgBlk A k) w w'→WkPost w wb cb sb mb A A (r) pc (br (decide (rg r a<rg r b)) imm nx) why (.returned (.tuple #[])) w'):=Lh fun w' g1 g2=>⟨rfl,g1,g2⟩
 generalize WkPost w wb cb sb mb A A (r) pc (br (decide (rg r a<rg r b)) imm nx) why=PQ at*;have Hlt:Hid (w.heap.size≠cb∧w.heap.size≠wb):=Lh (by have:=h.cp.lt;have:=h.lt;omega);have H:=Lh h;clear h;unfold Ins.val;simp only;go_enter func295,ntmps295;go_wp2_with fail;generalize hW:w.alloc (.cells #[.int .u8 op,.int .u8 d,.int .u8 a,.int .u8 b,.int .u32 imm] 116)=W at*;have hbW:Below w.heap.size w W:=by rw[←hW];exact Ba _
 have hbx:InsBox W w.heap.size op d a b imm:=⟨by rw[←hW];exact heap_alloc_new w _⟩;have HW:=Lh (H.out.below hbW);have HS:Hid (∀w1,Below W.heap.size W w1→WS w1 wb cb sb mb A r pc nx why∧InsBox w1 w.heap.size op d a b imm∧Below w.heap.size w w1):=Lh fun w1 g=>⟨HW.out.below g,hbx.below g,hbW.trans (g.mono hbW.size)⟩
 clear hW;have k0:=hbx.cells.1;have k1:=hbx.cells.2.1;have k2:=hbx.cells.2.2.1;have k3:=hbx.cells.2.2.2.1;have k8:=hbx.cells.2.2.2.2;have k4:=HW.out.cell0;have k5:=HW.out.cp.cellReg a ha;have k6:=HW.out.cp.cellReg b hb;have k7:=HW.out.cp.cellPc;have k9:=HW.out.cell2;have f2:=HW.out.thaw 2;clear hbx hbW;have HV:Hid (∀V,V.heap=W.heap→WS V wb cb sb mb A r pc nx why):=Lh fun V e=>HW.out.frame (by rw[e]) (by rw[e]) fun k _=>by rw[e]
 cases hc:(decide (rg r a<rg r b)) with
 |true=>
  rw[hc] at HFin;go_region
  all_goals
   go_wp2_with fail
   first
    |refine(jump (w:=W.drew) (HV.out _ rfl) op d a b imm o0 o1 i0 i1 hd ha hb).mono ?_
    |refine(jump (w:=W) (HV.out _ rfl) op d a b imm o0 o1 i0 i1 hd ha hb).mono ?_
   rintro e w2 ⟨rfl,hw2,hm2⟩;have HW2:=Lh hw2;have HM2:Hid (Mod (fun k=>k=cb∨k=wb∨Sp.pgBlk A k) w w2):=Lh ((Mod.of_below (HS.out W Br).2.2 _).same (by first|exact hm2|exact undrewM hm2));clear hw2 hm2;go_wp2;go_end0;exact HFin.out _ HW2.out HM2.out
 |false=>
  rw[hc] at HFin;go_region
  all_goals
   go_wp2_with fail;go_end0;exact HFin.out _ (HV.out _ rfl) (Mod.of_below (HS.out W Br).2.2 _).drew
theorem bgeu(h:WS w wb cb sb mb A r pc nx why)(op:Int)(d a b:Nat)(imm:Int)(o0:0≤op)(o1:op≤255)(i0:0≤imm)(i1:imm≤4294967295)(hd:d<16)(ha:a<16)(hb:b<16):
  Calls Tryz.prog 296 #[.pointer (some ⟨wb,0,none⟩),Ins.val ⟨op,d,a,b,imm⟩] w (WkPost w wb cb sb mb A A (r) pc (br (decide (rg r b≤rg r a)) imm nx) why):=by
 have hva:=rg_bd h.cp.regs a;have hvb:=rg_bd h.cp.regs b;have ha1:(a:Int)<16:=by omega
 have hb1:(b:Int)<16:=by omega
 have HFin:Hid (∀w',WS w' wb cb sb mb A (r) pc (br (decide (rg r b≤rg r a)) imm nx) why→Mod (fun k=>k=cb∨k=wb∨Sp.pgBlk A k) w w'→WkPost w wb cb sb mb A A (r) pc (br (decide (rg r b≤rg r a)) imm nx) why (.returned (.tuple #[])) w'):=Lh fun w' g1 g2=>⟨rfl,g1,g2⟩
 generalize WkPost w wb cb sb mb A A (r) pc (br (decide (rg r b≤rg r a)) imm nx) why=PQ at*;have Hlt:Hid (w.heap.size≠cb∧w.heap.size≠wb):=Lh (by have:=h.cp.lt;have:=h.lt;omega);have H:=Lh h;clear h;unfold Ins.val;simp only;go_enter func296,ntmps296;go_wp2_with fail;generalize hW:w.alloc (.cells #[.int .u8 op,.int .u8 d,.int .u8 a,.int .u8 b,.int .u32 imm] 116)=W at*;have hbW:Below w.heap.size w W:=by rw[←hW];exact Ba _
 have hbx:InsBox W w.heap.size op d a b imm:=⟨by rw[←hW];exact heap_alloc_new w _⟩;have HW:=Lh (H.out.below hbW);have HS:Hid (∀w1,Below W.heap.size W w1→WS w1 wb cb sb mb A r pc nx why∧InsBox w1 w.heap.size op d a b imm∧Below w.heap.size w w1):=Lh fun w1 g=>⟨HW.out.below g,hbx.below g,hbW.trans (g.mono hbW.size)⟩
 clear hW;have k0:=hbx.cells.1;have k1:=hbx.cells.2.1;have k2:=hbx.cells.2.2.1;have k3:=hbx.cells.2.2.2.1;have k8:=hbx.cells.2.2.2.2;have k4:=HW.out.cell0;have k5:=HW.out.cp.cellReg a ha;have k6:=HW.out.cp.cellReg b hb;have k7:=HW.out.cp.cellPc;have k9:=HW.out.cell2;have f2:=HW.out.thaw 2;clear hbx hbW;have HV:Hid (∀V,V.heap=W.heap→WS V wb cb sb mb A r pc nx why):=Lh fun V e=>HW.out.frame (by rw[e]) (by rw[e]) fun k _=>by rw[e]
 cases hc:(decide (rg r b≤rg r a)) with
 |true=>
  rw[hc] at HFin;go_region
  all_goals
   go_wp2_with fail
   first
    |refine(jump (w:=W.drew) (HV.out _ rfl) op d a b imm o0 o1 i0 i1 hd ha hb).mono ?_
    |refine(jump (w:=W) (HV.out _ rfl) op d a b imm o0 o1 i0 i1 hd ha hb).mono ?_
   rintro e w2 ⟨rfl,hw2,hm2⟩;have HW2:=Lh hw2;have HM2:Hid (Mod (fun k=>k=cb∨k=wb∨Sp.pgBlk A k) w w2):=Lh ((Mod.of_below (HS.out W Br).2.2 _).same (by first|exact hm2|exact undrewM hm2));clear hw2 hm2;go_wp2;go_end0;exact HFin.out _ HW2.out HM2.out
 |false=>
  rw[hc] at HFin;go_region
  all_goals
   go_wp2_with fail;go_end0;exact HFin.out _ (HV.out _ rfl) (Mod.of_below (HS.out W Br).2.2 _).drew
end
end Cp
open Go.RowKit Word
namespace Cp
theorem size_strOfNums(xs:List Int):(strOfNums xs).size=xs.length:=by
 show(strOfNums xs).data.size=_
 rw[←Array.length_toList,strOfNums_data,List.length_map]
theorem nums_take(s:ByteArray)(k:Nat):nums (s.extract 0 k)=(nums s).take k:=by
 unfold nums;rw[ByteArray.data_extract,Array.toList_extract,List.map_take]
 simp
theorem putL_bd'{v:Int}(h0:0≤v)(h1:v≤4294967295):∀x,x∈(putL v).take 4→0≤x∧x<256:=by
 intro x hx;have:=List.mem_of_mem_take hx;unfold putL at this;simp at this;omega
theorem write_keep{w w1 w2:World}{wb cb sb mb bx:Nat}{A A':List Pg}{r:List Int}{pc nx why op:Int}{d a b:Nat}{imm:Int}
  (h:WS w1 wb cb sb mb A r pc nx why∧InsBox w1 bx op d a b imm∧Below w.heap.size w w1) (hp:Spc w2 sb mb A') (hm:Mod (Sp.pgBlk A) w1 w2) (hft:∀k,Spc.foot sb mb A' k→Spc.foot sb mb A k) (hbx:∀k,Spc.foot sb mb A k→bx≠k):
  WS w2 wb cb sb mb A' r pc nx why∧InsBox w2 bx op d a b imm∧Mod (fun k=>k=cb∨k=wb∨Sp.pgBlk A k) w w2:=
 ⟨⟨⟨(hm.block _ h.1.lt fun g=>h.1.n3 (.inr (.inr g))).trans h.1.wk.blk,h.1.wk.n0,h.1.wk.n1⟩,h.1.cp.keep hm (fun g=>h.1.n2 (.inr (.inr g))),hp,h.1.n1,fun g=>h.1.n2 (hft _ g),fun g=>h.1.n3 (hft _ g)⟩,
  ⟨(hm.block _ (lQ h.2.1.blk) fun g=>hbx bx (.inr (.inr g)) rfl).trans h.2.1.blk⟩,(Mod.of_below h.2.2 _).same (hm.mono fun k _ hk=>.inr (.inr hk))⟩
theorem why_keep(v:Int){w w1:World}{wb cb sb mb bx:Nat}{A A':List Pg}{r:List Int}{pc nx why op:Int}{d a b:Nat}{imm:Int}
  (h:WS w1 wb cb sb mb A' r pc nx why∧InsBox w1 bx op d a b imm∧Mod (fun k=>k=cb∨k=wb∨Sp.pgBlk A k) w w1) (hbx:bx≠wb):
  WS (w1.setCell ⟨wb,3,none⟩ (.int .i64 v)) wb cb sb mb A' r pc nx v∧InsBox (w1.setCell ⟨wb,3,none⟩ (.int .i64 v)) bx op d a b imm∧Mod (fun k=>k=cb∨k=wb∨Sp.pgBlk A k) w (w1.setCell ⟨wb,3,none⟩ (.int .i64 v)):=
 ⟨h.1.setWhy v,⟨by rw[setCell_eq_setRow _ _ _ _ _ _ _ h.1.wk.blk,setRow_other _ _ _ _ hbx];exact h.2.1.blk⟩,h.2.2.setCell _ (.inl (.inr (.inl rfl))) _⟩
theorem put_keepM{F:Nat→Prop}{w w1 w2:World}{wb cb sb mb bx:Nat}{A:List Pg}{r r':List Int}{pc nx why op:Int}{d a b:Nat}{imm:Int}
  (h:WS w1 wb cb sb mb A r pc nx why∧InsBox w1 bx op d a b imm∧Mod (fun k=>k=cb∨F k) w w1) (hm:Mod (fun k=>k=cb) w1 w2) (hc:Cpu 155 w2 cb r' pc) (hne:bx≠cb):
  WS w2 wb cb sb mb A r' pc nx why∧InsBox w2 bx op d a b imm∧Mod (fun k=>k=cb∨F k) w w2:=
 ⟨h.1.putReg hc hm,⟨(hm.block _ (lQ h.2.1.blk) hne).trans h.2.1.blk⟩,h.2.2.same (hm.mono fun k _ hk=>.inl hk)⟩
section
variable {w:World} {wb cb sb mb:Nat} {A:List Pg} {r:List Int} {pc nx why:Int}
theorem getE_yes{A:List Pg}{AD:Int}{n:Nat}{need:Int}(n4:n≤4)(hf:Sp.fitsB A AD n need=true):Sp.getE A AD n need=0∧Sp.getS A AD n need=strOfNums (Sp.getL A AD n):=by
 unfold Sp.getE Sp.getS;rw[if_neg (by omega),if_neg (by omega),Int.toNat_natCast,Sp.fitsE_yes hf,if_pos hf];exact⟨rfl,rfl⟩
theorem getE_no{A:List Pg}{AD:Int}{n:Nat}{need:Int}(n4:n≤4)(hf:Sp.fitsB A AD n need=false):Sp.getE A AD n need=50:=by
 unfold Sp.getE;rw[if_neg (by omega),Int.toNat_natCast,Sp.fitsE_no hf]
theorem load_no(h:WS w wb cb sb mb A r pc nx why)(op:Int)(d a b:Nat)(imm:Int)(o0:0≤op)(o1:op≤255)(i0:0≤imm)(i1:imm≤4294967295)(hd:d<16)(ha:a<16)(hb:b<16)(n:Nat)(n1:1≤n)(n4:n≤4)(hf:Sp.fitsB A ((rg r a+imm) % 4294967296) n 1=false):
  Calls Tryz.prog 326 #[.pointer (some ⟨wb,0,none⟩),Ins.val ⟨op,d,a,b,imm⟩,.int .i64 n] w (WkPost w wb cb sb mb A (A) (r) pc nx (50)):=by
 have hva:=rg_bd h.cp.regs a;have hvb:=rg_bd h.cp.regs b;have ha1:(a:Int)<16:=by omega
 have hb1:(b:Int)<16:=by omega
 have hok:=h.sp.ok;obtain⟨AD,had⟩:∃AD,IntKind.u32.wrap (rg r a+imm)=AD:=⟨_,rfl⟩;have hax:(rg r a+imm) % 4294967296=AD:=by rw[←had,IntKind.wrap_u32']
 have hA0:0≤AD:=by omega
 have hA1:AD≤4294967295:=by omega
 have hE:=getE_no n4 hf;rw[hax] at hE;have HFin:Hid (∀w',WS w' wb cb sb mb (A) (r) pc nx (50)→Mod (fun k=>k=cb∨k=wb∨Sp.pgBlk A k) w w'→WkPost w wb cb sb mb A (A) (r) pc nx (50) (.returned (.tuple #[])) w'):=Lh fun w' g1 g2=>⟨rfl,g1,g2⟩
 generalize WkPost w wb cb sb mb A (A) (r) pc nx (50)=PQ at*;have Hlt:Hid (w.heap.size≠cb∧w.heap.size≠wb∧∀k,Spc.foot sb mb A k→w.heap.size≠k):=Lh ⟨by have:=h.cp.lt;omega,by have:=h.lt;omega,fun k hk=>by have:=h.sp.lt hk;omega⟩;have H:=Lh h;clear h;unfold Ins.val;simp only;go_enter func326,ntmps326;go_wp2_with fail;generalize hW:w.alloc (.cells #[.int .u8 op,.int .u8 d,.int .u8 a,.int .u8 b,.int .u32 imm] 116)=W at*;have hbW:Below w.heap.size w W:=by rw[←hW];exact Ba _
 have hbx:InsBox W w.heap.size op d a b imm:=⟨by rw[←hW];exact heap_alloc_new w _⟩;have HW:=Lh (H.out.below hbW);have HS:Hid (∀w1,Below W.heap.size W w1→WS w1 wb cb sb mb A r pc nx why∧InsBox w1 w.heap.size op d a b imm∧Below w.heap.size w w1):=Lh fun w1 g=>⟨HW.out.below g,hbx.below g,hbW.trans (g.mono hbW.size)⟩
 clear hW;have k1:=hbx.cells.2.1;have k2:=hbx.cells.2.2.1;have k3:=hbx.cells.2.2.2.1;have k8:=hbx.cells.2.2.2.2;have k4:=HW.out.cell0;have k9:=HW.out.cell1;have k5:=HW.out.cp.cellReg a ha;have k6:=HW.out.cp.cellReg b hb;clear hbx hbW;go_region_held3 (fun w'=>w'.cell? ⟨wb,1,none⟩=some (.pointer (some ⟨sb,0,none⟩))∧w'.cell? ⟨wb,0,none⟩=some (.pointer (some ⟨cb,0,none⟩))∧w'.cell? ⟨w.heap.size,2,none⟩=some (.int .u8 a)∧w'.cell? ⟨w.heap.size,4,none⟩=some (.int .u32 imm)∧w'.cell? ⟨cb,a,none⟩=some (.int .u32 (rg r a)))
  (first
   |exact⟨k9,k4,k2,k8,k5⟩
   |exact⟨q9,q4,q2,q8,q5⟩)
  (first
   |(
     go_at_call 303
     first|refine(Sp.read (w:=W.drew) (HW.out.sp.frame fun _ _=>rfl) AD n hA0 hA1).mono ?_|refine(Sp.read (w:=W) HW.out.sp AD n hA0 hA1).mono ?_
     rintro e w1 ⟨rfl,hq1⟩;have hq:=HS.out w1 (by first|exact hq1|exact undrew hq1);have q2:=hq.2.1.cells.2.2.1;have q8:=hq.2.1.cells.2.2.2.2;have q4:=hq.1.cell0;have q9:=hq.1.cell1;have q5:=hq.1.cp.cellReg a ha))
 have q1:=hq.2.1.cells.2.1;have q3:=hq.1.cell3;have f3:=hq.1.thaw 3;have HQ:=Lh hq;clear hq hq1 k1 k2 k3 k4 k5 k6 k8 k9 q2 q5 q8 q9;go_wp2;go_end0;exact HFin.out _ (HQ.out.1.setWhy 50) ((Mod.of_below HQ.out.2.2 _).setCell _ (.inl (.inr (.inl rfl))) _)
theorem load_yes(h:WS w wb cb sb mb A r pc nx why)(op:Int)(d a b:Nat)(imm:Int)(o0:0≤op)(o1:op≤255)(i0:0≤imm)(i1:imm≤4294967295)(hd:d<16)(ha:a<16)(hb:b<16)(n:Nat)(n1:1≤n)(n4:n≤4)(hf:Sp.fitsB A ((rg r a+imm) % 4294967296) n 1=true):
  Calls Tryz.prog 326 #[.pointer (some ⟨wb,0,none⟩),Ins.val ⟨op,d,a,b,imm⟩,.int .i64 n] w (WkPost w wb cb sb mb A (A) (putG r d (getV (Sp.getL A ((rg r a+imm) % 4294967296) n))) pc nx (0)):=by
 have hva:=rg_bd h.cp.regs a;have hvb:=rg_bd h.cp.regs b;have ha1:(a:Int)<16:=by omega
 have hb1:(b:Int)<16:=by omega
 have hok:=h.sp.ok;obtain⟨AD,had⟩:∃AD,IntKind.u32.wrap (rg r a+imm)=AD:=⟨_,rfl⟩;have hax:(rg r a+imm) % 4294967296=AD:=by rw[←had,IntKind.wrap_u32']
 have hA0:0≤AD:=by omega
 have hA1:AD≤4294967295:=by omega
 have hE:=getE_yes n4 hf;have hVb:=getV_small (getL_bd hok ((rg r a+imm) % 4294967296) n) (by rw[Sp.getL_length];exact n4);have hL1:=Sp.getL_length A ((rg r a+imm) % 4294967296) n;have hLb:=getL_bd hok ((rg r a+imm) % 4294967296) n;rw[hax] at hE hVb hL1 hLb;rw[hax];have HFin:Hid (∀w',WS w' wb cb sb mb (A) (putG r d (getV (Sp.getL A AD n))) pc nx (0)→Mod (fun k=>k=cb∨k=wb∨Sp.pgBlk A k) w w'→WkPost w wb cb sb mb A (A) (putG r d (getV (Sp.getL A AD n))) pc nx (0) (.returned (.tuple #[])) w'):=Lh fun w' g1 g2=>⟨rfl,g1,g2⟩
 generalize WkPost w wb cb sb mb A (A) (putG r d (getV (Sp.getL A AD n))) pc nx (0)=PQ at*;have Hlt:Hid (w.heap.size≠cb∧w.heap.size≠wb∧∀k,Spc.foot sb mb A k→w.heap.size≠k):=Lh ⟨by have:=h.cp.lt;omega,by have:=h.lt;omega,fun k hk=>by have:=h.sp.lt hk;omega⟩;have H:=Lh h;clear h;unfold Ins.val;simp only;go_enter func326,ntmps326;go_wp2_with fail;generalize hW:w.alloc (.cells #[.int .u8 op,.int .u8 d,.int .u8 a,.int .u8 b,.int .u32 imm] 116)=W at*;have hbW:Below w.heap.size w W:=by rw[←hW];exact Ba _
 have hbx:InsBox W w.heap.size op d a b imm:=⟨by rw[←hW];exact heap_alloc_new w _⟩;have HW:=Lh (H.out.below hbW);have HS:Hid (∀w1,Below W.heap.size W w1→WS w1 wb cb sb mb A r pc nx why∧InsBox w1 w.heap.size op d a b imm∧Below w.heap.size w w1):=Lh fun w1 g=>⟨HW.out.below g,hbx.below g,hbW.trans (g.mono hbW.size)⟩
 clear hW;have k1:=hbx.cells.2.1;have k2:=hbx.cells.2.2.1;have k3:=hbx.cells.2.2.2.1;have k8:=hbx.cells.2.2.2.2;have k4:=HW.out.cell0;have k9:=HW.out.cell1;have k5:=HW.out.cp.cellReg a ha;have k6:=HW.out.cp.cellReg b hb;clear hbx hbW;go_region_held3 (fun w'=>w'.cell? ⟨wb,1,none⟩=some (.pointer (some ⟨sb,0,none⟩))∧w'.cell? ⟨wb,0,none⟩=some (.pointer (some ⟨cb,0,none⟩))∧w'.cell? ⟨w.heap.size,2,none⟩=some (.int .u8 a)∧w'.cell? ⟨w.heap.size,4,none⟩=some (.int .u32 imm)∧w'.cell? ⟨cb,a,none⟩=some (.int .u32 (rg r a)))
  (first
   |exact⟨k9,k4,k2,k8,k5⟩
   |exact⟨q9,q4,q2,q8,q5⟩)
  (first
   |(
     go_at_call 303
     first|refine(Sp.read (w:=W.drew) (HW.out.sp.frame fun _ _=>rfl) AD n hA0 hA1).mono ?_|refine(Sp.read (w:=W) HW.out.sp AD n hA0 hA1).mono ?_
     rintro e w1 ⟨rfl,hq1⟩;have hq:=HS.out w1 (by first|exact hq1|exact undrew hq1);have q2:=hq.2.1.cells.2.2.1;have q8:=hq.2.1.cells.2.2.2.2;have q4:=hq.1.cell0;have q9:=hq.1.cell1;have q5:=hq.1.cp.cellReg a ha))
 have q1:=hq.2.1.cells.2.1;have q3:=hq.1.cell3;have f3:=hq.1.thaw 3;have HQ:=Lh hq;clear hq hq1 k1 k2 k3 k4 k5 k6 k8 k9 q2 q5 q8 q9;clear hE;generalize Sp.getL A AD n=L at*;have hsz:(strOfNums L).size=n:=by rw[size_strOfNums,hL1]
 have Hg:=Lh (get_ok (strOfNums L) (by omega) (by omega));rw[nums_strOfNums L hLb] at Hg;have HQ2:Hid (∀V:World,V=w1.setCell ⟨wb,3,none⟩ (.int .i64 0)→WS V wb cb sb mb A r pc nx 0∧InsBox V w.heap.size op d a b imm∧Mod (fun k=>k=cb∨k=wb∨Sp.pgBlk A k) w V):=Lh fun V e=>by
  subst e;refine⟨HQ.out.1.setWhy 0,⟨?_⟩,(Mod.of_below HQ.out.2.2 _).setCell _ (.inl (.inr (.inl rfl))) _⟩;rw[setCell_eq_setRow _ _ _ _ _ _ _ HQ.out.1.wk.blk,setRow_other _ _ _ _ Hlt.out.2.1];exact HQ.out.2.1.blk
 go_wp2_with (go_at_call 175;(with_reducible refine(Hg.out _).mono ?_);rintro e w2 ⟨rfl,rfl⟩);generalize hV:w1.setCell ⟨wb,3,none⟩ (.int .i64 0)=V at*;obtain⟨hv1,hv2,hv3⟩:=HQ2.out V rfl;have v1:=hv2.cells.2.1;have v4:=hv1.cell0;have HV:=Lh (⟨hv1,hv2,hv3⟩:_∧_∧_);clear q1 q3 q4 f3 hv1 hv2 hv3 hV;go_region_held3 (fun w'=>w'.cell? ⟨w.heap.size,1,none⟩=some (.int .u8 d)∧w'.cell? ⟨wb,0,none⟩=some (.pointer (some ⟨cb,0,none⟩)))
  (first
   |exact⟨v1,v4⟩
   |exact⟨z1,z4⟩)
  (first
   |(
     go_at_call 125
     first|refine(put (w:=V.drew) (HV.out.1.cp.frame rfl) d hd _ hVb.1 hVb.2).mono ?_|refine(put (w:=V) HV.out.1.cp d hd _ hVb.1 hVb.2).mono ?_
     rintro e w2 ⟨rfl,hc2,hm2⟩;have hz:=put_keepM HV.out (by first|exact hm2|exact undrewM hm2) hc2 Hlt.out.1;have z1:=hz.2.1.cells.2.1;have z4:=hz.1.cell0))
 all_goals
  have HZ:=Lh hz;clear hz z1 z4;go_end0;exact HFin.out _ HZ.out.1 HZ.out.2.2
theorem store_no(h:WS w wb cb sb mb A r pc nx why)(op:Int)(d a b:Nat)(imm:Int)(o0:0≤op)(o1:op≤255)(i0:0≤imm)(i1:imm≤4294967295)(hd:d<16)(ha:a<16)(hb:b<16)(n:Nat)(n1:1≤n)(n4:n≤4)(hf:Sp.fitsB A ((rg r a+imm) % 4294967296) n 2=false):
  Calls Tryz.prog 327 #[.pointer (some ⟨wb,0,none⟩),Ins.val ⟨op,d,a,b,imm⟩,.int .i64 n] w (WkPost w wb cb sb mb A (A) (r) pc nx (50)):=by
 have hva:=rg_bd h.cp.regs a;have hvb:=rg_bd h.cp.regs b;have ha1:(a:Int)<16:=by omega
 have hb1:(b:Int)<16:=by omega
 have hok:=h.sp.ok;obtain⟨AD,had⟩:∃AD,IntKind.u32.wrap (rg r a+imm)=AD:=⟨_,rfl⟩;have hax:(rg r a+imm) % 4294967296=AD:=by rw[←had,IntKind.wrap_u32']
 have hA0:0≤AD:=by omega
 have hA1:AD≤4294967295:=by omega
 rw[hax] at hf;have HFin:Hid (∀w',WS w' wb cb sb mb (A) (r) pc nx (50)→Mod (fun k=>k=cb∨k=wb∨Sp.pgBlk A k) w w'→WkPost w wb cb sb mb A (A) (r) pc nx (50) (.returned (.tuple #[])) w'):=Lh fun w' g1 g2=>⟨rfl,g1,g2⟩
 generalize WkPost w wb cb sb mb A (A) (r) pc nx (50)=PQ at*;have Hlt:Hid (w.heap.size≠cb∧w.heap.size≠wb∧∀k,Spc.foot sb mb A k→w.heap.size≠k):=Lh ⟨by have:=h.cp.lt;omega,by have:=h.lt;omega,fun k hk=>by have:=h.sp.lt hk;omega⟩;have H:=Lh h;clear h;unfold Ins.val;simp only;go_enter func327,ntmps327;go_wp2_with fail;generalize hW:w.alloc (.cells #[.int .u8 op,.int .u8 d,.int .u8 a,.int .u8 b,.int .u32 imm] 116)=W at*;have hbW:Below w.heap.size w W:=by rw[←hW];exact Ba _
 have hbx:InsBox W w.heap.size op d a b imm:=⟨by rw[←hW];exact heap_alloc_new w _⟩;have HW:=Lh (H.out.below hbW);have HS:Hid (∀w1,Below W.heap.size W w1→WS w1 wb cb sb mb A r pc nx why∧InsBox w1 w.heap.size op d a b imm∧Below w.heap.size w w1):=Lh fun w1 g=>⟨HW.out.below g,hbx.below g,hbW.trans (g.mono hbW.size)⟩
 clear hW;have k1:=hbx.cells.2.1;have k2:=hbx.cells.2.2.1;have k3:=hbx.cells.2.2.2.1;have k8:=hbx.cells.2.2.2.2;have k4:=HW.out.cell0;have k9:=HW.out.cell1;have k5:=HW.out.cp.cellReg a ha;have k6:=HW.out.cp.cellReg b hb;clear hbx hbW;go_region_held3 (fun w'=>w'.cell? ⟨wb,0,none⟩=some (.pointer (some ⟨cb,0,none⟩))∧w'.cell? ⟨w.heap.size,3,none⟩=some (.int .u8 b)∧w'.cell? ⟨cb,b,none⟩=some (.int .u32 (rg r b)))
  (first
   |exact⟨k4,k3,k6⟩
   |exact⟨q4,q3,q6⟩)
  (first
   |(
     go_at_call 336
     first|refine(put4_ok _ hvb.1 hvb.2 _).mono ?_
     rintro e w1 ⟨rfl,hq1⟩;have hq:=HS.out w1 (by first|exact hq1|exact undrew hq1);have q3:=hq.2.1.cells.2.2.2.1;have q4:=hq.1.cell0;have q6:=hq.1.cp.cellReg b hb))
 have q2:=hq.2.1.cells.2.2.1;have q8:=hq.2.1.cells.2.2.2.2;have q9:=hq.1.cell1;have q5:=hq.1.cp.cellReg a ha;have HQ:=Lh hq;clear hq hq1 k1 k2 k3 k4 k5 k6 k8 k9 q3 q6;have hS4:(putS (rg r b) 4).size=4:=by unfold putS;rw[size_strOfNums];rfl
 have hSn:((putS (rg r b) 4).extract 0 n).size=n:=by rw[ByteArray.size_extract,hS4];omega
 have hSx:nums ((putS (rg r b) 4).extract 0 n)=(putL (rg r b)).take n:=by rw[nums_take];unfold putS;rw[nums_strOfNums _ (putL_bd' hvb.1 hvb.2)];rw[List.take_take];congr 1;omega
 have hn4:(n:Int)≤4:=by omega
 have hn0:(0:Int)≤n:=by omega
 generalize putS (rg r b) 4=S at*;go_wp2_with fail;have hE:Sp.putA A AD 2 (S.extract 0 n)=A∧Sp.fitsE A AD (S.extract 0 n).size 2=50:=by
  rw[hSn];refine⟨?_,Sp.fitsE_no hf⟩;unfold Sp.putA;rw[hSn,hf];rfl
 have hft:Hid (∀k,Spc.foot sb mb A k→Spc.foot sb mb A k):=Lh fun k hk=>hk
 go_region_held3 (fun w'=>w'.cell? ⟨wb,1,none⟩=some (.pointer (some ⟨sb,0,none⟩))∧w'.cell? ⟨wb,0,none⟩=some (.pointer (some ⟨cb,0,none⟩))∧w'.cell? ⟨w.heap.size,2,none⟩=some (.int .u8 a)∧w'.cell? ⟨w.heap.size,4,none⟩=some (.int .u32 imm)∧w'.cell? ⟨cb,a,none⟩=some (.int .u32 (rg r a)))
  (first
   |exact⟨q9,q4,q2,q8,q5⟩
   |exact⟨z9,z4,z2,z8,z5⟩
   |exact⟨y9,y4,y2,y8,y5⟩)
  (first
   |(
     go_at_call 235
     first|refine(Sp.write (w:=w1.drew) (HQ.out.1.sp.frame fun _ _=>rfl) AD (S.extract 0 n) hA0 hA1 (by rw[hSn];omega)).mono ?_|refine(Sp.write (w:=w1) HQ.out.1.sp AD (S.extract 0 n) hA0 hA1 (by rw[hSn];omega)).mono ?_
     rintro e w2 ⟨rfl,hp2,hm2⟩;rw[hE.1] at hp2;rw[hE.2];have hz:=write_keep HQ.out hp2 (by first|exact hm2|exact undrewM hm2) hft.out Hlt.out.2.2;have z2:=hz.2.1.cells.2.2.1;have z8:=hz.2.1.cells.2.2.2.2;have z4:=hz.1.cell0;have z9:=hz.1.cell1;have z3:=hz.1.cell3;have t3:=hz.1.thaw 3;have z5:=hz.1.cp.cellReg a ha;have hy:=why_keep 50 hz Hlt.out.2.1;have y2:=hy.2.1.cells.2.2.1;have y8:=hy.2.1.cells.2.2.2.2;have y4:=hy.1.cell0;have y9:=hy.1.cell1;have y5:=hy.1.cp.cellReg a ha))
 all_goals
  have HY:=Lh hy;clear hz hy z2 z8 z4 z9 z3 t3 z5 y2 y8 y4 y9 y5 q2 q4 q5 q8 q9;go_wp2_with fail;go_end0;exact HFin.out _ HY.out.1 HY.out.2.2
theorem store_yes(h:WS w wb cb sb mb A r pc nx why)(op:Int)(d a b:Nat)(imm:Int)(o0:0≤op)(o1:op≤255)(i0:0≤imm)(i1:imm≤4294967295)(hd:d<16)(ha:a<16)(hb:b<16)(n:Nat)(n1:1≤n)(n4:n≤4)(hf:Sp.fitsB A ((rg r a+imm) % 4294967296) n 2=true):
  Calls Tryz.prog 327 #[.pointer (some ⟨wb,0,none⟩),Ins.val ⟨op,d,a,b,imm⟩,.int .i64 n] w (WkPost w wb cb sb mb A (putN A ((rg r a+imm) % 4294967296) ((putL (rg r b)).take n) n) (r) pc nx (0)):=by
 have hva:=rg_bd h.cp.regs a;have hvb:=rg_bd h.cp.regs b;have ha1:(a:Int)<16:=by omega
 have hb1:(b:Int)<16:=by omega
 have hok:=h.sp.ok;obtain⟨AD,had⟩:∃AD,IntKind.u32.wrap (rg r a+imm)=AD:=⟨_,rfl⟩;have hax:(rg r a+imm) % 4294967296=AD:=by rw[←had,IntKind.wrap_u32']
 have hA0:0≤AD:=by omega
 have hA1:AD≤4294967295:=by omega
 rw[hax] at hf⊢;have HFin:Hid (∀w',WS w' wb cb sb mb (putN A AD ((putL (rg r b)).take n) n) (r) pc nx (0)→Mod (fun k=>k=cb∨k=wb∨Sp.pgBlk A k) w w'→WkPost w wb cb sb mb A (putN A AD ((putL (rg r b)).take n) n) (r) pc nx (0) (.returned (.tuple #[])) w'):=Lh fun w' g1 g2=>⟨rfl,g1,g2⟩
 generalize WkPost w wb cb sb mb A (putN A AD ((putL (rg r b)).take n) n) (r) pc nx (0)=PQ at*;have Hlt:Hid (w.heap.size≠cb∧w.heap.size≠wb∧∀k,Spc.foot sb mb A k→w.heap.size≠k):=Lh ⟨by have:=h.cp.lt;omega,by have:=h.lt;omega,fun k hk=>by have:=h.sp.lt hk;omega⟩;have H:=Lh h;clear h;unfold Ins.val;simp only;go_enter func327,ntmps327;go_wp2_with fail;generalize hW:w.alloc (.cells #[.int .u8 op,.int .u8 d,.int .u8 a,.int .u8 b,.int .u32 imm] 116)=W at*;have hbW:Below w.heap.size w W:=by rw[←hW];exact Ba _
 have hbx:InsBox W w.heap.size op d a b imm:=⟨by rw[←hW];exact heap_alloc_new w _⟩;have HW:=Lh (H.out.below hbW);have HS:Hid (∀w1,Below W.heap.size W w1→WS w1 wb cb sb mb A r pc nx why∧InsBox w1 w.heap.size op d a b imm∧Below w.heap.size w w1):=Lh fun w1 g=>⟨HW.out.below g,hbx.below g,hbW.trans (g.mono hbW.size)⟩
 clear hW;have k1:=hbx.cells.2.1;have k2:=hbx.cells.2.2.1;have k3:=hbx.cells.2.2.2.1;have k8:=hbx.cells.2.2.2.2;have k4:=HW.out.cell0;have k9:=HW.out.cell1;have k5:=HW.out.cp.cellReg a ha;have k6:=HW.out.cp.cellReg b hb;clear hbx hbW;go_region_held3 (fun w'=>w'.cell? ⟨wb,0,none⟩=some (.pointer (some ⟨cb,0,none⟩))∧w'.cell? ⟨w.heap.size,3,none⟩=some (.int .u8 b)∧w'.cell? ⟨cb,b,none⟩=some (.int .u32 (rg r b)))
  (first
   |exact⟨k4,k3,k6⟩
   |exact⟨q4,q3,q6⟩)
  (first
   |(
     go_at_call 336
     first|refine(put4_ok _ hvb.1 hvb.2 _).mono ?_
     rintro e w1 ⟨rfl,hq1⟩;have hq:=HS.out w1 (by first|exact hq1|exact undrew hq1);have q3:=hq.2.1.cells.2.2.2.1;have q4:=hq.1.cell0;have q6:=hq.1.cp.cellReg b hb))
 have q2:=hq.2.1.cells.2.2.1;have q8:=hq.2.1.cells.2.2.2.2;have q9:=hq.1.cell1;have q5:=hq.1.cp.cellReg a ha;have HQ:=Lh hq;clear hq hq1 k1 k2 k3 k4 k5 k6 k8 k9 q3 q6;have hS4:(putS (rg r b) 4).size=4:=by unfold putS;rw[size_strOfNums];rfl
 have hSn:((putS (rg r b) 4).extract 0 n).size=n:=by rw[ByteArray.size_extract,hS4];omega
 have hSx:nums ((putS (rg r b) 4).extract 0 n)=(putL (rg r b)).take n:=by rw[nums_take];unfold putS;rw[nums_strOfNums _ (putL_bd' hvb.1 hvb.2)];rw[List.take_take];congr 1;omega
 have hn4:(n:Int)≤4:=by omega
 have hn0:(0:Int)≤n:=by omega
 generalize putS (rg r b) 4=S at*;go_wp2_with fail;have hE:Sp.putA A AD 2 (S.extract 0 n)=putN A AD ((putL (rg r b)).take n) n∧Sp.fitsE A AD (S.extract 0 n).size 2=0:=by
  rw[hSn];refine⟨?_,Sp.fitsE_yes hf⟩;unfold Sp.putA;rw[hSn,if_pos hf,hSx]
 have hft:Hid (∀k,Spc.foot sb mb (putN A AD ((putL (rg r b)).take n) n) k→Spc.foot sb mb A k):=Lh fun k hk=>foot_putN.1 hk
 go_region_held3 (fun w'=>w'.cell? ⟨wb,1,none⟩=some (.pointer (some ⟨sb,0,none⟩))∧w'.cell? ⟨wb,0,none⟩=some (.pointer (some ⟨cb,0,none⟩))∧w'.cell? ⟨w.heap.size,2,none⟩=some (.int .u8 a)∧w'.cell? ⟨w.heap.size,4,none⟩=some (.int .u32 imm)∧w'.cell? ⟨cb,a,none⟩=some (.int .u32 (rg r a)))
  (first
   |exact⟨q9,q4,q2,q8,q5⟩
   |exact⟨z9,z4,z2,z8,z5⟩
   |exact⟨y9,y4,y2,y8,y5⟩)
  (first
   |(
     go_at_call 235
     first|refine(Sp.write (w:=w1.drew) (HQ.out.1.sp.frame fun _ _=>rfl) AD (S.extract 0 n) hA0 hA1 (by rw[hSn];omega)).mono ?_|refine(Sp.write (w:=w1) HQ.out.1.sp AD (S.extract 0 n) hA0 hA1 (by rw[hSn];omega)).mono ?_
     rintro e w2 ⟨rfl,hp2,hm2⟩;rw[hE.1] at hp2;rw[hE.2];have hz:=write_keep HQ.out hp2 (by first|exact hm2|exact undrewM hm2) hft.out Hlt.out.2.2;have z2:=hz.2.1.cells.2.2.1;have z8:=hz.2.1.cells.2.2.2.2;have z4:=hz.1.cell0;have z9:=hz.1.cell1;have z3:=hz.1.cell3;have t3:=hz.1.thaw 3;have z5:=hz.1.cp.cellReg a ha;have hy:=why_keep 0 hz Hlt.out.2.1;have y2:=hy.2.1.cells.2.2.1;have y8:=hy.2.1.cells.2.2.2.2;have y4:=hy.1.cell0;have y9:=hy.1.cell1;have y5:=hy.1.cp.cellReg a ha))
 all_goals
  have HY:=Lh hy;clear hz hy z2 z8 z4 z9 z3 t3 z5 y2 y8 y4 y9 y5 q2 q4 q5 q8 q9;go_wp2_with fail;go_end0;exact HFin.out _ HY.out.1 HY.out.2.2
end
end Cp
open Go.RowKit Word
namespace Cp
section
variable {w:World} {wb cb sb mb:Nat} {A:List Pg} {r:List Int} {pc nx why:Int}
theorem lb_yes(h:WS w wb cb sb mb A r pc nx why)(op:Int)(d a b:Nat)(imm:Int)(o0:0≤op)(o1:op≤255)(i0:0≤imm)(i1:imm≤4294967295)(hd:d<16)(ha:a<16)(hb:b<16)(hf:Sp.fitsB A ((rg r a+imm) % 4294967296) 1 1=true):
  Calls Tryz.prog 286 #[.pointer (some ⟨wb,0,none⟩),Ins.val ⟨op,d,a,b,imm⟩] w (WkPost w wb cb sb mb A (A) (putG r d (getV (Sp.getL A ((rg r a+imm) % 4294967296) 1))) pc nx (0)):=by
 have hbW:Below w.heap.size w (w.alloc (.cells #[.int .u8 op,.int .u8 d,.int .u8 a,.int .u8 b,.int .u32 imm] 116)):=Ba _;have hbx:InsBox (w.alloc (.cells #[.int .u8 op,.int .u8 d,.int .u8 a,.int .u8 b,.int .u32 imm] 116)) w.heap.size op d a b imm:=⟨heap_alloc_new w _⟩;have HC:=Lh (load_yes (h.below hbW) op d a b imm o0 o1 i0 i1 hd ha hb 1 (by omega) (by omega) hf);have HFin:Hid (∀e w',WkPost (w.alloc (.cells #[.int .u8 op,.int .u8 d,.int .u8 a,.int .u8 b,.int .u32 imm] 116)) wb cb sb mb A (A) (putG r d (getV (Sp.getL A ((rg r a+imm) % 4294967296) 1))) pc nx (0) e w'→e=.returned (.tuple #[])∧WkPost w wb cb sb mb A (A) (putG r d (getV (Sp.getL A ((rg r a+imm) % 4294967296) 1))) pc nx (0) (.returned (.tuple #[])) w'):=Lh fun e w' g=>⟨g.1,rfl,g.2.1,(Mod.of_below hbW _).same g.2.2⟩
 generalize WkPost w wb cb sb mb A (A) (putG r d (getV (Sp.getL A ((rg r a+imm) % 4294967296) 1))) pc nx (0)=PQ at*;generalize WkPost (w.alloc (.cells #[.int .u8 op,.int .u8 d,.int .u8 a,.int .u8 b,.int .u32 imm] 116)) wb cb sb mb A (A) (putG r d (getV (Sp.getL A ((rg r a+imm) % 4294967296) 1))) pc nx (0)=QQ at*;have k0:=hbx.cells.1;have k1:=hbx.cells.2.1;have k2:=hbx.cells.2.2.1;have k3:=hbx.cells.2.2.2.1;have k8:=hbx.cells.2.2.2.2;clear h hbx hbW hf;unfold Ins.val at HC⊢;simp only at HC⊢;go_enter func286,ntmps286;go_wp2_with fail;refine HC.out.mono ?_;intro e w2 hq;have hq2:=HFin.out e w2 hq;clear hq HFin;obtain⟨rfl,hq3⟩:=hq2;have HQ:=Lh hq3;clear hq3;go_wp2;go_end0;exact HQ.out
theorem lb_no(h:WS w wb cb sb mb A r pc nx why)(op:Int)(d a b:Nat)(imm:Int)(o0:0≤op)(o1:op≤255)(i0:0≤imm)(i1:imm≤4294967295)(hd:d<16)(ha:a<16)(hb:b<16)(hf:Sp.fitsB A ((rg r a+imm) % 4294967296) 1 1=false):
  Calls Tryz.prog 286 #[.pointer (some ⟨wb,0,none⟩),Ins.val ⟨op,d,a,b,imm⟩] w (WkPost w wb cb sb mb A (A) (r) pc nx (50)):=by
 have hbW:Below w.heap.size w (w.alloc (.cells #[.int .u8 op,.int .u8 d,.int .u8 a,.int .u8 b,.int .u32 imm] 116)):=Ba _;have hbx:InsBox (w.alloc (.cells #[.int .u8 op,.int .u8 d,.int .u8 a,.int .u8 b,.int .u32 imm] 116)) w.heap.size op d a b imm:=⟨heap_alloc_new w _⟩;have HC:=Lh (load_no (h.below hbW) op d a b imm o0 o1 i0 i1 hd ha hb 1 (by omega) (by omega) hf);have HFin:Hid (∀e w',WkPost (w.alloc (.cells #[.int .u8 op,.int .u8 d,.int .u8 a,.int .u8 b,.int .u32 imm] 116)) wb cb sb mb A (A) (r) pc nx (50) e w'→e=.returned (.tuple #[])∧WkPost w wb cb sb mb A (A) (r) pc nx (50) (.returned (.tuple #[])) w'):=Lh fun e w' g=>⟨g.1,rfl,g.2.1,(Mod.of_below hbW _).same g.2.2⟩
 generalize WkPost w wb cb sb mb A (A) (r) pc nx (50)=PQ at*;generalize WkPost (w.alloc (.cells #[.int .u8 op,.int .u8 d,.int .u8 a,.int .u8 b,.int .u32 imm] 116)) wb cb sb mb A (A) (r) pc nx (50)=QQ at*;have k0:=hbx.cells.1;have k1:=hbx.cells.2.1;have k2:=hbx.cells.2.2.1;have k3:=hbx.cells.2.2.2.1;have k8:=hbx.cells.2.2.2.2;clear h hbx hbW hf;unfold Ins.val at HC⊢;simp only at HC⊢;go_enter func286,ntmps286;go_wp2_with fail;refine HC.out.mono ?_;intro e w2 hq;have hq2:=HFin.out e w2 hq;clear hq HFin;obtain⟨rfl,hq3⟩:=hq2;have HQ:=Lh hq3;clear hq3;go_wp2;go_end0;exact HQ.out
theorem lw_yes(h:WS w wb cb sb mb A r pc nx why)(op:Int)(d a b:Nat)(imm:Int)(o0:0≤op)(o1:op≤255)(i0:0≤imm)(i1:imm≤4294967295)(hd:d<16)(ha:a<16)(hb:b<16)(hf:Sp.fitsB A ((rg r a+imm) % 4294967296) 4 1=true):
  Calls Tryz.prog 287 #[.pointer (some ⟨wb,0,none⟩),Ins.val ⟨op,d,a,b,imm⟩] w (WkPost w wb cb sb mb A (A) (putG r d (getV (Sp.getL A ((rg r a+imm) % 4294967296) 4))) pc nx (0)):=by
 have hbW:Below w.heap.size w (w.alloc (.cells #[.int .u8 op,.int .u8 d,.int .u8 a,.int .u8 b,.int .u32 imm] 116)):=Ba _;have hbx:InsBox (w.alloc (.cells #[.int .u8 op,.int .u8 d,.int .u8 a,.int .u8 b,.int .u32 imm] 116)) w.heap.size op d a b imm:=⟨heap_alloc_new w _⟩;have HC:=Lh (load_yes (h.below hbW) op d a b imm o0 o1 i0 i1 hd ha hb 4 (by omega) (by omega) hf);have HFin:Hid (∀e w',WkPost (w.alloc (.cells #[.int .u8 op,.int .u8 d,.int .u8 a,.int .u8 b,.int .u32 imm] 116)) wb cb sb mb A (A) (putG r d (getV (Sp.getL A ((rg r a+imm) % 4294967296) 4))) pc nx (0) e w'→e=.returned (.tuple #[])∧WkPost w wb cb sb mb A (A) (putG r d (getV (Sp.getL A ((rg r a+imm) % 4294967296) 4))) pc nx (0) (.returned (.tuple #[])) w'):=Lh fun e w' g=>⟨g.1,rfl,g.2.1,(Mod.of_below hbW _).same g.2.2⟩
 generalize WkPost w wb cb sb mb A (A) (putG r d (getV (Sp.getL A ((rg r a+imm) % 4294967296) 4))) pc nx (0)=PQ at*;generalize WkPost (w.alloc (.cells #[.int .u8 op,.int .u8 d,.int .u8 a,.int .u8 b,.int .u32 imm] 116)) wb cb sb mb A (A) (putG r d (getV (Sp.getL A ((rg r a+imm) % 4294967296) 4))) pc nx (0)=QQ at*;have k0:=hbx.cells.1;have k1:=hbx.cells.2.1;have k2:=hbx.cells.2.2.1;have k3:=hbx.cells.2.2.2.1;have k8:=hbx.cells.2.2.2.2;clear h hbx hbW hf;unfold Ins.val at HC⊢;simp only at HC⊢;go_enter func287,ntmps287;go_wp2_with fail;refine HC.out.mono ?_;intro e w2 hq;have hq2:=HFin.out e w2 hq;clear hq HFin;obtain⟨rfl,hq3⟩:=hq2;have HQ:=Lh hq3;clear hq3;go_wp2;go_end0;exact HQ.out
theorem lw_no(h:WS w wb cb sb mb A r pc nx why)(op:Int)(d a b:Nat)(imm:Int)(o0:0≤op)(o1:op≤255)(i0:0≤imm)(i1:imm≤4294967295)(hd:d<16)(ha:a<16)(hb:b<16)(hf:Sp.fitsB A ((rg r a+imm) % 4294967296) 4 1=false):
  Calls Tryz.prog 287 #[.pointer (some ⟨wb,0,none⟩),Ins.val ⟨op,d,a,b,imm⟩] w (WkPost w wb cb sb mb A (A) (r) pc nx (50)):=by
 have hbW:Below w.heap.size w (w.alloc (.cells #[.int .u8 op,.int .u8 d,.int .u8 a,.int .u8 b,.int .u32 imm] 116)):=Ba _;have hbx:InsBox (w.alloc (.cells #[.int .u8 op,.int .u8 d,.int .u8 a,.int .u8 b,.int .u32 imm] 116)) w.heap.size op d a b imm:=⟨heap_alloc_new w _⟩;have HC:=Lh (load_no (h.below hbW) op d a b imm o0 o1 i0 i1 hd ha hb 4 (by omega) (by omega) hf);have HFin:Hid (∀e w',WkPost (w.alloc (.cells #[.int .u8 op,.int .u8 d,.int .u8 a,.int .u8 b,.int .u32 imm] 116)) wb cb sb mb A (A) (r) pc nx (50) e w'→e=.returned (.tuple #[])∧WkPost w wb cb sb mb A (A) (r) pc nx (50) (.returned (.tuple #[])) w'):=Lh fun e w' g=>⟨g.1,rfl,g.2.1,(Mod.of_below hbW _).same g.2.2⟩
 generalize WkPost w wb cb sb mb A (A) (r) pc nx (50)=PQ at*;generalize WkPost (w.alloc (.cells #[.int .u8 op,.int .u8 d,.int .u8 a,.int .u8 b,.int .u32 imm] 116)) wb cb sb mb A (A) (r) pc nx (50)=QQ at*;have k0:=hbx.cells.1;have k1:=hbx.cells.2.1;have k2:=hbx.cells.2.2.1;have k3:=hbx.cells.2.2.2.1;have k8:=hbx.cells.2.2.2.2;clear h hbx hbW hf;unfold Ins.val at HC⊢;simp only at HC⊢;go_enter func287,ntmps287;go_wp2_with fail;refine HC.out.mono ?_;intro e w2 hq;have hq2:=HFin.out e w2 hq;clear hq HFin;obtain⟨rfl,hq3⟩:=hq2;have HQ:=Lh hq3;clear hq3;go_wp2;go_end0;exact HQ.out
theorem sb_yes(h:WS w wb cb sb mb A r pc nx why)(op:Int)(d a b:Nat)(imm:Int)(o0:0≤op)(o1:op≤255)(i0:0≤imm)(i1:imm≤4294967295)(hd:d<16)(ha:a<16)(hb:b<16)(hf:Sp.fitsB A ((rg r a+imm) % 4294967296) 1 2=true):
  Calls Tryz.prog 288 #[.pointer (some ⟨wb,0,none⟩),Ins.val ⟨op,d,a,b,imm⟩] w (WkPost w wb cb sb mb A (putN A ((rg r a+imm) % 4294967296) ((putL (rg r b)).take 1) 1) (r) pc nx (0)):=by
 have hbW:Below w.heap.size w (w.alloc (.cells #[.int .u8 op,.int .u8 d,.int .u8 a,.int .u8 b,.int .u32 imm] 116)):=Ba _;have hbx:InsBox (w.alloc (.cells #[.int .u8 op,.int .u8 d,.int .u8 a,.int .u8 b,.int .u32 imm] 116)) w.heap.size op d a b imm:=⟨heap_alloc_new w _⟩;have HC:=Lh (store_yes (h.below hbW) op d a b imm o0 o1 i0 i1 hd ha hb 1 (by omega) (by omega) hf);have HFin:Hid (∀e w',WkPost (w.alloc (.cells #[.int .u8 op,.int .u8 d,.int .u8 a,.int .u8 b,.int .u32 imm] 116)) wb cb sb mb A (putN A ((rg r a+imm) % 4294967296) ((putL (rg r b)).take 1) 1) (r) pc nx (0) e w'→e=.returned (.tuple #[])∧WkPost w wb cb sb mb A (putN A ((rg r a+imm) % 4294967296) ((putL (rg r b)).take 1) 1) (r) pc nx (0) (.returned (.tuple #[])) w'):=Lh fun e w' g=>⟨g.1,rfl,g.2.1,(Mod.of_below hbW _).same g.2.2⟩
 generalize WkPost w wb cb sb mb A (putN A ((rg r a+imm) % 4294967296) ((putL (rg r b)).take 1) 1) (r) pc nx (0)=PQ at*;generalize WkPost (w.alloc (.cells #[.int .u8 op,.int .u8 d,.int .u8 a,.int .u8 b,.int .u32 imm] 116)) wb cb sb mb A (putN A ((rg r a+imm) % 4294967296) ((putL (rg r b)).take 1) 1) (r) pc nx (0)=QQ at*;have k0:=hbx.cells.1;have k1:=hbx.cells.2.1;have k2:=hbx.cells.2.2.1;have k3:=hbx.cells.2.2.2.1;have k8:=hbx.cells.2.2.2.2;clear h hbx hbW hf;unfold Ins.val at HC⊢;simp only at HC⊢;go_enter func288,ntmps288;go_wp2_with fail;refine HC.out.mono ?_;intro e w2 hq;have hq2:=HFin.out e w2 hq;clear hq HFin;obtain⟨rfl,hq3⟩:=hq2;have HQ:=Lh hq3;clear hq3;go_wp2;go_end0;exact HQ.out
theorem sb_no(h:WS w wb cb sb mb A r pc nx why)(op:Int)(d a b:Nat)(imm:Int)(o0:0≤op)(o1:op≤255)(i0:0≤imm)(i1:imm≤4294967295)(hd:d<16)(ha:a<16)(hb:b<16)(hf:Sp.fitsB A ((rg r a+imm) % 4294967296) 1 2=false):
  Calls Tryz.prog 288 #[.pointer (some ⟨wb,0,none⟩),Ins.val ⟨op,d,a,b,imm⟩] w (WkPost w wb cb sb mb A (A) (r) pc nx (50)):=by
 have hbW:Below w.heap.size w (w.alloc (.cells #[.int .u8 op,.int .u8 d,.int .u8 a,.int .u8 b,.int .u32 imm] 116)):=Ba _;have hbx:InsBox (w.alloc (.cells #[.int .u8 op,.int .u8 d,.int .u8 a,.int .u8 b,.int .u32 imm] 116)) w.heap.size op d a b imm:=⟨heap_alloc_new w _⟩;have HC:=Lh (store_no (h.below hbW) op d a b imm o0 o1 i0 i1 hd ha hb 1 (by omega) (by omega) hf);have HFin:Hid (∀e w',WkPost (w.alloc (.cells #[.int .u8 op,.int .u8 d,.int .u8 a,.int .u8 b,.int .u32 imm] 116)) wb cb sb mb A (A) (r) pc nx (50) e w'→e=.returned (.tuple #[])∧WkPost w wb cb sb mb A (A) (r) pc nx (50) (.returned (.tuple #[])) w'):=Lh fun e w' g=>⟨g.1,rfl,g.2.1,(Mod.of_below hbW _).same g.2.2⟩
 generalize WkPost w wb cb sb mb A (A) (r) pc nx (50)=PQ at*;generalize WkPost (w.alloc (.cells #[.int .u8 op,.int .u8 d,.int .u8 a,.int .u8 b,.int .u32 imm] 116)) wb cb sb mb A (A) (r) pc nx (50)=QQ at*;have k0:=hbx.cells.1;have k1:=hbx.cells.2.1;have k2:=hbx.cells.2.2.1;have k3:=hbx.cells.2.2.2.1;have k8:=hbx.cells.2.2.2.2;clear h hbx hbW hf;unfold Ins.val at HC⊢;simp only at HC⊢;go_enter func288,ntmps288;go_wp2_with fail;refine HC.out.mono ?_;intro e w2 hq;have hq2:=HFin.out e w2 hq;clear hq HFin;obtain⟨rfl,hq3⟩:=hq2;have HQ:=Lh hq3;clear hq3;go_wp2;go_end0;exact HQ.out
theorem sw_yes(h:WS w wb cb sb mb A r pc nx why)(op:Int)(d a b:Nat)(imm:Int)(o0:0≤op)(o1:op≤255)(i0:0≤imm)(i1:imm≤4294967295)(hd:d<16)(ha:a<16)(hb:b<16)(hf:Sp.fitsB A ((rg r a+imm) % 4294967296) 4 2=true):
  Calls Tryz.prog 289 #[.pointer (some ⟨wb,0,none⟩),Ins.val ⟨op,d,a,b,imm⟩] w (WkPost w wb cb sb mb A (putN A ((rg r a+imm) % 4294967296) ((putL (rg r b)).take 4) 4) (r) pc nx (0)):=by
 have hbW:Below w.heap.size w (w.alloc (.cells #[.int .u8 op,.int .u8 d,.int .u8 a,.int .u8 b,.int .u32 imm] 116)):=Ba _;have hbx:InsBox (w.alloc (.cells #[.int .u8 op,.int .u8 d,.int .u8 a,.int .u8 b,.int .u32 imm] 116)) w.heap.size op d a b imm:=⟨heap_alloc_new w _⟩;have HC:=Lh (store_yes (h.below hbW) op d a b imm o0 o1 i0 i1 hd ha hb 4 (by omega) (by omega) hf);have HFin:Hid (∀e w',WkPost (w.alloc (.cells #[.int .u8 op,.int .u8 d,.int .u8 a,.int .u8 b,.int .u32 imm] 116)) wb cb sb mb A (putN A ((rg r a+imm) % 4294967296) ((putL (rg r b)).take 4) 4) (r) pc nx (0) e w'→e=.returned (.tuple #[])∧WkPost w wb cb sb mb A (putN A ((rg r a+imm) % 4294967296) ((putL (rg r b)).take 4) 4) (r) pc nx (0) (.returned (.tuple #[])) w'):=Lh fun e w' g=>⟨g.1,rfl,g.2.1,(Mod.of_below hbW _).same g.2.2⟩
 generalize WkPost w wb cb sb mb A (putN A ((rg r a+imm) % 4294967296) ((putL (rg r b)).take 4) 4) (r) pc nx (0)=PQ at*;generalize WkPost (w.alloc (.cells #[.int .u8 op,.int .u8 d,.int .u8 a,.int .u8 b,.int .u32 imm] 116)) wb cb sb mb A (putN A ((rg r a+imm) % 4294967296) ((putL (rg r b)).take 4) 4) (r) pc nx (0)=QQ at*;have k0:=hbx.cells.1;have k1:=hbx.cells.2.1;have k2:=hbx.cells.2.2.1;have k3:=hbx.cells.2.2.2.1;have k8:=hbx.cells.2.2.2.2;clear h hbx hbW hf;unfold Ins.val at HC⊢;simp only at HC⊢;go_enter func289,ntmps289;go_wp2_with fail;refine HC.out.mono ?_;intro e w2 hq;have hq2:=HFin.out e w2 hq;clear hq HFin;obtain⟨rfl,hq3⟩:=hq2;have HQ:=Lh hq3;clear hq3;go_wp2;go_end0;exact HQ.out
theorem sw_no(h:WS w wb cb sb mb A r pc nx why)(op:Int)(d a b:Nat)(imm:Int)(o0:0≤op)(o1:op≤255)(i0:0≤imm)(i1:imm≤4294967295)(hd:d<16)(ha:a<16)(hb:b<16)(hf:Sp.fitsB A ((rg r a+imm) % 4294967296) 4 2=false):
  Calls Tryz.prog 289 #[.pointer (some ⟨wb,0,none⟩),Ins.val ⟨op,d,a,b,imm⟩] w (WkPost w wb cb sb mb A (A) (r) pc nx (50)):=by
 have hbW:Below w.heap.size w (w.alloc (.cells #[.int .u8 op,.int .u8 d,.int .u8 a,.int .u8 b,.int .u32 imm] 116)):=Ba _;have hbx:InsBox (w.alloc (.cells #[.int .u8 op,.int .u8 d,.int .u8 a,.int .u8 b,.int .u32 imm] 116)) w.heap.size op d a b imm:=⟨heap_alloc_new w _⟩;have HC:=Lh (store_no (h.below hbW) op d a b imm o0 o1 i0 i1 hd ha hb 4 (by omega) (by omega) hf);have HFin:Hid (∀e w',WkPost (w.alloc (.cells #[.int .u8 op,.int .u8 d,.int .u8 a,.int .u8 b,.int .u32 imm] 116)) wb cb sb mb A (A) (r) pc nx (50) e w'→e=.returned (.tuple #[])∧WkPost w wb cb sb mb A (A) (r) pc nx (50) (.returned (.tuple #[])) w'):=Lh fun e w' g=>⟨g.1,rfl,g.2.1,(Mod.of_below hbW _).same g.2.2⟩
 generalize WkPost w wb cb sb mb A (A) (r) pc nx (50)=PQ at*;generalize WkPost (w.alloc (.cells #[.int .u8 op,.int .u8 d,.int .u8 a,.int .u8 b,.int .u32 imm] 116)) wb cb sb mb A (A) (r) pc nx (50)=QQ at*;have k0:=hbx.cells.1;have k1:=hbx.cells.2.1;have k2:=hbx.cells.2.2.1;have k3:=hbx.cells.2.2.2.1;have k8:=hbx.cells.2.2.2.2;clear h hbx hbW hf;unfold Ins.val at HC⊢;simp only at HC⊢;go_enter func289,ntmps289;go_wp2_with fail;refine HC.out.mono ?_;intro e w2 hq;have hq2:=HFin.out e w2 hq;clear hq HFin;obtain⟨rfl,hq3⟩:=hq2;have HQ:=Lh hq3;clear hq3;go_wp2;go_end0;exact HQ.out
end
end Cp
open Go.RowKit
namespace Cp
def fnElem(v:Value):Option (DataW Unit×List MemPlace):=
 match v with
 | .nilFunc=>some (.lit (.int .i64 (-1)),[])
 | .func (.func k) a b=>if a= #[]∧b= #[] then some (.lit (.int .i64 k),[]) else none
 |_=>none
def fnV(k:Int):Value:=if k= -1 then .nilFunc else .func (.func k.toNat) #[] #[]
theorem fnElem_inv{v:Value}{z:Int}{ps:List MemPlace}(h:fnElem v=some (.lit (.int .i64 z),ps)):v=fnV z:=by
 unfold fnElem at h
 split at h
 ·simp at h;rw[←h.1];rfl
 ·split at h
  ·rename_i hab
   simp at h;rw[←h.1,hab.1,hab.2];unfold fnV;rw[if_neg (by omega),Int.toNat_natCast]
  ·cases h
 ·cases h
def doersD:DataW Unit:=(DataW.put (DataW.put (DataW.put (DataW.put (DataW.put (DataW.put (DataW.put (DataW.put (DataW.put (DataW.put (DataW.put (DataW.put (.map []) (.int .u8 32) (.lit (.int .i64 285))) (.int .u8 33) (.lit (.int .i64 286))) (.int .u8 34) (.lit (.int .i64 287))) (.int .u8 35) (.lit (.int .i64 288))) (.int .u8 36) (.lit (.int .i64 289))) (.int .u8 40) (.lit (.int .i64 290))) (.int .u8 41) (.lit (.int .i64 291))) (.int .u8 42) (.lit (.int .i64 292))) (.int .u8 43) (.lit (.int .i64 293))) (.int .u8 44) (.lit (.int .i64 294))) (.int .u8 45) (.lit (.int .i64 295))) (.int .u8 46) (.lit (.int .i64 296)))
theorem zeroFn(w:World):(zeroValue 329).run Tryz.prog w=.ok .nilFunc w:=by kernel_rfl
theorem doers(w:World):Calls Tryz.prog 227 #[] w fun e w'=>e=.returned (.map (some w.heap.size))∧w'.ownsMap Tryz.prog 5 fnElem w.heap.size 12 doersD∧Below w.heap.size w w':=by
 have hmm:= @run_makeMap Tryz.prog;have K:=Maps.int_keyed Tryz.underlying5;have b0:Below w.heap.size w (w.alloc (.map #[] 0)):=Ba _;obtain⟨w1,r1,o1,g1⟩:=(World.ownsMap_made w Tryz.prog 5 fnElem).update K Tryz.underlying374 (by unfold maxLen;omega) (key:=.int .u8 32) (val:=.func (.func 285) #[] #[]) (Maps.keyOf_int_mk Tryz.underlying5 (by decide)) (d:=.lit (.int .i64 285)) (ps:=[]) rfl;have b1:Below w.heap.size w w1:=b0.grown g1 (by have:=b0.size;first|omega|(simp;done)) (fun k hk=>by cases hk;exact Nat.le_refl _);obtain⟨w2,r2,o2,g2⟩:=o1.update K Tryz.underlying374 (by unfold maxLen;omega) (key:=.int .u8 33) (val:=.func (.func 286) #[] #[]) (Maps.keyOf_int_mk Tryz.underlying5 (by decide)) (d:=.lit (.int .i64 286)) (ps:=[]) rfl;have b2:Below w.heap.size w w2:=b1.grown g2 (by have:=b1.size;first|omega|(simp;done)) (fun k hk=>by cases hk;exact Nat.le_refl _);obtain⟨w3,r3,o3,g3⟩:=o2.update K Tryz.underlying374 (by unfold maxLen;omega) (key:=.int .u8 34) (val:=.func (.func 287) #[] #[]) (Maps.keyOf_int_mk Tryz.underlying5 (by decide)) (d:=.lit (.int .i64 287)) (ps:=[]) rfl;have b3:Below w.heap.size w w3:=b2.grown g3 (by have:=b2.size;first|omega|(simp;done)) (fun k hk=>by cases hk;exact Nat.le_refl _);obtain⟨w4,r4,o4,g4⟩:=o3.update K Tryz.underlying374 (by unfold maxLen;omega) (key:=.int .u8 35) (val:=.func (.func 288) #[] #[]) (Maps.keyOf_int_mk Tryz.underlying5 (by decide)) (d:=.lit (.int .i64 288)) (ps:=[]) rfl;have b4:Below w.heap.size w w4:=b3.grown g4 (by have:=b3.size;first|omega|(simp;done)) (fun k hk=>by cases hk;exact Nat.le_refl _);obtain⟨w5,r5,o5,g5⟩:=o4.update K Tryz.underlying374 (by unfold maxLen;omega) (key:=.int .u8 36) (val:=.func (.func 289) #[] #[]) (Maps.keyOf_int_mk Tryz.underlying5 (by decide)) (d:=.lit (.int .i64 289)) (ps:=[]) rfl;have b5:Below w.heap.size w w5:=b4.grown g5 (by have:=b4.size;first|omega|(simp;done)) (fun k hk=>by cases hk;exact Nat.le_refl _);obtain⟨w6,r6,o6,g6⟩:=o5.update K Tryz.underlying374 (by unfold maxLen;omega) (key:=.int .u8 40) (val:=.func (.func 290) #[] #[]) (Maps.keyOf_int_mk Tryz.underlying5 (by decide)) (d:=.lit (.int .i64 290)) (ps:=[]) rfl;have b6:Below w.heap.size w w6:=b5.grown g6 (by have:=b5.size;first|omega|(simp;done)) (fun k hk=>by cases hk;exact Nat.le_refl _);obtain⟨w7,r7,o7,g7⟩:=o6.update K Tryz.underlying374 (by unfold maxLen;omega) (key:=.int .u8 41) (val:=.func (.func 291) #[] #[]) (Maps.keyOf_int_mk Tryz.underlying5 (by decide)) (d:=.lit (.int .i64 291)) (ps:=[]) rfl;have b7:Below w.heap.size w w7:=b6.grown g7 (by have:=b6.size;first|omega|(simp;done)) (fun k hk=>by cases hk;exact Nat.le_refl _);obtain⟨w8,r8,o8,g8⟩:=o7.update K Tryz.underlying374 (by unfold maxLen;omega) (key:=.int .u8 42) (val:=.func (.func 292) #[] #[]) (Maps.keyOf_int_mk Tryz.underlying5 (by decide)) (d:=.lit (.int .i64 292)) (ps:=[]) rfl;have b8:Below w.heap.size w w8:=b7.grown g8 (by have:=b7.size;first|omega|(simp;done)) (fun k hk=>by cases hk;exact Nat.le_refl _);obtain⟨w9,r9,o9,g9⟩:=o8.update K Tryz.underlying374 (by unfold maxLen;omega) (key:=.int .u8 43) (val:=.func (.func 293) #[] #[]) (Maps.keyOf_int_mk Tryz.underlying5 (by decide)) (d:=.lit (.int .i64 293)) (ps:=[]) rfl;have b9:Below w.heap.size w w9:=b8.grown g9 (by have:=b8.size;first|omega|(simp;done)) (fun k hk=>by cases hk;exact Nat.le_refl _);obtain⟨w10,r10,o10,g10⟩:=o9.update K Tryz.underlying374 (by unfold maxLen;omega) (key:=.int .u8 44) (val:=.func (.func 294) #[] #[]) (Maps.keyOf_int_mk Tryz.underlying5 (by decide)) (d:=.lit (.int .i64 294)) (ps:=[]) rfl;have b10:Below w.heap.size w w10:=b9.grown g10 (by have:=b9.size;first|omega|(simp;done)) (fun k hk=>by cases hk;exact Nat.le_refl _);obtain⟨w11,r11,o11,g11⟩:=o10.update K Tryz.underlying374 (by unfold maxLen;omega) (key:=.int .u8 45) (val:=.func (.func 295) #[] #[]) (Maps.keyOf_int_mk Tryz.underlying5 (by decide)) (d:=.lit (.int .i64 295)) (ps:=[]) rfl;have b11:Below w.heap.size w w11:=b10.grown g11 (by have:=b10.size;first|omega|(simp;done)) (fun k hk=>by cases hk;exact Nat.le_refl _);obtain⟨w12,r12,o12,g12⟩:=o11.update K Tryz.underlying374 (by unfold maxLen;omega) (key:=.int .u8 46) (val:=.func (.func 296) #[] #[]) (Maps.keyOf_int_mk Tryz.underlying5 (by decide)) (d:=.lit (.int .i64 296)) (ps:=[]) rfl;have b12:Below w.heap.size w w12:=b11.grown g12 (by have:=b11.size;first|omega|(simp;done)) (fun k hk=>by cases hk;exact Nat.le_refl _);have HO:Hid (w12.ownsMap Tryz.prog 5 fnElem w.heap.size 12 doersD):=Lh o12;have HB:=Lh b12;clear o1 g1 b1 o2 g2 b2 o3 g3 b3 o4 g4 b4 o5 g5 b5 o6 g6 b6 o7 g7 b7 o8 g8 b8 o9 g9 b9 o10 g10 b10 o11 g11 b11 o12 g12 b12 b0;go_enter func227,ntmps227;go_wp2;go_ret;exact⟨rfl,HO.out,HB.out⟩
theorem find3(op:Int)(o1:op≤14)(w:World):Calls Tryz.prog 163 #[.int .u8 op] w fun e w'=>e=.returned (.func (.func 225) #[] #[])∧Below w.heap.size w w':=by
 have h:=decide_eq_true o1;go_enter func163,ntmps163;go_wp2;go_ret;exact⟨rfl,Below.refl _ _⟩
theorem find2(op:Int)(o0:15≤op)(o1:op≤30)(w:World):Calls Tryz.prog 163 #[.int .u8 op] w fun e w'=>e=.returned (.func (.func 226) #[] #[])∧Below w.heap.size w w':=by
 have h0:decide (op≤14)=false:=decide_eq_false (by omega);have h:=decide_eq_true o1;go_enter func163,ntmps163;go_wp2;go_ret;exact⟨rfl,Below.refl _ _⟩
theorem find1(op k:Int)(o0:31≤op)(o1:op≤255)(hk:doersD.atKey (.int .u8 op) (.lit (.int .i64 (-1)))=.lit (.int .i64 k))(w:World):Calls Tryz.prog 163 #[.int .u8 op] w fun e w'=>e=.returned (fnV k)∧Below w.heap.size w w':=by
 have h0:decide (op≤14)=false:=decide_eq_false (by omega);have h1:decide (op≤30)=false:=decide_eq_false (by omega);have hwf:(Lit.int .u8 op).wf=true:=by simp[Lit.wf,IntKind.min,IntKind.max,IntKind.signed,IntKind.bits];omega
 go_enter func163,ntmps163;go_wp2_with fail;refine(doers _).mono ?_;rintro e w1 ⟨rfl,ho,hb⟩;obtain⟨v,ps,hrun,hR⟩:=ho.lookup (Maps.int_keyed Tryz.underlying5) Tryz.underlying374 (zeroFn w1) (z:=.nilFunc) (zd:=.lit (.int .i64 (-1))) (zp:=[]) rfl (Maps.keyOf_int_mk Tryz.underlying5 hwf);rw[hk] at hR;have hv:=fnElem_inv hR;subst hv;have HB:=Lh hb;clear hb ho hR hk;go_wp2;go_ret;exact⟨rfl,HB.out⟩
end Cp
end Go.Proofs.YtnpicaigdfnmfaaGreat
