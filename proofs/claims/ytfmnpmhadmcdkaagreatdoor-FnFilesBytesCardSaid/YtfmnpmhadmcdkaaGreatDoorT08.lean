/- Of fby_card; no condition. -/
import Derived.Test.YtfmnpmhadmcdkaaGreatDoorT06
set_option linter.all false
set_option maxRecDepth 100000
set_option maxHeartbeats 4000000
open Go renaming TypeId->A5,Value->A7,World->A8
open Go.Proofs.Tryz renaming prog->A1
open Go.RowKit.Below renaming refl->A4
open List renaming getElem?_eq_getElem->A0,range->A2,getD_eq_getElem?_getD->A3
open Nat renaming zero_add->A6
namespace Go.Proofs.YtfmnpmhadmcdkaaGreatDoor
noncomputable section
section
open Go.RowKit
namespace Pm
open Pl (dec dch)
def optNat:Option Nat->A7
 |some n=> .tuple #[.int .i64 (n:Int),.bool true]
 |none=> .tuple #[.int .i64 0,.bool false]
end Pm
end
section
open Go.RowKit
namespace Pm
open Pl (dec dch inR Ptr hole ptrHole ptrOk)
def vptr(p:Ptr):A7:= .agg #[.int .i64 p.pat,.int .i64 p.birth,.int .i64 p.size,.int .i64 p.sum,.int .i64 p.level]
def Qdf{w w1:A8}{cs:Array A7}{t:A5}(hb:Below (w.alloc (.cells cs t)).heap.size (w.alloc (.cells cs t)) w1)(i:Nat)(v:A7)(h:cs[i]? =some v):w1.cell? ⟨w.heap.size,i,none⟩=some v:=by
 rw[hb.cell (p:=⟨w.heap.size,i,none⟩) (by simp)];simpa using h
def QpN(p:Ptr)(w:A8):Calls A1 106 #[vptr p] w fun e w'=>e= .returned (.bool (ptrHole p))/\Below w.heap.size w w':=by
 obtain⟨pat,birth,size,sum,level⟩:=p;unfold vptr;dsimp only
 go_enter Tryz.func106,Tryz.ntmps106
 go_wp2
 all_goals(go_ret;exact⟨Qds (by simp[ptrHole,hole, *]),bnew _ _⟩)
def spRow(n:Int)(w:A8):Calls A1 175 #[.int .i64 n] w fun e w'=>e= .returned (.bool (inR n 8 63))/\w=w':=by
 go_enter Tryz.func175,Tryz.ntmps175
 go_wp2_with (go_at_call 104;refine(l6In n 8 63 w).mono ?_;rintro e w' ⟨rfl,rfl⟩)
 go_ret
 exact⟨rfl,rfl⟩
end Pm
end
section
open Go.RowKit
namespace Pl
variable{f i:Nat}{b:UInt8}
def Qr5{s:Str}(hf:f<=i)(hi:i<s.length)(hn:b∉(s.drop f).take (i -f))(hb:s[i]=b):
 cutB b (s.drop f)=(s.drop f).take (i -f)::cutB b (s.drop (i+1)):=by
 have h1:s.drop f=(s.drop f).take (i -f)++b::s.drop (i+1):=by
  conv=>lhs;rw[<-List.take_append_drop (i -f) (s.drop f)]
  rw[List.drop_drop,show f+(i -f)=i by omega,List.drop_eq_getElem_cons hi,hb]
 rw[h1,Qeb _ _ _ hn,<-h1]
def Qll{s:Str}(hf:f<=i)(hi:i<s.length)(hn:b∉(s.drop f).take (i -f))(hb:s[i]≠b):b∉(s.drop f).take (i+1 -f):=by
 have hlt:i -f<(s.drop f).length:=by rw[List.length_drop];omega
 rw[show i+1 -f=(i -f)+1 by omega,List.take_succ_eq_append_getElem hlt,List.mem_append,List.mem_singleton];rintro(h|h)
 ·exact hn h
 ·apply hb;rw[h,List.getElem_drop];congr 1;omega
end Pl
end
section
open Go.RowKit
namespace Pm
abbrev Ptr:=Pl.Ptr
abbrev Tree:=Pl.Tree
abbrev Space:=List Int×List Int
abbrev Store:=List Str×Space×Int×List Ptr×Int×List Ptr×Bool
def PtrIn(p:Ptr):Prop:=InI p.pat/\InI p.birth/\InI p.size/\InI p.sum/\InI p.level
def ptrL(p:Ptr):List A7:=[.int .i64 p.pat,.int .i64 p.birth,.int .i64 p.size,.int .i64 p.sum,.int .i64 p.level]
def treeL(t:Tree):List A7:=[.int .i64 t.root.pat,.int .i64 t.root.birth,.int .i64 t.root.size,.int .i64 t.root.sum,.int .i64 t.root.level,.int .i64 t.depth,.int .i64 t.many]
instance instRepPtr:Rep Pl.Ptr where
 size:=5
 cells _ _ cs p:=cs=ptrL p/\PtrIn p
 len h:=by rw[h.1];rfl
 keep h _ _:=h
end Pm
end
section
open Go.RowKit
namespace Pl
variable{k:Nat}{p:Nat->Bool}
def QdC(i:Nat)(n last:Int):Bool:=inR last 0 900&&inR n 0 last&& !(decide (n=0)&&decide (last≠0))&& !(!(inR i 8 63)&&decide (0<n))
def QdN(refs last:List Int):Nat->Bool:=fun i=>QdC i (refs.getD i 0) (last.getD i 0)
def spaceOk(s:List Int×List Int):Bool:=decide (s.1.length=64)&&decide (s.2.length=64)&&(A2 64).all (QdN s.1 s.2)
theorem Qdd(h:(A2 k).all p=true)(hk:p k=true):(A2 (k+1)).all p=true:=by grind
theorem Qda{n:Nat}(hn:k<n)(hk:p k=false):(A2 n).all p=false:=by grind
end Pl
end
section
open Go.RowKit
namespace Pm
open Pl (dec dch inR Ptr hole ptrHole ptrOk)
theorem cutB_le'(b:UInt8): ∀(s:Str),∀x∈Pl.cutB b s,x.length<=s.length
 :=by intro l;induction l<;>grind [Pl.cutB]
def cutB_le{b:UInt8}{s:Str}{n:Nat}(h:s.length<=n): ∀x∈Pl.cutB b s,x.length<=n:=fun x hx=>Nat.le_trans (cutB_le' b s x hx) h
def PtrPost(s:Str)(w:A8)(e:Ending)(w':A8):Prop:=
 ((∃p,Pl.IsPtr s p/\e= .returned (.tuple #[vptr p,.bool true]))∨((∀p,¬Pl.IsPtr s p)/\e= .returned (.tuple #[vptr hole,.bool false])))/\Below w.heap.size w w'
end Pm
end
section
open Go.RowKit
namespace Pm
open Pl (dec dch inR Ptr Tree Root hole ptrHole ptrOk)
def Qo9(n:Int):(Pl.numPut n).length<=9:=by
 unfold Pl.numPut;split
 ·rename_i h;exact Pl.QcU 8 n.toNat (by omega)
 ·simp
def ptrPut_len(p:Ptr):(Pl.ptrPut p).length<=60:=by
 unfold Pl.ptrPut;split
 ·rename_i h
  obtain⟨b1,b2,b3,b4,b5⟩:=Pl.Qdx h;split
  ·simp
  ·have la:=Pl.QcU 9 p.pat.toNat (by omega)
   have lb:=Pl.QcU 9 p.birth.toNat (by omega);have lc:=Pl.QcU 9 p.size.toNat (by omega);have ld:=Pl.QcU 9 p.sum.toNat (by omega);have lf:=Pl.QcU 9 p.level.toNat (by omega);simp[Pl.ptrText,Pl.dots];omega
 ·simp
end Pm
end
section
open Go.RowKit
namespace Aw
variable{f:FuncId}{ds:List D}{tys:Array A5}{xs:Array Operand}{R A:Prop}
abbrev dI(n:Int):D:= .v (.int .i64 n)
abbrev dB(b:Bool):D:= .v (.bool b)
abbrev dS(s:List UInt8):D:= .v (.string ⟨s.toArray⟩)
abbrev dPtr(p:Pl.Ptr):D:= .agg [dI p.pat,dI p.birth,dI p.size,dI p.sum,dI p.level]
def Qdk(p:Pl.Ptr):Pure A1 106 [dPtr p] (dB (Pl.ptrHole p)):=Qdv rfl fun w _=>Pm.QpN p w
def aSumOf(s:List UInt8)(h:s.length<=Pm.big):Pure A1 232 [dS s] (dI (Pl.sumOf s:Nat)):=Qdv rfl fun w _=>(Pm.spSumOf s w h).mono fun e w' h=>⟨h.1,h.2▸A4 _ _⟩
def QaU(p:Pl.Ptr)(s:List UInt8):Bool:=Pl.ptrOk p&& !Pl.ptrHole p&&(p.size==(s.length:Int))&&(p.sum==((Pl.sumOf s:Nat):Int))
attribute [local irreducible] ASeq ADraw AWP Loc
def follows_mixed:A1.follows .mixedOrders=true:=Pm.follows_mixed
def cK{P:Program}(h: ∀args w,(callFunc f args).run P w= .ok (.enter f args) w:=by intros;kernel_rfl): ∀args w,(callFunc f args).run P w= .ok (.enter f args) w:=h
def lK{P:Program}{dst:Option Tmp}{ty:A5}{pos:String}{after:Array Edge}{gd:Option (Nat×Bool)}{env:List (Nat×AV)}{H:List Blk}{x:D}(hd:allD (xs.toList.map (aval env))=some ds)(h:Pure P f ds x)(hf: ∀args w,(callFunc f args).run P w= .ok (.enter f args) w:=by intros;kernel_rfl):Loc P ⟨dst,.call ⟨.value (.func f),xs,tys⟩,ty,pos,after,gd⟩ env H (.d x) none:=Qdh hf h hd
def kE{Q:Prop}(k:Q)(h:Q->R:=by intro k;refine Qgq (by rfl) (by conv=>lhs;whnf;rfl) (by conv=>lhs;whnf;rfl) (by conv=>lhs;whnf;rfl) rfl ?_;simp only[parE,Nat.zero_add,Nat.reduceAdd];refine QiU (Qen ?_);(repeat(first|refine e1 (k:=?_)|refine e2 (k:=?_)|refine e0 (k:=?_)|fail));exact Qf5 k):R:=h k
def kX{Q:Prop}(k:Q)(h:Q->R:=by intro k;rintro _ _ ⟨rfl,rfl⟩;exact Qd1 (k:=k)):R:=h k
def kY{Q:Prop}(k:Q)(h:Q->R:=by intro k;rintro _ _ ⟨rfl,rfl⟩;exact Fk.aw_nrmM (k:=k)):R:=h k
def kZ{Q:Prop}(k:Q)(h:Q->R:=by intro k;rintro _ _ ⟨rfl,rfl⟩;exact QkA (k:=k)):R:=h k
def kN{Q:Prop}(k:Q)(h:Q->R:=by intro k;exact Qgq (by rfl) (by conv=>lhs;whnf;rfl) (by conv=>lhs;whnf;rfl) (by conv=>lhs;whnf;rfl) rfl k):R:=h k
def kB{Q:Prop}(k:Q)(h:Q->R:=by intro k;refine Qgq (by rfl) (by conv=>lhs;whnf;rfl) (by conv=>lhs;whnf;rfl) (by conv=>lhs;whnf;rfl) rfl ?_;simp only[parE,Nat.zero_add,Nat.reduceAdd];exact k):R:=h k
def kC{Q:Prop}(k:Q)(h:Q->R:=by intro k;refine Qh5 (by rfl) (by conv=>lhs;whnf;rfl) (by conv=>lhs;whnf;rfl) (by conv=>lhs;whnf;rfl) rfl ?_;simp only[parE,Nat.zero_add,Nat.reduceAdd];exact k):R:=h k
def kD{Q:Prop}(k:Q)(h:Q->R:=by intro k;refine Qh5 (by rfl) (by conv=>lhs;whnf;rfl) (by conv=>lhs;whnf;rfl) (by conv=>lhs;whnf;rfl) rfl ?_;simp only[parE,Nat.zero_add,Nat.reduceAdd];refine QiU (Qen ?_);(repeat(first|refine e1 (k:=?_)|refine e2 (k:=?_)|refine e0 (k:=?_)|fail));exact Qf5 k):R:=h k
def kF{Q:Prop}(k:Q)(h:Q->R:=by intro k;refine Qld (by rfl) (by conv=>lhs;whnf;rfl) (by conv=>lhs;whnf;rfl) (by conv=>lhs;whnf;rfl) rfl ?_;simp only[parA,Nat.zero_add,Nat.reduceAdd];exact k):R:=h k
def kH{G:Type}{Q:G->Prop}(k: ∀g,Q g)(h:(∀g,Q g)->R:=by intro k;refine QgS (by rfl) (by conv=>lhs;whnf;rfl) (by conv=>lhs;whnf;rfl) (by conv=>lhs;whnf;rfl) rfl rfl (fun gvs=>?_);have k:=k gvs;simp only[parA,gslot,Nat.zero_add,Nat.reduceAdd];refine QiU (Qen ?_);(repeat(first|refine e1 (k:=?_)|refine e2 (k:=?_)|refine e0 (k:=?_)|fail));exact Qf5 k):R:=h k
def kJ{G:Type}{Q:G->Prop}(k: ∀g,Q g)(h:(∀g,Q g)->R:=by intro k;refine QgS (by rfl) (by conv=>lhs;whnf;rfl) (by conv=>lhs;whnf;rfl) (by conv=>lhs;whnf;rfl) rfl rfl (fun gvs=>?_);have k:=k gvs;simp only[parA,gslot,Nat.zero_add,Nat.reduceAdd];exact k):R:=h k
def kL{G:Type}{Q:G->Prop}(a:A)(k: ∀g,Q g)(h:A->(∀g,Q g)->R:=by intro a k;exact QmS (by rfl) (by conv=>lhs;whnf;rfl) (by conv=>lhs;whnf;rfl) (by conv=>lhs;whnf;rfl) rfl rfl a k):R:=h a k
def kA{Q:Prop}(k:Q)(h:Q->R:=by intro k;first|(show ASeq _ _ _ _ _;first|exact e1 (k:=k)|exact e0 (k:=k)|exact Qf5 k|exact QiX k|exact Qhc k|exact qS (lK rfl (by assumption)) k|(refine stepS (Qiy rfl rfl ?_) (k:=k)<;>omega)|(refine stepS (Qdn Ty.h rfl Ty.h rfl rfl rfl rfl ?_ ?_) (k:=k)<;>omega)|exact stepS (QgG rfl rfl) (k:=k)|(refine stepS (Qhk rfl rfl ?_) (k:=k)<;>omega)|exact stepS (Qdm rfl rfl) (k:=k)|exact stepS (Qd2 rfl rfl) (k:=k)|exact stepS (Qdm (m:=[]) rfl rfl) (k:=k)|exact stepS (Qd2 (m:=[]) rfl rfl) (k:=k)|exact stepS (Qfx TyBool.h rfl rfl) (k:=k)|exact stepS (QeD TyBool.h rfl rfl) (k:=k)|exact stepS2 (Qix Ty.h rfl Ty.h) (k:=k)|exact stepS2 (Qq4 Ty.h rfl Ty.h rfl rfl) (k:=k)|exact Qoc (kk:=k)|exact e2 (k:=k))|(show ADraw _ _ _ _ _;first|exact f1 (k:=k)|exact f0 (k:=k)|exact QlZ k|exact QjM k|exact qD (lK rfl (by assumption)) k|(refine stepD (Qiy rfl rfl ?_) (k:=k)<;>omega)|(refine stepD (Qdn Ty.h rfl Ty.h rfl rfl rfl rfl ?_ ?_) (k:=k)<;>omega)|exact stepD (QgG rfl rfl) (k:=k)|(refine stepD (Qhk rfl rfl ?_) (k:=k)<;>omega)|exact stepD (Qdm rfl rfl) (k:=k)|exact stepD (Qd2 rfl rfl) (k:=k)|exact stepD (Qdm (m:=[]) rfl rfl) (k:=k)|exact stepD (Qd2 (m:=[]) rfl rfl) (k:=k)|exact stepD (Qfx TyBool.h rfl rfl) (k:=k)|exact stepD (QeD TyBool.h rfl rfl) (k:=k)|exact stepD2 (Qix Ty.h rfl Ty.h) (k:=k)|exact f2 (k:=k))|(show AWP _ _ _ _;first|exact QiU k|exact Qen k|exact QrS follows_mixed (by kernel_rfl) (by kernel_rfl) k|exact QkD (ht:=k)|exact QkE (hf:=k)|exact Qk6 k|exact QiS k|exact Qk7 k)|(show thenA _ _ _ _;first|exact Qp0 k|exact Qnd k)|(show blockA _ _ _ _;first|exact Qma k|exact Qmt k|exact QjR (h:=k))|exact Fg.aw_flt (k:=k)|exact Fg.aw_fltN k|exact Fg.aw_planFC k|exact Fg.aw_planFN k|exact Fk.aw_flt (k:=k)|exact Fk.aw_fltN k|exact Fk.aw_planC0 k|exact Fk.aw_planN0 k|exact Fk.aw_stepM k|exact Fk.aw_grew (k:=k)|exact Fk.aw_gs (k:=k)|exact QjK (kk:=k)|fail):R:=h k
def kS{Q:Prop}(k:Q)(h:Q->R:=by intro k;first|(show ASeq _ _ _ _ _;first|exact e1 (k:=k)|exact e0 (k:=k))|(show ADraw _ _ _ _ _;first|exact f1 (k:=k)|exact f0 (k:=k))|fail):R:=h k
def kU{Q:Prop}(k:Q)(h:Q->R:=by intro k;first|(show ASeq _ _ _ _ _;first|exact Qf5 k|exact QiX k|exact Qhc k|exact qS (lK rfl (by assumption)) k|(refine stepS (Qiy rfl rfl ?_) (k:=k)<;>omega)|(refine stepS (Qdn Ty.h rfl Ty.h rfl rfl rfl rfl ?_ ?_) (k:=k)<;>omega)|exact stepS (QgG rfl rfl) (k:=k)|(refine stepS (Qhk rfl rfl ?_) (k:=k)<;>omega)|exact stepS (Qdm rfl rfl) (k:=k)|exact stepS (Qd2 rfl rfl) (k:=k)|exact stepS (Qdm (m:=[]) rfl rfl) (k:=k)|exact stepS (Qd2 (m:=[]) rfl rfl) (k:=k)|exact stepS (Qfx TyBool.h rfl rfl) (k:=k)|exact stepS (QeD TyBool.h rfl rfl) (k:=k)|exact stepS2 (Qix Ty.h rfl Ty.h) (k:=k)|exact stepS2 (Qq4 Ty.h rfl Ty.h rfl rfl) (k:=k)|exact Qoc (kk:=k)|exact e2 (k:=k))|(show ADraw _ _ _ _ _;first|exact QlZ k|exact QjM k|exact qD (lK rfl (by assumption)) k|(refine stepD (Qiy rfl rfl ?_) (k:=k)<;>omega)|(refine stepD (Qdn Ty.h rfl Ty.h rfl rfl rfl rfl ?_ ?_) (k:=k)<;>omega)|exact stepD (QgG rfl rfl) (k:=k)|(refine stepD (Qhk rfl rfl ?_) (k:=k)<;>omega)|exact stepD (Qdm rfl rfl) (k:=k)|exact stepD (Qd2 rfl rfl) (k:=k)|exact stepD (Qdm (m:=[]) rfl rfl) (k:=k)|exact stepD (Qd2 (m:=[]) rfl rfl) (k:=k)|exact stepD (Qfx TyBool.h rfl rfl) (k:=k)|exact stepD (QeD TyBool.h rfl rfl) (k:=k)|exact stepD2 (Qix Ty.h rfl Ty.h) (k:=k)|exact f2 (k:=k))|(show AWP _ _ _ _;first|exact QiU k|exact Qen k|exact QrS follows_mixed (by kernel_rfl) (by kernel_rfl) k|exact QkD (ht:=k)|exact QkE (hf:=k)|exact Qk6 k|exact QiS k|exact Qk7 k)|(show thenA _ _ _ _;first|exact Qp0 k|exact Qnd k)|(show blockA _ _ _ _;first|exact Qma k|exact Qmt k|exact QjR (h:=k))|exact Fg.aw_flt (k:=k)|exact Fg.aw_fltN k|exact Fg.aw_planFC k|exact Fg.aw_planFN k|exact Fk.aw_flt (k:=k)|exact Fk.aw_fltN k|exact Fk.aw_planC0 k|exact Fk.aw_planN0 k|exact Fk.aw_stepM k|exact Fk.aw_grew (k:=k)|exact Fk.aw_gs (k:=k)|exact QjK (kk:=k)|fail):R:=h k
def kV{B:Prop}(k:A)(j:B)(h:A->B->R:=by intro k j;first|exact aw_cond (ht:=k) (hf:=j)|((fail_if_success show ASeq _ _ _ _ ⟨_,(_,.d (.v (.bool true)))::_,_⟩);(fail_if_success show ASeq _ _ _ _ ⟨_,(_,.d (.v (.bool false)))::_,_⟩);exact splitS k j)|((fail_if_success show ADraw _ _ _ _ ⟨_,(_,.d (.v (.bool true)))::_,_⟩);(fail_if_success show ADraw _ _ _ _ ⟨_,(_,.d (.v (.bool false)))::_,_⟩);exact splitD k j)|fail):R:=h k j
def kR{Q:Prop}(k:Q)(h:Q->R:=by intro k;refine QiU (Qen ?_);(repeat(first|refine e1 (k:=?_)|refine e2 (k:=?_)|refine e0 (k:=?_)|fail));exact Qf5 k):R:=h k
def kG{Q:Prop}(k:Q)(h:Q->R:=by intro k;first|exact e1 (k:=k)|exact Qf5 k|exact QiX k|exact Qhc k|exact QiU k|exact Qen k|exact QkD (ht:=k)|exact QkE (hf:=k)|exact Qk6 k|exact Qnd k|exact QiS k|exact e2 (k:=k)|exact e0 (k:=k)|exact Qk7 k|exact Qp0 k|exact Qma k|exact Qmt k|exact QjR (h:=k)|fail):R:=h k
section
variable{P:Program}{ops:Array Oper}{Q:Exit->St->Prop}{K:St->Prop}{l:List Oper}{n:Nat}{env:List (Nat×AV)}{H:List Blk}{d:Tmp}{op:Op}{ty:A5}{pos:String}{after:Array Edge}{gd:Option (Nat×Bool)}{x:AV}
def qS(hl:Loc P ⟨some d,op,ty,pos,after,gd⟩ env H x none)(k:ASeq P ops Q l ⟨n,(d,x)::env,H⟩)(hw:awanted ops env ⟨some d,op,ty,pos,after,gd⟩=some true:=by rfl)(hd:Nat.blt d n=true:=by rfl)(hg:gdOk ops n ⟨some d,op,ty,pos,after,gd⟩=true:=by rfl):ASeq P ops Q (⟨some d,op,ty,pos,after,gd⟩::l) ⟨n,env,H⟩:=stepS hl hw hd hg k
def qD(hl:Loc P ⟨some d,op,ty,pos,after,gd⟩ env H x none)(k:ADraw P ops K l ⟨n,(d,x)::env,H⟩)(hd:Nat.blt d n=true:=by rfl)(hw:awanted ops env ⟨some d,op,ty,pos,after,gd⟩=some true:=by rfl):ADraw P ops K (⟨some d,op,ty,pos,after,gd⟩::l) ⟨n,env,H⟩:=stepD hl hd hw k
def lC{x:D}(h:Pure P f ds x)(hf: ∀args w,(callFunc f args).run P w= .ok (.enter f args) w:=by intros;kernel_rfl)(hd:allD (xs.toList.map (aval env))=some ds:=by rfl):Loc P ⟨some d,.call ⟨.value (.func f),xs,tys⟩,ty,pos,after,gd⟩ env H (.d x) none:=Qdh hf h hd
theorem iy{dst:Option Tmp}{T e:A5}{F E:TyF}{u v:Operand}{κ:IntKind}{i:Int}{c:Bool}{rows:List (List D)}{r:List D}(hr:rows[i.toNat]? =some r)(hT:tyf P T=some F:=by exact Ty.h)(he:F.elem=some e:=by rfl)(hE:tyf P e=some E:=by exact Ty.h)(hn:E.size=n:=by rfl)(hu:aval env u= .d (.sl c n rows):=by rfl)(hv:aval env v= .d (.v (.int κ i)):=by rfl)(h0:0<=i:=by omega):Loc P ⟨dst,.indexAddr T u v,ty,pos,after,gd⟩ env H (.d (.pd r)) none:=by grind [QcV]
end
def al6In(a b c:Int):Pure A1 104 [dI a,dI b,dI c] (dB (Pl.inR a b c)):=Qdv rfl fun w _=>(Pm.l6In a b c w).mono fun _ _ h=>⟨h.1,h.2▸A4 _ _⟩
def al2Row(a:Int):Pure A1 175 [dI a] (dB (Pl.inR a 8 63)):=Qdv rfl fun w _=>(Pm.spRow a w).mono fun _ _ h=>⟨h.1,h.2▸A4 _ _⟩
def Qka(p:Pl.Ptr):Pl.ptrOk p=(Pl.ptrHole p||(Pl.inR p.pat 8 63&&Pl.inR p.birth 1 900&&Pl.inR p.size 1 128&&Pl.inR p.sum 0 99460728&&Pl.inR p.level 0 2)):=rfl
theorem aPtrOk(p:Pl.Ptr):Pure A1 105 [dPtr p] (dB (Pl.ptrOk p)):=by
 have hd:=Pm.hid (Qka p);have c:=Qdk p;generalize Pl.ptrOk p=r at*;generalize Pl.ptrHole p=h at*;obtain⟨x1,x2,x3,x4,x5⟩:=p;simp only at hd;refine kN ?_;simp only[parE,dPtr,A6];refine kR ?_;refine Qa 0 (h:=?_)
 repeat' first|refine kS ?_|refine qS (Qdh cK (al2Row _) rfl) ?_|refine qS (Qdh cK (al6In _ _ _) rfl) ?_|refine kU ?_|refine kV ?_ ?_<;>intro q|fail
 all_goals exact Qb (hx:=congrArg dB (by rw[hd.out];simp_all))
theorem Qop(p:Pl.Ptr)(s:List UInt8)(hs:s.length<=Pm.big):Pure A1 160 [dPtr p,dS s] (dB (QaU p s)):=by
 refine kN ?_;simp only[parE,dPtr,A6];refine kR ?_;refine Qa 0 (h:=?_)
 repeat' first|refine kS ?_|refine qD (lC (aPtrOk p)) ?_|refine qD (lC (Qdk p)) ?_|refine qD (lC (aSumOf s hs)) ?_|refine kU ?_|refine kV ?_ ?_<;>intro q|fail
 all_goals exact Qb (hx:=congrArg dB (by simp_all[QaU]))
abbrev dInts(l:List Int):D:= .sl false 1 (l.map fun n=>[dI n])
abbrev dStrs(l:List (List UInt8)):D:= .sl false 1 (l.map fun s=>[dS s])
abbrev dPtrs(l:List Pl.Ptr):D:= .sl false 5 (l.map fun p=>[dI p.pat,dI p.birth,dI p.size,dI p.sum,dI p.level])
abbrev dSpace(s:Pm.Space):D:= .agg [dInts s.1,dInts s.2]
theorem Qt{α:Type}{f:α->List D}{l:List α}{k:Nat}{x:α}(h:l[k]? =some x):(l.map f)[(k:Int).toNat]? =some (f x):=by grind
theorem QtI(s:Pm.Space)(h1:s.1.length<=Pm.big)(h2:s.2.length<=Pm.big):Pure A1 103 [dSpace s] (dB (Pl.spaceOk s)):=by
 obtain⟨refs,last⟩:=s;simp only[Pm.big] at h1 h2;refine kN ?_;simp only[parE,dSpace];refine kR ?_;refine Qa 0 (h:=?_)
 repeat refine kG ?_
 cases q1:((refs.length:Int) !=64);rotate_left
 ·repeat refine kG ?_
  exact Qb (hx:=congrArg dB (by simp at q1;simp[Pl.spaceOk];intros;omega))
 repeat refine kG ?_
 cases q2:((last.length:Int) !=64);rotate_left
 ·repeat refine kG ?_
  exact Qb (hx:=congrArg dB (by simp at q2;simp[Pl.spaceOk];intros;omega))
 repeat refine kG ?_
 simp at q1 q2;refine Qo (fun m s=> ∃k:Nat,k<=64/\m=64 -k/\(A2 k).all (Pl.QdN refs last)=true/\s=⟨68,[(3,.d (dI k)),(1,.d (.pd [dInts refs,dInts last]))],[]⟩) [3,1] 0 64 ⟨0,by omega,rfl,rfl,rfl⟩ (round:=?_);rintro m s ⟨k,hk,rfl,hF,rfl⟩
 repeat refine kG ?_
 cases q3:decide ((k:Int)<64)
 ·repeat refine kG ?_
  have:k=64:=by simp at q3;omega
  subst this;exact Qb (hx:=congrArg dB (by simp[Pl.spaceOk,hF];omega))
 repeat refine kG ?_
 simp at q3;have hk':k<64:=by omega
 have hk1:k<refs.length:=by omega
 have hk2:k<last.length:=by omega
 have hr1:=Qt (f:=fun n=>[dI n]) (A0 hk1);have hr2:=Qt (f:=fun n=>[dI n]) (A0 hk2)
 have hrow:Pl.QdN refs last k=Pl.QdC k refs[k] last[k]:=by
  unfold Pl.QdN;rw[A3,A3,A0 hk1,A0 hk2];rfl
 generalize refs[k]=a at*;generalize last[k]=b at*;have T:Hid (Pl.QdC k a b=true->(A2 (k+1)).all (Pl.QdN refs last)=true):=fun h=>Pl.Qdd hF (hrow.trans h)
 have F:Hid (Pl.QdC k a b=false->Pl.spaceOk (refs,last)=false):=fun h=>by simp[Pl.spaceOk,Pl.Qda hk' (hrow.trans h)]
 clear hrow hF
 repeat' first|refine kS ?_|refine qD (Qdh cK (al6In _ _ _) rfl) ?_|refine qD (Qdh cK (al2Row _) rfl) ?_|refine qD (iy hr1) ?_|refine qD (iy hr2) ?_|refine kU ?_|refine kV ?_ ?_<;>intro q|fail
 all_goals clear hr1 hr2
 all_goals first|exact Qb (hx:=congrArg dB (F.out (by simp_all[Pl.QdC])).symm)|exact Qh (64 -(k+1)) (by omega) ⟨k+1,by omega,rfl,T.out (by simp_all[Pl.QdC]),rfl⟩
