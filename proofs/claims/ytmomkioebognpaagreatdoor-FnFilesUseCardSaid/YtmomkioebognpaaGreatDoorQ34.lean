/- Of fuse_card; no condition. -/
import Derived.Test.YtmomkioebognpaaGreatDoorQ33
set_option linter.all false
open Int renaming toNat_natCast->A0
namespace Go.Proofs.YtmomkioebognpaaGreatDoor
noncomputable section
open Go.RowKit
namespace Aw
variable{f:Pl.F}
def Pl.Qbc(l:List Pl.Ent)(i:Nat):List Pl.Ent:=l.take i++l.drop (i+1)
abbrev Pl.Qbh(f:Pl.F)(a:Nat):List Pl.Ent:=(Pl.ents f.1.st (Pl.Qag f a)).1
def Pl.Qb6(f:Pl.F)(a b:Nat)(n1 n2:List UInt8)(id:Int):Pl.F:=
 if(b:Int)=a then Pl.Qau f b (Pl.QaQ (Pl.Qbc (Pl.Qbh f a) (Pl.at12 (Pl.Qbh f a) n1).toNat) (n2,id)) else
 Pl.Qau (Pl.Qau f a (Pl.Qbc (Pl.Qbh f a) (Pl.at12 (Pl.Qbh f a) n1).toNat)) b
  (Pl.QaQ (Pl.Qbh (Pl.Qau f a (Pl.Qbc (Pl.Qbh f a) (Pl.at12 (Pl.Qbh f a) n1).toNat)) b) (n2,id))
def Pl.Qb9(f:Pl.F)(path pt:List UInt8):Pl.F×Int:=
 if Pl.Qaz f.1 f.2.1 path<0 then(f,2) else
 if Pl.Qaz f.1 f.2.1 path=0 then(f,5) else
 if 0<=Pl.Qaz f.1 f.2.1 pt then(f,3) else
 if Pl.QbM pt path then(f,5) else
 if 0<(Pl.Qaq f.1 f.2.1 pt).2 then(f,(Pl.Qaq f.1 f.2.1 pt).2) else
 if(Pl.Qaq f.1 f.2.1 pt).1≠(Pl.Qaq f.1 f.2.1 path).1/\12<=(Pl.Qbh f (Pl.Qaq f.1 f.2.1 pt).1.toNat).length then(f,6) else
 (Pl.Qb6 f (Pl.Qaq f.1 f.2.1 path).1.toNat (Pl.Qaq f.1 f.2.1 pt).1.toNat (Pl.base path) (Pl.base pt) (Pl.Qaz f.1 f.2.1 path),0)
theorem QsZ(h:Pl.Fk f){a b:Nat}(ha:a<16)(hb:b<16)(hka:f.2.2=false->(Pl.nd f.1 f.2.1 a).1.kind=2)(hkb:f.2.2=false->(Pl.nd f.1 f.2.1 b).1.kind=2)(n1 n2:List UInt8)(id:Int):Pl.Fk (Pl.Qb6 f a b n1 n2 id):=by
 unfold Pl.Qb6;split
 ·exact(QeM hb h hkb).1
 ·rename_i hne
  have h1:=QeM (l:=Pl.Qbc (Pl.Qbh f a) (Pl.at12 (Pl.Qbh f a) n1).toNat) ha h hka;exact(QeM hb h1.1 fun e=>by grind).1
def fmove_k(h:Pl.Fk f)(hf:f.2.2=false)(path pt:List UInt8):Pl.Fk (Pl.Qb9 f path pt).1:=by
 have hF:=(h hf).1;have hfb:=QcU f.1.st f.2.1 (Pl.Qac path);rw[show Pl.Qa2 f.1.st f.2.1 (Pl.Qac path)=Pl.Qaz f.1 f.2.1 path from rfl] at hfb;have hpf:=Qet (w:=f.1) hF.tr.good (path:=path);obtain⟨⟨b,hb,hbe⟩,hb2,_⟩:=QeN f.1 f.2.1 pt;unfold Pl.Qb9;split
 ·exact h
 split
 ·exact h
 split
 ·exact h
 split
 ·exact h
 split
 ·exact h
 split
 ·exact h
 rename_i h1 h2 _ _ h3 _;obtain⟨hne,hp2,a,ha,hpa,i,hi,hi2⟩:=hpf (by omega) h2;rw[hpa,hbe,A0,A0];exact QsZ h ha hb (fun _=>Qes hF ha hpa hp2) (fun _=>Qes hF hb hbe (by omega)) _ _ _
def Pl.fact(f:Pl.F)(o:Pl.Opn):Pl.F×Int:=
 if o.kind=1 then Pl.Qb1 f o.path 1 else if o.kind=2 then Pl.Qb1 f o.path 2 else if o.kind=5 then Pl.QbB f o.path else
 if o.kind=6 then Pl.QbA f o.path o.pto else if o.kind=7 then Pl.Qb9 f o.path o.pto else Pl.QaV f o
def fact_k(h:Pl.Fk f)(hf:f.2.2=false)(o:Pl.Opn):Pl.Fk (Pl.fact f o).1:=by
 unfold Pl.fact;split
 ·exact QqI h hf _ _
 split
 ·exact QqI h hf _ _
 split
 ·exact fdrop_k h hf _
 split
 ·exact flink_k h hf _ _
 split
 ·exact fmove_k h hf _ _
 ·exact QqU h hf o
def Pl.fine(r:Pl.F×Int):Prop:=r.2=0/\r.1.2.2=false
def fdo_k{w:Pl.Sto}{t:Pl.Tree}(h:Pl.Fs w t)(hm:1<=t.many){o:Pl.Opn}(hr:Pl.fine (Pl.fact (w,t,false) o)):Pl.Fs (Pl.fact (w,t,false) o).1.1 (Pl.fact (w,t,false) o).1.2.1/\1<=(Pl.fact (w,t,false) o).1.2.1.many:=
 fact_k (fun _=>⟨h,hm⟩) rfl o hr.2
