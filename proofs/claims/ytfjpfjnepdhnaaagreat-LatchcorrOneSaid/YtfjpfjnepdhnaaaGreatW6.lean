/- . -/
import Derived.Test.YtfjpfjnepdhnaaaGreatW5
import Derived.Test.YtfjpfjnepdhnaaaGreatS
namespace Go.Proofs.YtfjpfjnepdhnaaaGreat
open Go Go.RowKit Go.Proofs.YtfjpfjnepdhnaaaGreat.R
set_option linter.unusedVariables false
set_option linter.unusedSimpArgs false
abbrev zeroV:Value:=.agg #[.int .i64 0,.slice none 0 0,.slice none 0 0,.slice none 0 0,.slice none 0 0]
def OB(H:Nat)(CV:World->gB->Value->Prop)(ans:Sum Int (LL×gB))(w:World)(e:Ending)(w':World):Prop:=
 (∃ll x v xv,ans = .inr (ll,x)/\e = .returned (.tuple #[v,xv,.int .i64 0])/\Below w.heap.size w w'/\wK H w' ll v/\CV w' x xv) \/
 ∃er,ans = .inl er/\e = .returned (.tuple #[.slice none 0 0,zeroV,.int .i64 er])/\Below w.heap.size w w'
structure IA(i:Int)(Ls:LP)(R:Nat)(W0:World)(n:Nat)(wr:World):Prop where
 row:∃vr,wr.heap[R+1]?=some (.cells #[vr] 24 (0,0))/\wr.ownsRow R 3 1 vr (fV i Ls n).length ((fV i Ls n).map (Value.int .i64))/\vr.ownBlock≠some (R+1)
 left:Left (fun k=>R<=k) W0 wr
theorem yx{w w':World}{B:Nat->Prop}(h:Below w.heap.size w w'):bM B w w':=(fy h).mono fun _ _ h=>h.elim
theorem yZ(i:Int)(Ls:LP):∀q,(fV i Ls q).length<=q+1
 |0=>by simp[fV]
 |q+1=>by have:=yZ i Ls q;rw[fV];split;split;omega;rw[ey,gC];omega;omega
theorem yY(i:Int)(Ls:LP):∀q,0<(fV i Ls q).length
 |0=>by simp[fV]
 |q+1=>by have:=yY i Ls q;rw[fV];split;split;exact this;rw[ey];omega;exact this
theorem IA.push{i:Int}{Ls:LP}{R:Nat}{W0 wr wa w2:World}{q cap gg:Nat}{vr:Value}{u:Int}{p:Int×Int}(h:IA i Ls R W0 q wr)(hvr:wr.heap[R+1]?=some (.cells #[vr] 24 (0,0)))(hown:wr.ownsRow R 3 1 vr (fV i Ls q).length ((fV i Ls q).map (Value.int .i64)))(hne:vr.ownBlock≠some (R+1))(hs:R+2<=wr.heap.size)
  (ha:∀k,k<wr.heap.size->wa.heap[k]?=wr.heap[k]?) (hza:wr.heap.size<=wa.heap.size) (hw:wa.os=wr.os/\wa.tape=wr.tape/\wa.output=wr.output) (hown2:w2.ownsRow R 3 1 (.slice (some ⟨gg,0,none⟩) ((fV i Ls q).length+1) cap) ((fV i Ls q).length+1) ((fV i Ls q).map (Value.int .i64)++[.int .i64 u]))
  (hg:wa.grownBy w2 vr.ownBlock) (hat:vr.ownBlock=some gg\/wr.heap.size<=gg) (hp:Ls[q]?=some p) (h2:p.2≠2) (hu:u=2*(i+1+(q:Int))+p.2):IA i Ls R W0 (q+1) (w2.setCell ⟨R+1,0,none⟩ (.slice (some ⟨gg,0,none⟩) ((fV i Ls q).length+1) cap)):=by
 have h1:w2.heap[R+1]?=some (.cells #[vr] 24 (0,0)):=by rw[hg.block (R+1) (by omega) (fun e=>hne e.symm),ha _ (by omega)];exact hvr
 have hni:fV i Ls (q+1)=fV i Ls q++[u]:=by simp only[fV,hp,ab h2,hu]
 have hgg:gg≠R+1:=fun e=>by rcases hat with hat|hat;rw[hat,e]at hne;exact hne rfl;omega
 refine⟨⟨_,one_setCell h1,?_,by simpa[Value.ownBlock]using hgg⟩,h.left.trans ⟨hg.os.trans hw.1,hg.tape.trans hw.2.1,hg.output.trans hw.2.2,by have:=hg.size;simp;omega,fun k hk hn=>?_⟩⟩;rw[hni,Il,ey];exact ownsRow_setCell_other hown2 (by simpa[Value.ownBlock]using hgg) _;have hk1:k≠R+1:=by omega
 rw[GJ _ _ _ _ hk1,hg.block k (by omega) (fun e=>by have:=(hown.lt _ e.symm).1;omega),ha k hk]
theorem IA.skip{i:Int}{Ls:LP}{R:Nat}{W0 wr w':World}{q:Nat}{p:Int×Int}(h:IA i Ls R W0 q wr)(hb:Below wr.heap.size wr w')(hp:Ls[q]?=some p)(h2:p.2=2):IA i Ls R W0 (q+1) w':=by
 obtain⟨vr,h3,h4,h5⟩:=h.row;have hni:fV i Ls (q+1)=fV i Ls q:=by simp only[fV,hp,aa h2]
 refine⟨⟨vr,(hb.block _ (lt_of_block h3)).trans h3,?_,h5⟩,h.left.trans (Left.of_below hb)⟩;rw[hni];exact pj h4 fun g _ hg=>hb.block g hg
set_option maxRecDepth 1000000 in
set_option maxHeartbeats 4000000 in
theorem Le(i budget n:Int)(l c1 n2 c2 n3 c3 n4 c4:Nat)(A1 A2 A3 A4:Option Addr)(Ls:LP)(w:World)(CV:World->gB->Value->Prop)(B:LL->Option gB)(E:gB->yi)(ans:Sum Int (LL×gB))(fuel:Nat)
  (i0:0<=i) (i1:i<=1000) (l1:l<=1000) (b0:0<=budget) (b1:budget<=100000) (hl:l=Ls.length)
  (hat:∀(j:Nat) (x:Int×Int),Ls[j]?=some x->∃b o,A1=some ⟨b,o,none⟩/\b<w.heap.size/\w.cell? ⟨b,o+j*2,none⟩=some (.int .i64 x.1)/\w.cell? ⟨b,o+j*2+1,none⟩=some (.int .i64 x.2))
  (hr:∀(j:Nat) (x:Int×Int),Ls[j]?=some x->0<=x.2/\x.2<=2)
  (hV:∀W,Below w.heap.size w W->Calls Tryz.prog 48 #[.agg #[.int .i64 i,.slice A1 l c1,.slice A2 n2 c2,.slice A3 n3 c3,.slice A4 n4 c4]] W fun e w'=>e = .returned (.tuple #[.int .i64 n,.int .i64 0])/\Below W.heap.size W w')
  (hB:∀ll x v W,B ll=some x->wK (w.heap.size+2) W ll v->Below w.heap.size w W->w.heap.size+2<=W.heap.size->Calls Tryz.prog 49 #[.agg #[.int .i64 i,.slice A1 l c1,.slice A2 n2 c2,.slice A3 n3 c3,.slice A4 n4 c4],.int .i64 n,v] W fun e w'=>∃xv,e = .returned xv/\Below W.heap.size W w'/\CV w' x xv)
  (hE:∀x a b t z xv W,E x a b=some (t,z)->CV W x xv->Below w.heap.size w W->Calls Tryz.prog 51 #[xv,.int .i64 a,.int .i64 b,.int .i64 budget] W fun e w'=>e = .returned (.tuple #[.bool t,.int .i64 z])/\Below W.heap.size W w')
  (hCV:∀W W' x xv,CV W x xv->bM (fun k=>k=w.heap.size+1) W W'->CV W' x xv)
  (hCx:∀W x xv,CV W x xv->∃B1 B2 B3 B4 d1 m2 d2 m3 d3 m4 d4,xv = .agg #[.int .i64 x.1,.slice B1 x.2.1.length d1,.slice B2 m2 d2,.slice B3 m3 d3,.slice B4 m4 d4]/\x.2.1.length<=1000 /\
   ∀(j:Nat) (p:Int×Int),x.2.1[j]?=some p->∃b o,B1=some ⟨b,o,none⟩/\b<W.heap.size/\W.cell? ⟨b,o+j*2,none⟩=some (.int .i64 p.1)/\W.cell? ⟨b,o+j*2+1,none⟩=some (.int .i64 p.2))
  (hans:mj B E i fuel [fV i Ls l]=some ans) :
  Calls Tryz.prog 30 #[.agg #[.int .i64 i,.slice A1 l c1,.slice A2 n2 c2,.slice A3 n3 c3,.slice A4 n4 c4],.int .i64 budget] w (OB (w.heap.size+2) CV ans w):=by
 have hb1':Below w.heap.size w ((w.alloc (.cells #[.int .i64 i,.slice A1 l c1,.slice A2 n2 c2,.slice A3 n3 c3,.slice A4 n4 c4] 26)).alloc (.cells #[.int .i64 0,.slice none 0 0,.slice none 0 0,.slice none 0 0,.slice none 0 0] 26)):=((GI _ w).alloc (dD _) _).alloc (by simp) _;have R0:=hV _ hb1';have HL:=Hd.mk hl;have KB:=Hd.mk hb1';have KHB:=Hd.mk hB;have KHE:=Hd.mk hE;have KCV:=Hd.mk hCV;have KCx:=Hd.mk hCx;have KA:=Hd.mk hans;have KAt:=Hd.mk hat;have KR:=Hd.mk hr;clear hl hb1' hV hB hE hCV hCx hans hat hr
 go_enter Tryz.func30,Tryz.ntmps30
 go_wp2_with (go_at_call 48;refine R0.mono ?_;rintro e w1 ⟨rfl,hb⟩;have K1:=Hd.mk hb;have hlt1:w.heap.size+2<=w1.heap.size:=(by have:=hb.size;simp at this;omega);have hbox:w1.heap[w.heap.size]?=some (.cells #[.int .i64 i,.slice A1 l c1,.slice A2 n2 c2,.slice A3 n3 c3,.slice A4 n4 c4] 26 (0,0)):=(hb.block _ (by simp;omega)).trans ((Iq _ _ _ (by simp)).trans F8);have e0:w1.cell? ⟨w.heap.size,0,none⟩=some (.int .i64 i):=(by simp[World.cell?,hbox]);have e1:w1.cell? ⟨w.heap.size,1,none⟩=some (.slice A1 l c1):=(by simp[World.cell?,hbox]);have e1':((w1.alloc (.cells #[.int .i64 0] 3)).alloc (.cells #[.slice (some ⟨w1.heap.size,0,none⟩) 1 1] 24)).cell? ⟨w.heap.size,1,none⟩=some (.slice A1 l c1):=(World.cell?_alloc_past _ _ _ (by show w.heap.size<_;simp;omega)).trans ((World.cell?_alloc_past _ _ _ (by show w.heap.size<_;omega)).trans e1);have KX:=Hd.mk hbox;have KRb:Hd (w1.heap[w.heap.size+1]?=some (.cells #[.int .i64 0,.slice none 0 0,.slice none 0 0,.slice none 0 0,.slice none 0 0] 26 (0,0))):=⟨(hb.block _ (by simp)).trans (by rw[show w.heap.size+1=(w.alloc (.cells #[.int .i64 i,.slice A1 l c1,.slice A2 n2 c2,.slice A3 n3 c3,.slice A4 n4 c4] 26)).heap.size by simp];exact F8)⟩;clear hb hbox)
 have hR:((w1.alloc (.cells #[.int .i64 0] 3)).alloc (.cells #[.slice (some ⟨w1.heap.size,0,none⟩) 1 1] 24)).heap[w1.heap.size]?=some (.cells #[.int .i64 0] 3 (0,0)):=(Iq _ _ _ (by simp)).trans F8;have hM:((w1.alloc (.cells #[.int .i64 0] 3)).alloc (.cells #[.slice (some ⟨w1.heap.size,0,none⟩) 1 1] 24)).heap[w1.heap.size+1]?=some (.cells #[.slice (some ⟨w1.heap.size,0,none⟩) 1 1] 24 (0,0)):=by
  have:w1.heap.size+1=(w1.alloc (.cells #[.int .i64 0] 3)).heap.size:=by simp
  rw[this];exact F8
 have hB0:Below w1.heap.size w1 ((w1.alloc (.cells #[.int .i64 0] 3)).alloc (.cells #[.slice (some ⟨w1.heap.size,0,none⟩) 1 1] 24)):=((GI _ w1).alloc (dD _) _).alloc (by simp) _;have hS0:((w1.alloc (.cells #[.int .i64 0] 3)).alloc (.cells #[.slice (some ⟨w1.heap.size,0,none⟩) 1 1] 24)).heap.size=w1.heap.size+2:=by simp
 generalize ((w1.alloc (.cells #[.int .i64 0] 3)).alloc (.cells #[.slice (some ⟨w1.heap.size,0,none⟩) 1 1] 24))=W0 at hR hM hB0 hS0 e1' ⊢;have hX0:=(hB0.block w.heap.size (by omega)).trans KX.out;have KRb0:=Hd.mk ((hB0.block (w.heap.size+1) (by omega)).trans KRb.out);have KB0:=Hd.mk (KB.out.trans (K1.out.mono (by simp;omega)) |>.trans (hB0.mono (by omega)));clear KRb KB K1;generalize hRE:w1.heap.size=R at hR hM hB0 hS0 hlt1 KB0 ⊢;have KR0:=Hd.mk hR;have KM0:=Hd.mk hM;have KX0:=Hd.mk hX0;have HS:=Hd.mk hS0;clear hR hM hX0 hB0 hS0 e0 e1 e1' hRE KX;obtain⟨i3,hi3,hz0,hz1,hz2⟩:=JW
 go_loopw [45] (fun c wr=>∃n:Nat,n<=l/\c = .int .i64 (n:Int)/\IA i Ls R W0 n wr) (fun c _=>l-(intOf c).toNat)
 case atStart=>
  refine⟨0,by omega,rfl,⟨_,KM0.out,⟨rfl,.inr ⟨R,1,_,rfl,dD _,KR0.out,dD _,by decide,rfl,rfl⟩⟩,by simp[Value.ownBlock]⟩,Left.refl _ _⟩
 case round=>
  obtain⟨q,hq,rfl,hI⟩:=hrel;obtain⟨vr,hvr,hown,hvne⟩:=hI.row;have hXr:=(hI.left.block w.heap.size (by rw[HS.out];omega) (by omega)).trans KX0.out;have e0:wr.cell? ⟨w.heap.size,0,none⟩=some (.int .i64 i):=by simp[World.cell?,hXr]
  have rI:wr.cell? ⟨R+1,0,none⟩=some vr:=cell_of_one hvr;have fI:wr.frozen? ⟨R+1,0,none⟩=false:=free_of_one hvr;have hsz:R+2<=wr.heap.size:=by have:=hI.left.size;rw[HS.out]at this;exact this
  by_cases hql:q<l
  .obtain⟨p,hp⟩:∃p,Ls[q]?=some p:=⟨_,c6 (by have:=HL.out;omega)⟩;obtain⟨Ab,Ao,hA,hAlt,hp1,hp2⟩:=KAt.out q p hp;have hlow:∀k,k<w.heap.size->wr.heap[k]?=w.heap[k]?:=fun k hk=>(hI.left.block k (by rw[HS.out];omega) (by omega)).trans (KB0.out.block k hk);have p1:wr.cell? ⟨Ab,Ao+q*2,none⟩=some (.int .i64 p.1):=(HU (a:=⟨Ab,Ao+q*2,none⟩) (hlow Ab hAlt)).trans hp1;have p2:wr.cell? ⟨Ab,Ao+q*2+1,none⟩=some (.int .i64 p.2):=(HU (a:=⟨Ab,Ao+q*2+1,none⟩) (hlow Ab hAlt)).trans hp2;subst hA;have hrp:=KR.out q p hp;have KI:=Hd.mk hI;have KXr:=Hd.mk hXr;have Kvr:=Hd.mk hvr;have Kne:=Hd.mk hvne;have Kp:=Hd.mk hp;have Kown:=Hd.mk hown;clear hI hXr hvr hvne hp1 hp2 hlow hp;have hbq:Below wr.heap.size wr (wr.alloc (.cells #[.int .i64 p.1,.int .i64 p.2] 36)):=(GI _ wr).alloc (dD _) _;by_cases h2:p.2=2
   .have h2':(p.2 != 2)=false:=by simp[h2]
    have K2:=Hd.mk h2;have KS:=Hd.mk (KI.out.skip hbq Kp.out h2);clear h2 hbq hown;go_wp2
    all_goals go_roundw
    case rel=>exact⟨q+1,by omega,by go_num,KS.out⟩
    case measure=>simp[intOf];omega
   .have h2':(p.2 != 2)=true:=by simp[h2]
    have K2:=Hd.mk h2;have KBq:=Hd.mk hbq;have x2:(wr.alloc (.cells #[.int .i64 p.1,.int .i64 p.2] 36)).cell? ⟨wr.heap.size,1,none⟩=some (.int .i64 p.2):=by have hh:(wr.alloc (.cells #[.int .i64 p.1,.int .i64 p.2] 36)).heap[wr.heap.size]?=some (.cells #[.int .i64 p.1,.int .i64 p.2] 36 (0,0)):=F8;rw[cell_of hh];rfl
    have e0':(wr.alloc (.cells #[.int .i64 p.1,.int .i64 p.2] 36)).cell? ⟨w.heap.size,0,none⟩=some (.int .i64 i):=(hbq.cell (p:=⟨w.heap.size,0,none⟩) (by show w.heap.size<_;omega)).trans e0;have hsq:(wr.alloc (.cells #[.int .i64 p.1,.int .i64 p.2] 36)).heap.size=wr.heap.size+1:=by simp
    have hown':=pj (w':=wr.alloc (.cells #[.int .i64 p.1,.int .i64 p.2] 36)) hown fun g _ hg=>hbq.block g hg;have rI':(wr.alloc (.cells #[.int .i64 p.1,.int .i64 p.2] 36)).cell? ⟨R+1,0,none⟩=some vr:=(hbq.cell (p:=⟨R+1,0,none⟩) (by show R+1<_;omega)).trans rI;have fI':(wr.alloc (.cells #[.int .i64 p.1,.int .i64 p.2] 36)).frozen? ⟨R+1,0,none⟩=false:=(Rc (a:=⟨R+1,0,none⟩) (hbq.block (R+1) (by omega))).trans fI;clear h2 hbq hown;go_wp2;generalize hWq:wr.alloc (.cells #[.int .i64 p.1,.int .i64 p.2] 36)=wq at x2 e0' hsq hown' rI' fI' KBq ⊢;have hu1:IntKind.i64.wrap (i+1)=i+1:=by rw[LU];omega
    have hu2:IntKind.i64.wrap (i+1+(q:Int))=i+1+(q:Int):=by rw[LU];omega
    have hu3:IntKind.i64.wrap (2*(i+1+(q:Int)))=2*(i+1+(q:Int)):=by rw[LU];omega
    have hu4:IntKind.i64.wrap (2*(i+1+(q:Int))+p.2)=2*(i+1+(q:Int))+p.2:=by rw[LU];omega
    have hnew:∀(o:Obj),(wq.alloc o).heap[wr.heap.size+1]?=some o:=fun o=>by rw[<-hsq];exact F8
    have hil:=yZ i Ls q;have rI2:∀o,(wq.drew.alloc o).cell? ⟨R+1,0,none⟩=some vr:=fun o=>(HU (a:=⟨R+1,0,none⟩) (Iq wq.drew o (R+1) (by show R+1<wq.heap.size;omega))).trans rI';have rI3:∀o,(wq.alloc o).cell? ⟨R+1,0,none⟩=some vr:=rI2;have rI4:∀o,(wq.alloc o).drew.cell? ⟨R+1,0,none⟩=some vr:=rI2;have fI2:∀(wa w2:World),(∀k,k<wq.heap.size->wa.heap[k]?=wq.heap[k]?)->wq.heap.size<=wa.heap.size->wa.grownBy w2 vr.ownBlock->w2.frozen? ⟨R+1,0,none⟩=false/\w2.cell? ⟨R+1,0,none⟩=some vr:=fun wa w2 ha hza hg=>by have h2:=(hg.block (R+1) (by omega) (fun e=>Kne.out e.symm)).trans (ha _ (by omega));exact⟨(Rc (a:=⟨R+1,0,none⟩) h2).trans fI',(HU (a:=⟨R+1,0,none⟩) h2).trans rI'⟩
    have HB:=Hd.mk fI2;clear fI2 rI fI e0 p1 p2
    go_region_law
     ((refine step_append_lies _ (by rfl) _ _ _ (by rfl) R 3 i3 _ 1 8 Tryz.underlying24 hi3 hz0 hz1 hz2 rfl (by omega) vr (fV i Ls q).length ((fV i Ls q).map (Value.int .i64)) (by rfl) (hown'.alloc _) ⟨wr.heap.size+1,0,none⟩ 1 1 [.int .i64 (2*(i+1+(q:Int))+p.2)] (by rfl) (by rfl) (World.news_of_block (cs:=#[.int .i64 (2*(i+1+(q:Int))+p.2)]) (t:=3) (fr:=(0,0)) (hnew _)) (by simp[Value.oneCell']) (by omega) (by unfold maxLen;omega) (by omega) (by simp;omega) (wr.heap.size+2) (by simp;omega) ?_;intro gg cap w2 hown2 hgrow hat hlt2;obtain⟨q2,q3⟩:=HB.out _ w2 (by intro k hk;exact Iq wq _ k hk) (by show wq.heap.size<=(wq.heap.push _).size;simp) hgrow))
    all_goals
     have hI2:=KI.out.push Kvr.out Kown.out Kne.out hsz (wa:=wq.alloc (.cells #[.int .i64 (2*(i+1+(q:Int))+p.2)] 3)) (fun k hk=>(Iq wq _ k (by omega)).trans (KBq.out.block k hk)) (by simp;omega) ⟨KBq.out.os,KBq.out.tape,KBq.out.output⟩ hown2 ⟨hgrow.os,hgrow.tape,hgrow.output,hgrow.size,hgrow.block⟩ (hat.imp id (fun e=>by omega)) Kp.out K2.out rfl;have KI2:=Hd.mk hI2;clear q2 q3 hI2 rI2 rI3 rI4 HB rI' fI' e0' x2 hgrow hown2 hown' hnew hu1 hu2 hu3 hu4 hat;generalize w2.setCell ⟨R+1,0,none⟩ (.slice (some ⟨gg,0,none⟩) ((fV i Ls q).length+1) cap)=wS at KI2 ⊢;go_wp2
     all_goals go_roundw
     case rel=>exact⟨q+1,by omega,by go_num,KI2.out⟩
     case measure=>simp[intOf];omega
  .have hqE:q=l:=by omega
   subst hqE;have hD0:wK (w.heap.size+2) wr [fV i Ls q] (.slice (some ⟨R+1,0,none⟩) 1 1):=by
    have hrow:=E8 (H:=w.heap.size+2) hown (yY i Ls q) (by omega);refine⟨R+1,0,1,[vr],rfl,dD _,by omega,fun j u hu=>?_,⟨rfl,fun j r hj=>?_⟩⟩
    .cases j with
     |zero=>simp at hu;subst hu;exact rI
     |succ j=>simp at hu
    .cases j with
     |zero=>simp at hj;subst hj;exact⟨vr,rfl,hrow,fun _ _=>trivial⟩
     |succ j=>simp at hj
   have hBr:Below w.heap.size w wr:=⟨hI.left.os.trans KB0.out.os,hI.left.tape.trans KB0.out.tape,hI.left.output.trans KB0.out.output,kz KB0.out.size hI.left.size,fun k hk=>(hI.left.block k (by rw[HS.out];omega) (by omega)).trans (KB0.out.block k hk)⟩;have hRb:=(hI.left.block (w.heap.size+1) (by rw[HS.out];omega) (by omega)).trans KRb0.out;have KD0:=Hd.mk hD0;have KBr:=Hd.mk hBr;have KXr:=Hd.mk hXr;have KRb:=Hd.mk hRb;clear hI hvr hown hvne hXr hBr hRb hD0 rI fI e0 KR0 KM0 KB0 KRb0 KX0 HS;go_wp2;generalize wr=W1 at KD0 KBr KXr KRb hsz ⊢
   go_loopg [9] fuel (fun k v wr=>∃ll,mj B E i k ll=some ans/\wK (w.heap.size+2) wr ll v/\Below W1.heap.size W1 wr)
   case atStart=>exact⟨_,KA.out,KD0.out,GI _ _⟩
   case round=>
    obtain⟨ll,hfn,hD,hBl⟩:=hrel;obtain⟨k',rfl⟩:∃k',gk=k'+1:=by
     cases gk with
     |zero=>simp[mj]at hfn
     |succ k'=>exact⟨k',rfl⟩
    simp only[mj]at hfn;split at hfn
    case isFalse=>cases hfn
    rename_i hsm;cases hBx:B ll with
    |none=>rw[hBx]at hfn;cases hfn
    |some x=>
    rw[hBx]at hfn;simp only at hfn;have hXr:=(hBl.block w.heap.size (by omega)).trans KXr.out;have hRr:=(hBl.block (w.heap.size+1) (by omega)).trans KRb.out;have hbw:Below w.heap.size w wr:=KBr.out.trans (hBl.mono (by omega));have hcall:=KHB.out ll x _ wr hBx hD hbw (lt_of_block hRr);have e0:wr.cell? ⟨w.heap.size,0,none⟩=some (.int .i64 i):=by rw[cell_of hXr];rfl
    have e1:wr.cell? ⟨w.heap.size,1,none⟩=some (.slice A1 q c1):=by rw[cell_of hXr];rfl
    have e2:wr.cell? ⟨w.heap.size,2,none⟩=some (.slice A2 n2 c2):=by rw[cell_of hXr];rfl
    have e3:wr.cell? ⟨w.heap.size,3,none⟩=some (.slice A3 n3 c3):=by rw[cell_of hXr];rfl
    have e4:wr.cell? ⟨w.heap.size,4,none⟩=some (.slice A4 n4 c4):=by rw[cell_of hXr];rfl
    have KF:=Hd.mk hfn;have KD:=Hd.mk hD;have KBl:=Hd.mk hBl;have KBw:=Hd.mk hbw;have KX2:=Hd.mk hXr;have KR2:=Hd.mk hRr;have Ksm:=Hd.mk hsm;obtain⟨lb,lo,lc,lcs,rfl,hl1,hl2,hl3,hl4⟩:=hD;have Hl3:=Hd.mk hl3;have Hl4:=Hd.mk hl4;have Hl2:=Hd.mk hl2;clear hfn hBl hbw hXr hRr hsm hBx hl3 hl4 hl2;obtain⟨ws,rfl⟩:∃ws:World,ws=wr:=⟨_,rfl⟩;go_wp2_with (go_at_call 49;refine hcall.mono ?_;rintro e w2 ⟨xv,rfl,hb2,hcv⟩;obtain⟨B1,B2,B3,B4,d1,m2,d2,m3,d3,m4,d4,rfl,hx1,hxat⟩:=KCx.out w2 x xv hcv;have Kb2:=Hd.mk hb2;have Kcv:=Hd.mk hcv;have Kxat:=Hd.mk hxat;clear hb2 hcv hxat)
    have hW2x:(w2.alloc (.cells #[.int .i64 x.1,.slice B1 x.2.1.length d1,.slice B2 m2 d2,.slice B3 m3 d3,.slice B4 m4 d4] 26)).heap[w2.heap.size]?=some (.cells #[.int .i64 x.1,.slice B1 x.2.1.length d1,.slice B2 m2 d2,.slice B3 m3 d3,.slice B4 m4 d4] 26 (0,0)):=F8;have hB2:Below ws.heap.size ws (w2.alloc (.cells #[.int .i64 x.1,.slice B1 x.2.1.length d1,.slice B2 m2 d2,.slice B3 m3 d3,.slice B4 m4 d4] 26)):=Kb2.out.alloc Kb2.out.size _;have hS2:(w2.alloc (.cells #[.int .i64 x.1,.slice B1 x.2.1.length d1,.slice B2 m2 d2,.slice B3 m3 d3,.slice B4 m4 d4] 26)).heap.size=w2.heap.size+1:=by simp
    have hX2s:=Kb2.out.size;have hcv2:=KCV.out _ _ _ _ Kcv.out (yx ((GI _ w2).alloc (dD _) (.cells #[.int .i64 x.1,.slice B1 x.2.1.length d1,.slice B2 m2 d2,.slice B3 m3 d3,.slice B4 m4 d4] 26)));have hxat2:∀(j:Nat) (p:Int×Int),x.2.1[j]?=some p->∃b o,B1=some ⟨b,o,none⟩/\b<(w2.alloc (.cells #[.int .i64 x.1,.slice B1 x.2.1.length d1,.slice B2 m2 d2,.slice B3 m3 d3,.slice B4 m4 d4] 26)).heap.size/\(w2.alloc (.cells #[.int .i64 x.1,.slice B1 x.2.1.length d1,.slice B2 m2 d2,.slice B3 m3 d3,.slice B4 m4 d4] 26)).cell? ⟨b,o+j*2,none⟩=some (.int .i64 p.1)/\(w2.alloc (.cells #[.int .i64 x.1,.slice B1 x.2.1.length d1,.slice B2 m2 d2,.slice B3 m3 d3,.slice B4 m4 d4] 26)).cell? ⟨b,o+j*2+1,none⟩=some (.int .i64 p.2):=fun j p hp=>by obtain⟨b,o,g1,g2,g3,g4⟩:=Kxat.out j p hp;exact⟨b,o,g1,by simp;omega,(World.cell?_alloc_past _ _ _ g2).trans g3,(World.cell?_alloc_past _ _ _ g2).trans g4⟩
    generalize (w2.alloc (.cells #[.int .i64 x.1,.slice B1 x.2.1.length d1,.slice B2 m2 d2,.slice B3 m3 d3,.slice B4 m4 d4] 26))=W2 at hW2x hB2 hS2 hcv2 hxat2 ⊢;generalize w2.heap.size=X at hW2x hS2 hX2s ⊢;have hsF:(∀e,pb (qF i x.2.1 (E x)) ll=some (.inl e)->ans = .inl e)/\pb (qF i x.2.1 (E x)) ll≠none:=by have hfn:=KF.out;refine⟨fun e he=>?_,fun he=>?_⟩;rw[he]at hfn;exact(uR hfn).symm;rw[he]at hfn;cases hfn
    have KsF:=Hd.mk hsF;have Kx2:=Hd.mk hW2x;have KB2:=Hd.mk hB2;have Kcv2:=Hd.mk hcv2;have KS2:=Hd.mk hS2;have KXs:=Hd.mk hX2s;have Kxat2:=Hd.mk hxat2;have Kx1:=Hd.mk hx1;clear hsF hW2x hB2 hcv2 hS2 hX2s hxat2 hx1 Kxat e0 e1 e2 e3 e4 Kcv Kb2
    go_loopw [77,14,15] (fun c us ul wr=>∃(r:Nat) (S L:LL) (vs vl:Value),vs=us/\vl=ul/\r<=ll.length/\c = .int .i64 (r:Int)/\BM (qF i x.2.1 (E x)) ll r=some (.inr (S,L))/\LX (w.heap.size+2) W2 wr S L vs vl) (fun c _ _ _=>ll.length-(intOf c).toNat)
    case atStart=>exact⟨0,[],[],_,_,rfl,rfl,Ks _,rfl,rfl,GI _ _,⟨[],Qn _ _ _ _,lS.nil⟩,⟨[],Qn _ _ _ _,lS.nil⟩,by simp[Value.ownBlock]⟩
    case round=>
     obtain⟨r,S,L,vs,vl,rfl,rfl,hr,rfl,hrun,hSL⟩:=hrel;by_cases hrl:r<ll.length
     .obtain⟨cl,hcl⟩:∃cl,ll[r]?=some cl:=⟨_,c6 hrl⟩;obtain⟨cv,hcv1,hcv2,-⟩:=Hl4.out.2 r cl hcl;have hcell:=Hl3.out r cv hcv1;obtain⟨cb,co,cc,rfl,hc1,hc2,hc3,hc4⟩:=hcv2;obtain⟨hd,ms,rfl⟩:∃hd ms,cl=hd::ms:=by
       cases cl with
       |nil=>simp at hc2
       |cons hd ms=>exact⟨hd,ms,rfl⟩
      have hlow:∀k,k<ws.heap.size->wr.heap[k]?=ws.heap[k]?:=fun k hk=>(hSL.bel.block k (by have:=KB2.out.size;omega)).trans (KB2.out.block k hk);have hclt:=JQ _ _ hcell;have f0:wr.cell? ⟨lb,lo+r,none⟩=some (.slice (some ⟨cb,co,none⟩) (ms.length+1) cc):=(HU (a:=⟨lb,lo+r,none⟩) (hlow lb hclt)).trans hcell;have hcbl:=JQ _ _ (hc4 0 hd rfl);have fm:∀(j:Nat) (y:Int),(hd::ms)[j]?=some y->wr.cell? ⟨cb,co+j,none⟩=some (.int .i64 y):=fun j y hy=>(HU (a:=⟨cb,co+j,none⟩) (hlow cb hcbl)).trans (hc4 j y hy);have hsz3:ws.heap.size<=wr.heap.size:=kz KB2.out.size hSL.bel.size;have hstep:BM (qF i x.2.1 (E x)) ll (r+1)=l6 (qF i x.2.1 (E x)) (some (.inr (S,L))) (hd::ms):=by rw[DY hcl,hrun]
      have hs2:(∀e,oY (fun m=>qF i x.2.1 (E x) m hd) hd ms=some (.inl e)->ans = .inl e)/\oY (fun m=>qF i x.2.1 (E x) m hd) hd ms≠none:=by refine⟨fun e he=>KsF.out.1 e ((Gz (r+1)).1 e (by rw[hstep];simp only[l6,he])),fun he=>KsF.out.2 ((Gz (r+1)).2 (by rw[hstep];simp only[l6,he]))⟩
      have hc1':ms.length+1<=cc:=by simpa using hc1
      have hcl1:ms.length+1<=1001:=by have:=Ksm.out;unfold sk at this;rw[eJ,uQ]at this;have:=this.2 _ (NL hcl);simpa using this
      have hll:ll.length<=1001:=by have:=Ksm.out;unfold sk at this;rw[eJ,ir]at this;exact this.1
      have KSL:=Hd.mk hSL;have Kstep:=Hd.mk hstep;have Ks2:=Hd.mk hs2;have Kfm:=Hd.mk fm;have Krun:=Hd.mk hrun;have Kcb:=Hd.mk hcbl;have Kc3:=Hd.mk hc3;clear hSL hstep hs2 fm hrun hcell hcv1 hc4 hcl hlow hclt hcbl;obtain⟨W3,rfl⟩:∃W3:World,W3=wr:=⟨_,rfl⟩;go_wp2
      all_goals
       go_loopw [86,18,19] (fun c ui uo wr=>∃(k:Nat) (a b:Li) (vi vo:Value),vi=ui/\vo=uo/\k<=ms.length/\c = .int .i64 (k:Int)/\ER (fun m=>qF i x.2.1 (E x) m hd) hd ms k=some (.inr (a,b))/\DI (w.heap.size+2) ws.heap.size W3 wr a b vi vo) (fun c _ _ _=>ms.length-(intOf c).toNat)
       case atStart=>
        refine⟨0,[hd],[],_,_,rfl,rfl,Ks _,rfl,rfl,GI _ _,.inr ⟨rfl,cb,co,rfl,?_,Kc3.out,fun j y hy=>?_⟩,Qn _ _ _ _,fun _=>rfl,by simp[Value.ownBlock],by simp,fun g hg=>.inr (by cases hg;exact Kcb.out)⟩;have:=Kcb.out;omega
        .cases j with
         |zero=>cases hy;exact Kfm.out 0 hd rfl
         |succ j=>simp at hy
       case round=>
        obtain⟨k,a,b,vi,vo,rfl,rfl,hk,rfl,hspl,hDI⟩:=hrel;by_cases hkm:k<ms.length
        .first|(exfalso;omega)|skip
         all_goals
          obtain⟨m,hm⟩:∃m,ms[k]?=some m:=⟨_,c6 hkm⟩;have hbr:Below W2.heap.size W2 wr:=KSL.out.bel.trans (hDI.bel.mono KSL.out.bel.size);have hcbs:=Kcb.out;have pm:wr.cell? ⟨cb,co+1+k,none⟩=some (.int .i64 m):=by rw[NG,Nat.add_comm 1 k];exact(HU (a:=⟨cb,co+(k+1),none⟩) (hDI.bel.block cb (by omega))).trans (Kfm.out (k+1) m hm)
          have ph:wr.cell? ⟨cb,co,none⟩=some (.int .i64 hd):=(HU (a:=⟨cb,co,none⟩) (hDI.bel.block cb (by omega))).trans (Kfm.out 0 hd rfl);have hxr:=(hbr.block X (by rw[KS2.out];omega)).trans Kx2.out;have hHs:w.heap.size<ws.heap.size:=lt_of_block KX2.out;have hHr:=(hbr.block w.heap.size (by have:=KB2.out.size;omega)).trans ((KB2.out.block w.heap.size hHs).trans KX2.out);have hRr:=(hbr.block (w.heap.size+1) (by have:=KB2.out.size;have:=lt_of_block KR2.out;omega)).trans ((KB2.out.block (w.heap.size+1) (lt_of_block KR2.out)).trans KR2.out);have x0:wr.drew.cell? ⟨X,0,none⟩=some (.int .i64 x.1):=by show wr.cell? _=_;rw[cell_of hxr];rfl
          have x1:wr.drew.cell? ⟨X,1,none⟩=some (.slice B1 x.2.1.length d1):=by show wr.cell? _=_;rw[cell_of hxr];rfl
          have x2:wr.drew.cell? ⟨X,2,none⟩=some (.slice B2 m2 d2):=by show wr.cell? _=_;rw[cell_of hxr];rfl
          have x3:wr.drew.cell? ⟨X,3,none⟩=some (.slice B3 m3 d3):=by show wr.cell? _=_;rw[cell_of hxr];rfl
          have x4:wr.drew.cell? ⟨X,4,none⟩=some (.slice B4 m4 d4):=by show wr.cell? _=_;rw[cell_of hxr];rfl
          have x5:wr.drew.cell? ⟨cb,co,none⟩=some (.int .i64 hd):=ph;have e0:wr.drew.cell? ⟨w.heap.size,0,none⟩=some (.int .i64 i):=by show wr.cell? _=_;rw[cell_of hHr];rfl
          have hstp:=DQ (q:=fun m=>qF i x.2.1 (E x) m hd) (h:=hd) hm;rw[hspl]at hstp;cases hq:qF i x.2.1 (E x) m hd with
          |none=>exact absurd ((Gs (k+1)).2 (by rw[hstp];simp only[nX,hq])) Ks2.out.2
          |some tz=>
          obtain⟨t,z⟩:=tz;simp only[nX,hq]at hstp;unfold qF at hq;split at hq
          case h_2=>cases hq
          rename_i y1 hy1;split at hq
          case h_2=>cases hq
          rename_i y2 hy2;have hat':∀(j:Nat) (p:Int×Int),x.2.1[j]?=some p->∃b o,B1=some ⟨b,o,none⟩/\b<wr.drew.heap.size/\wr.drew.cell? ⟨b,o+j*2,none⟩=some (.int .i64 p.1)/\wr.drew.cell? ⟨b,o+j*2+1,none⟩=some (.int .i64 p.2):=fun j p hp=>by obtain⟨b,o,g1,g2,g3,g4⟩:=Kxat2.out j p hp;exact⟨b,o,g1,uY g2 hbr.size,(hbr.cell (p:=⟨b,o+j*2,none⟩) g2).trans g3,(hbr.cell (p:=⟨b,o+j*2+1,none⟩) g2).trans g4⟩
          have N1:=JT X w.heap.size i m y1 x.2.1 B1 d1 wr.drew i0 i1 Kx1.out hy1 x1 e0 hat';have N2:=JT X w.heap.size i hd y2 x.2.1 B1 d1 wr.drew i0 i1 Kx1.out hy2 x1 e0 hat';have hdr:Below wr.heap.size wr wr.drew:=⟨rfl,rfl,rfl,dD _,fun _ _=>rfl⟩;have EQ:=KHE.out x y1 y2 t z _ wr.drew hq (KCV.out _ _ _ _ (KCV.out _ _ _ _ Kcv2.out (yx hbr)) (yx hdr)) (KBw.out.trans ((KB2.out.trans ((hbr.trans (hdr.mono hbr.size)).mono KB2.out.size)).mono KBw.out.size));have hXlt:X<wr.drew.heap.size:=lt_of_block hxr;have hclt:cb<wr.drew.heap.size:=JQ _ _ ph;have KDI:=Hd.mk hDI;have Kspl:=Hd.mk hspl;have Kst:=Hd.mk hstp;have Kbr:=Hd.mk hbr;have KRr:=Hd.mk hRr;have KHr:=Hd.mk hHr;clear hDI hspl hstp hbr hxr hHr hRr hq hy1 hy2 hat' hdr ph hm e0;go_wp2;clear pm
          go_region_held3 (fun w'=>w'.cell? ⟨X,0,none⟩=some (.int .i64 x.1)/\w'.cell? ⟨X,1,none⟩=some (.slice B1 x.2.1.length d1)/\w'.cell? ⟨X,2,none⟩=some (.slice B2 m2 d2)/\w'.cell? ⟨X,3,none⟩=some (.slice B3 m3 d3)/\w'.cell? ⟨X,4,none⟩=some (.slice B4 m4 d4)/\w'.cell? ⟨cb,co,none⟩=some (.int .i64 hd)) (first|exact⟨x0,x1,x2,x3,x4,x5⟩|exact⟨k0,k1,k2,k3,k4,k5⟩|go_keep)
           (first|(go_at_call 50;with_reducible refine N1.mono ?_;rintro e w' ⟨rfl,rfl⟩)|(go_at_call 50;with_reducible refine N2.mono ?_;rintro e w' ⟨rfl,rfl⟩)|(go_at_call 51;with_reducible refine EQ.mono ?_;rintro e w5 ⟨rfl,hb5⟩;have k0:=(hb5.cell (p:=⟨X,0,none⟩) hXlt).trans x0;have k1:=(hb5.cell (p:=⟨X,1,none⟩) hXlt).trans x1;have k2:=(hb5.cell (p:=⟨X,2,none⟩) hXlt).trans x2;have k3:=(hb5.cell (p:=⟨X,3,none⟩) hXlt).trans x3;have k4:=(hb5.cell (p:=⟨X,4,none⟩) hXlt).trans x4;have k5:=(hb5.cell (p:=⟨cb,co,none⟩) hclt).trans x5;have K5:=Hd.mk hb5;clear hb5))
          clear k0 k1 k2 k3 k4 k5 x0 x1 x2 x3 x4 x5 N1 N2 EQ;have hb5:Below wr.heap.size wr w5:=⟨K5.out.os,K5.out.tape,K5.out.output,K5.out.size,K5.out.block⟩;have hlen:=Gr k a b (by omega) (Kspl.out);have hba:Below wr.heap.size wr (w5.alloc (.cells #[.int .i64 m] 3)):=hb5.alloc hb5.size _;have hXa:(w5.alloc (.cells #[.int .i64 m] 3)).cell? ⟨w5.heap.size,0,none⟩=some (.int .i64 m):=by have hh:(w5.alloc (.cells #[.int .i64 m] 3)).heap[w5.heap.size]?=some (.cells #[.int .i64 m] 3 (0,0)):=F8;rw[cell_of hh];rfl
          have hbase:W3.heap.size<=(w5.alloc (.cells #[.int .i64 m] 3)).heap.size:=kz KDI.out.bel.size hba.size;have HX:=Hd.mk hXa;have Hba:=Hd.mk hba;have Hbase:=Hd.mk hbase;have Hb5:=Hd.mk hb5;have HIi:=Hd.mk (KDI.out.atI hba);have HIo:=Hd.mk (KDI.out.atO hba);have Hlen:=Hd.mk hlen;clear hXa hba hbase hb5 hlen K5;by_cases hz:z=0
          .have hz':(z != 0)=false:=by simp[hz]
           have Kz:=Hd.mk hz;clear hz;cases t with
           |true=>
            go_wp2_with (at_builtin;go_loud (refine AO rfl _ _ rfl (w.heap.size+2) W3.heap.size vi a rfl HIi.out w5.heap.size m rfl HX.out ?c1 Hbase.out ?_))
            case c1=>have:=Hlen.out;omega
            intro v6 w6 ho6 hg6;have O6:=Hd.mk ho6;have G6:=Hd.mk hg6;clear ho6 hg6;go_wp2
            all_goals go_roundw
            case rel=>exact⟨k+1,a++[m],b,v6,vo,rfl,rfl,by omega,by go_num,by rw[Kst.out,aa Kz.out];simp,KDI.out.putI Hba.out (by simpa using O6.out) G6.out⟩
            case measure=>simp[intOf];omega
           |false=>
            go_wp2_with (at_builtin;go_loud (refine AO rfl _ _ rfl (w.heap.size+2) W3.heap.size vo b rfl HIo.out w5.heap.size m rfl HX.out ?c1 Hbase.out ?_))
            case c1=>have:=Hlen.out;omega
            intro v6 w6 ho6 hg6;have O6:=Hd.mk ho6;have G6:=Hd.mk hg6;clear ho6 hg6;go_wp2
            all_goals go_roundw
            case rel=>exact⟨k+1,a,b++[m],vi,v6,rfl,rfl,by omega,by go_num,by rw[Kst.out,aa Kz.out];simp,KDI.out.putO Hba.out (by simpa using O6.out) G6.out⟩
            case measure=>simp[intOf];omega
          .have hz':(z != 0)=true:=by simp[hz]
           have hansE:=Ks2.out.1 z ((Gs (k+1)).1 z (by rw[Kst.out,ab hz]));have hbz:Below w.heap.size w w5:=KBw.out.trans ((KB2.out.trans ((Kbr.out.trans (Hb5.out.mono Kbr.out.size)).mono KB2.out.size)).mono KBw.out.size);have hR5:=(Hb5.out.block (w.heap.size+1) (lt_of_block KRr.out)).trans KRr.out;obtain⟨y0,y0',y1,y1',y2,y2',y3,y3',y4,y4',yN,yM,yQ⟩:=FQ w5 (w.heap.size+1) (.int .i64 0) (.slice none 0 0) (.slice none 0 0) (.slice none 0 0) (.slice none 0 0) _ _ _ _ _ hR5;have hset:pF w5 (w.heap.size+1) (.int .i64 0) (.slice none 0 0) (.slice none 0 0) (.slice none 0 0) (.slice none 0 0)=((((w5.setCell ⟨w.heap.size+1,0,none⟩ (.int .i64 0)).setCell ⟨w.heap.size+1,1,none⟩ (.slice none 0 0)).setCell ⟨w.heap.size+1,2,none⟩ (.slice none 0 0)).setCell ⟨w.heap.size+1,3,none⟩ (.slice none 0 0)).setCell ⟨w.heap.size+1,4,none⟩ (.slice none 0 0):=rfl;have Kans:=Hd.mk hansE;have Kbz:=Hd.mk hbz;have KN:=Hd.mk yN;have KM:=Hd.mk yM;have KQ:=Hd.mk yQ;have Kset:=Hd.mk hset;clear hz hansE hbz hR5 yN yM yQ hset;go_wp2;clear y0 y0' y1 y1' y2 y2' y3 y3' y4 y4';rw[<-Kset.out];generalize pF w5 (w.heap.size+1) (.int .i64 0) (.slice none 0 0) (.slice none 0 0) (.slice none 0 0) (.slice none 0 0)=WF at KN KM KQ ⊢;refine P0 (v:=.tuple #[.slice none 0 0,zeroV,.int .i64 z]) (Bk rfl rfl rfl (P7 _ _ 26 26 _ (0,0) _ KN.out Tryz.underlying26 rfl (by kernel_rfl)) rfl) rfl ?_;refine .inr ⟨z,Kans.out,rfl,⟨KQ.out.1.trans Kbz.out.os,KQ.out.2.1.trans Kbz.out.tape,KQ.out.2.2.1.trans Kbz.out.output,by rw[KQ.out.2.2.2];exact Kbz.out.size,fun j hj=>(KM.out j (by omega)).trans (Kbz.out.block j hj)⟩⟩
        .have hkE:k=ms.length:=by omega
         rw[hkE]at hspl;have hsp:oY (fun m=>qF i x.2.1 (E x) m hd) hd ms=some (.inr (a,b)):=by
          have:=hspl;unfold ER at this
          rwa [xM]at this
         have hst2:BM (qF i x.2.1 (E x)) ll (r+1)=some (.inr (S++[a],if b=[] then L else L++[b])):=by rw[Kstep.out];simp only[l6,hsp]
         have hlenI:=BL r S L (Nat.le_of_lt hrl) Krun.out;have hH3:w.heap.size+2<=W3.heap.size:=kz (lt_of_block KR2.out) hsz3;obtain⟨ib,io,ic,hviE⟩:∃ib io ic,vi = .slice (some ⟨ib,io,none⟩) a.length ic:=by obtain⟨b,o,c,h,_⟩:=hDI.i.row hDI.pos hH3;exact⟨b,o,c,h⟩
         subst hviE;have hba:Below wr.heap.size wr (wr.alloc (.cells #[.slice (some ⟨ib,io,none⟩) a.length ic] 24)):=(GI _ wr).alloc (dD _) _;have hSa:=(KSL.out.kept hDI.bel).kept hba;have hIb:∀g,(Value.slice (some ⟨ib,io,none⟩) a.length ic).ownBlock=some g->vs.ownBlock≠some g/\vl.ownBlock≠some g:=fun g hg=>by obtain⟨cs,s1,_⟩:=KSL.out.s;obtain⟨ds,l1,_⟩:=KSL.out.l;have hB2s:=KB2.out.size;refine⟨fun e=>?_,fun e=>?_⟩;have h1:=s1.lt g e;rcases hDI.low g hg with h2|h2<;>omega;have h1:=l1.lt g e;rcases hDI.low g hg with h2|h2<;>omega
         have hOb:∀g,vo.ownBlock=some g->vs.ownBlock≠some g/\vl.ownBlock≠some g:=fun g hg=>by obtain⟨cs,s1,_⟩:=KSL.out.s;obtain⟨ds,l1,_⟩:=KSL.out.l;have h3:=(hDI.o.lt g hg).1;refine⟨fun e=>?_,fun e=>?_⟩;have h1:=s1.lt g e;omega;have h1:=l1.lt g e;omega
         have hrI:yg (w.heap.size+2) (wr.alloc (.cells #[.slice (some ⟨ib,io,none⟩) a.length ic] 24)) a (.slice (some ⟨ib,io,none⟩) a.length ic):=(hDI.i.row hDI.pos hH3).kept fun g _ hg=>hba.block g hg;have hXa:(wr.alloc (.cells #[.slice (some ⟨ib,io,none⟩) a.length ic] 24)).cell? ⟨wr.heap.size,0,none⟩=some (.slice (some ⟨ib,io,none⟩) a.length ic):=by have hh:(wr.alloc (.cells #[.slice (some ⟨ib,io,none⟩) a.length ic] 24)).heap[wr.heap.size]?=some (.cells #[.slice (some ⟨ib,io,none⟩) a.length ic] 24 (0,0)):=F8;rw[cell_of hh];rfl
         obtain⟨cs,s1,s2⟩:=hSa.s;have hbs:W2.heap.size<=(wr.alloc (.cells #[.slice (some ⟨ib,io,none⟩) a.length ic] 24)).heap.size:=hSa.bel.size;have hv1:(Value.slice (some ⟨ib,io,none⟩) a.length ic).oneCell'=true:=rfl;have hoRow:0<b.length->yg (w.heap.size+2) wr b vo:=fun hb=>E8 hDI.o hb hH3;have hVO:(b=[]/\vo = .slice none 0 0)\/(b≠[]/\∃ob oc,vo = .slice (some ⟨ob,0,none⟩) b.length oc):=by by_cases hb:b=[];exact .inl ⟨hb,hDI.o0 hb⟩;obtain⟨ob,oc,h1,_⟩:=My hDI.o (Mt.2 hb);exact .inr ⟨hb,ob,oc,h1⟩
         have hblt:=hDI.o.lt;have S1:=Hd.mk s1;have S2:=Hd.mk s2;have Hba:=Hd.mk hba;have HSr:=Hd.mk (KSL.out.kept hDI.bel);have HrI:=Hd.mk hrI;have HX:=Hd.mk hXa;have Hbs:=Hd.mk hbs;have Hv1:=Hd.mk hv1;have HIb:=Hd.mk hIb;have HOb:=Hd.mk hOb;have HoR:=Hd.mk hoRow;have Hst2:=Hd.mk hst2;have Hlen:=Hd.mk hlenI;have Holt:=Hd.mk hblt;clear s1 s2 hba hSa hrI hXa hbs hv1 hIb hOb hoRow hst2 hlenI hspl hsp hDI hblt;rcases hVO with⟨hb0,rfl⟩|⟨hb0,ob,oc,rfl⟩
         .have Kb0:=Hd.mk hb0;have hqn:=MG;clear hb0;go_wp2_with (at_builtin;go_loud (refine rT rfl _ _ rfl W2.heap.size vs S.length cs rfl S1.out wr.heap.size 1 1 0 [.slice (some ⟨ib,io,none⟩) a.length ic] rfl rfl ?c1 ?c2 ?c3 Hbs.out ?_))
          case c1=>
           intro j u hu;cases j with
           |zero=>simp at hu;subst hu;exact HX.out
           |succ j=>simp at hu
          case c2=>intro u hu;simp at hu;subst hu;exact Hv1.out
          case c3=>have:=Hlen.out;omega
          intro v7 w7 ho7 hg7 hat7;have K7:=Hd.mk (HSr.out.putS Hba.out S1.out S2.out ho7 hg7 (hat7.imp id (fun e=>by rw[e];simp)) HrI.out HIb.out);clear ho7 hg7 hat7;go_wp2
          all_goals go_roundw
          case rel=>exact⟨r+1,S++[a],L,v7,vl,rfl,rfl,by omega,by go_num,by rw[Hst2.out,aa Kb0.out],K7.out⟩
          case measure=>simp[intOf];omega
         .have Kb0:=Hd.mk hb0;have hqn:=fun W=>MF W ob b.length oc;clear hb0;go_wp2_with (at_builtin;go_loud (refine rT rfl _ _ rfl W2.heap.size vs S.length cs rfl S1.out wr.heap.size 1 1 0 [.slice (some ⟨ib,io,none⟩) a.length ic] rfl rfl ?c1 ?c2 ?c3 Hbs.out ?_))
          case c1=>
           intro j u hu;cases j with
           |zero=>simp at hu;subst hu;exact HX.out
           |succ j=>simp at hu
          case c2=>intro u hu;simp at hu;subst hu;exact Hv1.out
          case c3=>have:=Hlen.out;omega
          intro v7 w7 ho7 hg7 hat7;have h7:=HSr.out.putS Hba.out S1.out S2.out ho7 hg7 (hat7.imp id (fun e=>by rw[e];simp)) HrI.out HIb.out;have hbb:Below w7.heap.size w7 (w7.alloc (.cells #[.slice (some ⟨ob,0,none⟩) b.length oc] 24)):=(GI _ w7).alloc (dD _) _;have h7a:=h7.kept hbb;obtain⟨ds,l1,l2⟩:=h7a.l;have hoL:=Holt.out ob rfl;have hrO:yg (w.heap.size+2) w7 b (.slice (some ⟨ob,0,none⟩) b.length oc):=((HoR.out (Mt.2 Kb0.out)).kept fun g _ hg=>Hba.out.block g hg).kept fun g hg hlt=>hg7.block g hlt fun e=>(HOb.out g hg).1 e.symm;have hrO2:yg (w.heap.size+2) (w7.alloc (.cells #[.slice (some ⟨ob,0,none⟩) b.length oc] 24)) b (.slice (some ⟨ob,0,none⟩) b.length oc):=hrO.kept fun g _ hg=>hbb.block g hg;have hOb2:∀g,(Value.slice (some ⟨ob,0,none⟩) b.length oc).ownBlock=some g->v7.ownBlock≠some g/\vl.ownBlock≠some g:=fun g hg=>by
           have hq:=HOb.out g hg;refine⟨fun e=>?_,hq.2⟩;have hw:g<wr.heap.size:=by cases hg;exact hoL.2
           rcases hat7 with h8|h8;rw[h8]at e;exact hq.1 e;rw[h8]at e;cases e;omega
          have hX7:(w7.alloc (.cells #[.slice (some ⟨ob,0,none⟩) b.length oc] 24)).cell? ⟨w7.heap.size,0,none⟩=some (.slice (some ⟨ob,0,none⟩) b.length oc):=by have hh:(w7.alloc (.cells #[.slice (some ⟨ob,0,none⟩) b.length oc] 24)).heap[w7.heap.size]?=some (.cells #[.slice (some ⟨ob,0,none⟩) b.length oc] 24 (0,0)):=F8;rw[cell_of hh];rfl
          have K7:=Hd.mk h7;have Hbb:=Hd.mk hbb;have L1:=Hd.mk l1;have L2:=Hd.mk l2;have HrO:=Hd.mk hrO2;have HOb2:=Hd.mk hOb2;have HX7:=Hd.mk hX7;have Hbs7:=Hd.mk h7a.bel.size;clear ho7 hg7 hat7 h7 hbb h7a l1 l2 hoL hrO hrO2 hOb2 hX7;go_wp2_with (at_builtin;go_loud (refine rT rfl _ _ rfl W2.heap.size vl L.length ds rfl L1.out w7.heap.size 1 1 0 [.slice (some ⟨ob,0,none⟩) b.length oc] rfl rfl ?c1 ?c2 ?c3 Hbs7.out ?_))
          case c1=>
           intro j u hu;cases j with
           |zero=>simp at hu;subst hu;exact HX7.out
           |succ j=>simp at hu
          case c2=>intro u hu;simp at hu;subst hu;rfl
          case c3=>have:=Hlen.out;omega
          intro v8 w8 ho8 hg8 hat8;have K8:=Hd.mk (K7.out.putL Hbb.out L1.out L2.out ho8 hg8 (hat8.imp id (fun e=>by rw[e];simp)) HrO.out HOb2.out);clear ho8 hg8 hat8;go_wp2
          all_goals go_roundw
          case rel=>exact⟨r+1,S++[a],L++[b],v7,v8,rfl,rfl,by omega,by go_num,by rw[Hst2.out,ab Kb0.out],K8.out⟩
          case measure=>simp[intOf];omega
     .have hrE:r=ll.length:=by omega
      have hrn:pb (qF i x.2.1 (E x)) ll=some (.inr (S,L)):=by
       rw[hrE]at hrun;unfold BM at hrun
       rwa [xM]at hrun
      have hfn:=KF.out;rw[hrn]at hfn;simp only at hfn;have hll:ll.length<=1001:=by have:=Ksm.out;unfold sk at this;rw[eJ,ir]at this;exact this.1
      have hlen:=BL r S L hr hrun;obtain⟨cs,s1,s2⟩:=hSL.s;obtain⟨ds,l1,l2⟩:=hSL.l;obtain⟨Al,lcl,rfl⟩:=Kw l1;have hbel:=hSL.bel;have hxr:=(hbel.block X (by rw[KS2.out];omega)).trans Kx2.out;have hHs:w.heap.size<ws.heap.size:=lt_of_block KX2.out;have hRr:=(hbel.block (w.heap.size+1) (by have:=KB2.out.size;have:=lt_of_block KR2.out;omega)).trans ((KB2.out.block (w.heap.size+1) (lt_of_block KR2.out)).trans KR2.out);have hbw:Below w.heap.size w wr:=KBw.out.trans ((KB2.out.trans (hbel.mono KB2.out.size)).mono KBw.out.size);have hDr:wK (w.heap.size+2) wr ll (.slice (some ⟨lb,lo,none⟩) ll.length lc):=KD.out.kept fun g _ hg=>(hbel.block g (uY hg KB2.out.size)).trans (KB2.out.block g hg);have hcvr:=KCV.out _ _ _ _ Kcv2.out (yx hbel);have hBl2:Below W1.heap.size W1 wr:=KBl.out.trans ((KB2.out.trans (hbel.mono KB2.out.size)).mono KBl.out.size);have hwsz:w.heap.size+2<=W2.heap.size:=kz (lt_of_block KR2.out) KB2.out.size;clear hrun hrn hSL;by_cases hL:L=[]
      .subst hL;rw[aa rfl]at hfn;have hansE:=(uR hfn).symm;obtain⟨y0,y0',y1,y1',y2,y2',y3,y3',y4,y4',yN,yM,yQ⟩:=FQ wr (w.heap.size+1) (.int .i64 x.1) (.slice B1 x.2.1.length d1) (.slice B2 m2 d2) (.slice B3 m3 d3) (.slice B4 m4 d4) _ _ _ _ _ hRr;have hset:pF wr (w.heap.size+1) (.int .i64 x.1) (.slice B1 x.2.1.length d1) (.slice B2 m2 d2) (.slice B3 m3 d3) (.slice B4 m4 d4)=((((wr.setCell ⟨w.heap.size+1,0,none⟩ (.int .i64 x.1)).setCell ⟨w.heap.size+1,1,none⟩ (.slice B1 x.2.1.length d1)).setCell ⟨w.heap.size+1,2,none⟩ (.slice B2 m2 d2)).setCell ⟨w.heap.size+1,3,none⟩ (.slice B3 m3 d3)).setCell ⟨w.heap.size+1,4,none⟩ (.slice B4 m4 d4):=rfl;have x0:wr.cell? ⟨X,0,none⟩=some (.int .i64 x.1):=by rw[cell_of hxr];rfl
       have x1:wr.cell? ⟨X,1,none⟩=some (.slice B1 x.2.1.length d1):=by rw[cell_of hxr];rfl
       have x2:wr.cell? ⟨X,2,none⟩=some (.slice B2 m2 d2):=by rw[cell_of hxr];rfl
       have x3:wr.cell? ⟨X,3,none⟩=some (.slice B3 m3 d3):=by rw[cell_of hxr];rfl
       have x4:wr.cell? ⟨X,4,none⟩=some (.slice B4 m4 d4):=by rw[cell_of hxr];rfl
       have Kans:=Hd.mk hansE;have KN:=Hd.mk yN;have KM:=Hd.mk yM;have KQ:=Hd.mk yQ;have Kset:=Hd.mk hset;have Kbw2:=Hd.mk hbw;have KRr:=Hd.mk hRr;have KDr:=Hd.mk hDr;have Kcvr:=Hd.mk hcvr;clear hansE hfn yN yM yQ hset hbw hDr hcvr s1 s2 l1 l2 hbel hxr hRr hBl2;go_wp2
       go_region
       clear y0 y0' y1 y1' y2 y2' y3 y3' y4 y4' x0 x1 x2 x3 x4;rw[<-Kset.out];have KN':Hd ((pF wr (w.heap.size+1) (.int .i64 x.1) (.slice B1 x.2.1.length d1) (.slice B2 m2 d2) (.slice B3 m3 d3) (.slice B4 m4 d4)).drew.heap[w.heap.size+1]?=some (.cells #[.int .i64 x.1,.slice B1 x.2.1.length d1,.slice B2 m2 d2,.slice B3 m3 d3,.slice B4 m4 d4] 26 (0,0))):=⟨KN.out⟩;have KLe:Hd (Left (fun k=>k=w.heap.size+1) wr (pF wr (w.heap.size+1) (.int .i64 x.1) (.slice B1 x.2.1.length d1) (.slice B2 m2 d2) (.slice B3 m3 d3) (.slice B4 m4 d4)).drew):=⟨⟨KQ.out.1,KQ.out.2.1,KQ.out.2.2.1,by show _<=(pF _ _ _ _ _ _ _).heap.size;rw[KQ.out.2.2.2];exact dD _,fun k _ hk=>KM.out k hk⟩⟩;have KSa:Hd (bM (fun k=>k=w.heap.size+1) wr (pF wr (w.heap.size+1) (.int .i64 x.1) (.slice B1 x.2.1.length d1) (.slice B2 m2 d2) (.slice B3 m3 d3) (.slice B4 m4 d4)).drew):=⟨⟨KLe.out.size,fun b hb hn=>KLe.out.block b hb hn,⟨KLe.out.os,KLe.out.tape,KLe.out.output,fun b hb=>by by_cases hbE:b=w.heap.size+1;subst hbE;rw[KN'.out,KRr.out];rfl;rw[KLe.out.block b hb hbE]⟩⟩⟩
       generalize (pF wr (w.heap.size+1) (.int .i64 x.1) (.slice B1 x.2.1.length d1) (.slice B2 m2 d2) (.slice B3 m3 d3) (.slice B4 m4 d4)).drew=WF at KN' KLe KSa ⊢;go_wp2;refine P0 (v:=.tuple #[.slice (some ⟨lb,lo,none⟩) ll.length lc,.agg #[.int .i64 x.1,.slice B1 x.2.1.length d1,.slice B2 m2 d2,.slice B3 m3 d3,.slice B4 m4 d4],.int .i64 0]) (Bk rfl rfl rfl (P7 _ _ 26 26 _ (0,0) _ KN'.out Tryz.underlying26 rfl (by kernel_rfl)) rfl) rfl ?_;refine .inl ⟨ll,x,_,_,Kans.out,rfl,⟨KLe.out.os.trans Kbw2.out.os,KLe.out.tape.trans Kbw2.out.tape,KLe.out.output.trans Kbw2.out.output,kz Kbw2.out.size KLe.out.size,fun j hj=>(KLe.out.block j (uY hj Kbw2.out.size) (by omega)).trans (Kbw2.out.block j hj)⟩,KDr.out.kept fun g h1 h2=>KLe.out.block g h2 (by omega),KCV.out _ _ _ _ Kcvr.out KSa.out⟩
      .rw[ab hL]at hfn;have hLp:0<L.length:=Mt.2 hL;have hLn:(L.length==0)=false:=by simp;exact hL
       obtain⟨lg,hlg⟩:∃lg,Al=some ⟨lg,0,none⟩:=by rcases l1.2 with⟨h1,h2⟩|⟨g,cap,cur,h1,_⟩;omega;cases h1;exact⟨g,rfl⟩
       subst hlg;have hcells:∀(j:Nat) (u:Value),ds[j]?=some u->wr.cell? ⟨lg,0+j,none⟩=some u:=fun j u hu=>by
        have:=l1.cells (g:=lg) rfl j u hu
        rwa [Go.Proofs.YtfjpfjnepdhnaaaGreat.R.add_plain rfl]at this
       have Kfn:=Hd.mk hfn;have S1:=Hd.mk s1;have S2:=Hd.mk s2;have L2:=Hd.mk l2;have Hc:=Hd.mk hcells;have Kds:=Hd.mk (Mk l2);have Kdl:=Hd.mk l2.1;have Hlen:=Hd.mk hlen;have Hbl2:=Hd.mk hBl2;have Hbs:=Hd.mk hbel.size;have HLp:=Hd.mk hLp;clear hfn s1 s2 l1 l2 hcells hbw hDr hcvr hbel hxr hRr hBl2 hL hLp hlen;go_wp2_with (at_builtin;go_loud (refine rT rfl _ _ rfl W2.heap.size vs S.length cs rfl S1.out lg L.length lcl 0 ds rfl Kdl.out Hc.out Kds.out ?c3 Hbs.out ?_))
       case c3=>have:=Hlen.out;omega
       intro v7 w7 ho7 hg7 hat7;have hWB:W1.heap.size<=W2.heap.size:=kz KBl.out.size KB2.out.size;have hD7:=LX.join S2.out L2.out ho7 hg7 hwsz (by have:=HLp.out;omega);have hB7:Below W1.heap.size W1 w7:=Hbl2.out.trans ⟨hg7.os,hg7.tape,hg7.output,hg7.size,fun k hk=>hg7.block k (uY hk Hbl2.out.size) (fun e=>by have:=(S1.out.lt k e.symm).1;omega)⟩;have K7:=Hd.mk hD7;have KB7:=Hd.mk hB7;clear ho7 hg7 hat7 hD7 hB7 hWB;go_wp2
       all_goals go_roundg k'
       case measure=>omega
       case rel=>exact⟨S++L,Kfn.out,K7.out,KB7.out⟩
end Go.Proofs.YtfjpfjnepdhnaaaGreat

