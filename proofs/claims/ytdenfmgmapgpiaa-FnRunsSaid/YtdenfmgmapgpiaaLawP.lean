/-
  The walk of laws.FnRuns: the call returns true, and nothing that lay before has turned. Condition: the code lies below.
-/
import Derived.Test.YtdenfmgmapgpiaaLk
import Derived.Test.YtdenfmgmapgpiaaPlq
import Derived.Test.YtdenfmgmapgpiaaCmr
import Derived.Test.YtdenfmgmapgpiaaCro
namespace Go.Proofs.Ytdenfmgmapgpiaa
open Go.RowKit
set_option maxHeartbeats 4000000

noncomputable def headFnRunsC : Code := seqHead ((Try.f4.body.bind (codeFrom 41)).getD .skip)
noncomputable def tailFnRunsC : Code := seqTail ((Try.f4.body.bind (codeFrom 41)).getD .skip)
set_option maxRecDepth 1000000 in
theorem FnRunsC (A : Option Addr) (n c : Nat) (w wc : World) {K : Act → World → Prop} (u1_ u2_ u3_ u4_ u5_ u6_ u7_ u8_ u9_ u10_ u11_ u12_ u13_ u14_ u15_ u16_ u17_ u18_ u19_ u20_ u21_ u22_ u23_ u24_ u25_ u26_ u27_ u28_ u29_ u30_ u31_ u32_ u33_ u34_ u35_ u36_ u37_ u38_ u39_ u40_ u41_ u42_ u43_ u44_ u45_ u46_ u47_ u48_ u49_ u50_ u51_ u52_ u53_ u54_ u55_ u56_ u57_ u58_ u59_ u60_ u61_ u62_ u63_ u64_ u65_ u66_ u67_ u68_ u69_ u70_ u71_ u72_ u73_ u74_ u75_ u76_ u77_ u78_ u79_ u80_ u81_ u82_ u83_ u84_ u85_ u86_ u87_ u88_ u89_ u90_ u91_ u92_ u93_ u94_ u95_ u96_ u97_ u98_ u99_ u100_ u101_ u102_ u103_ u104_ u105_ u106_ u107_ u108_ u109_ u110_ u111_ u112_ u113_ u114_ u115_ u116_ u117_ u118_ u119_ u120_ u121_ u122_ u123_ u124_ u125_ u126_ u127_ u128_ u129_ u130_ u131_ u132_ u133_ u134_ u135_ u136_ u137_ u138_ u139_ u140_ u141_ u142_ u143_ u144_ u145_ u146_ u147_ u148_ u149_ u150_ u151_ u152_ u153_ u154_ u155_ u156_ u157_ u158_ u159_ u160_ u161_ u162_ u163_ u164_ u165_ u166_ u167_ u168_ u169_ u170_ u171_ u172_ u173_ u174_ u175_ u176_ u177_ u178_ u179_ u180_ u181_ u182_ u183_ u184_ u185_ u186_ u187_ u188_ u189_ u190_ u191_ u192_ u193_ u194_ u195_ u196_ u197_ u198_ u199_ u200_ u201_ u202_ u203_ u204_ u205_ u206_ u207_ u208_ u209_ u210_ u211_ u212_ u213_ u214_ u215_ u216_ u217_ u218_ u219_ u220_ u221_ u222_ u223_ u224_ u225_ u226_ u227_ u228_ u229_ u230_ u231_ u232_ u233_ u234_ u235_ u236_ u237_ u238_ u239_ u240_ u241_ u242_ u243_ u244_ u245_ u246_ u247_ u248_ u249_ u250_ u251_ u252_ u253_ u254_ u255_ u256_ u257_ u258_ u259_ u260_ u261_ u262_ u263_ u264_ u265_ u266_ u267_ u268_ u269_ u270_ u271_ u272_ u273_ u274_ u275_ u276_ u277_ u278_ u279_ u280_ u281_ u282_ u283_ u284_ u285_ u286_ u287_ u288_ u289_ u290_ u291_ u292_ u293_ u294_ u295_ u296_ u297_ u298_ u299_ u300_ u301_ u302_ u303_ u304_ u305_ u306_ u307_ u308_ u309_ u310_ u311_ u312_ u313_ u314_ u315_ u316_ u317_ u318_ u319_ u320_ u321_ u322_ u323_ u324_ u325_ u326_ u327_ u328_ u329_ u330_ u331_ u332_ u333_ u334_ u335_ u336_ u337_ u338_ u339_ u340_ u341_ u342_ u343_ u344_ u345_ u346_ u347_ u348_ u349_ u350_ u351_ u352_ u353_ u354_ u355_ u356_ u357_ u358_ u359_ : Value) (hB : Below w.heap.size w wc) (hZ : w.heap.size ≤ wc.heap.size) (hC : Code8 w.heap.size wc A n)
    (hK : ∀ a w1, Code.wp Try.prog tailFnRunsC (bodyPost Try.prog Try.f4 fun e w' => e = .returned (.bool true) ∧ Below w.heap.size w w') a w1 → K a w1) :
    Code.wp Try.prog headFnRunsC (Exit.then K (bodyPost Try.prog Try.f4 fun e w' => e = .returned (.bool true) ∧ Below w.heap.size w w')) ⟨#[(.slice A n c), u1_, u2_, u3_, u4_, u5_, u6_, u7_, u8_, u9_, u10_, u11_, u12_, u13_, u14_, u15_, u16_, u17_, u18_, u19_, u20_, u21_, u22_, u23_, u24_, u25_, u26_, u27_, u28_, u29_, u30_, u31_, u32_, u33_, u34_, u35_, u36_, u37_, u38_, u39_, u40_, u41_, u42_, u43_, u44_, u45_, u46_, u47_, u48_, u49_, u50_, u51_, u52_, u53_, u54_, u55_, u56_, u57_, u58_, u59_, u60_, u61_, u62_, u63_, u64_, u65_, u66_, u67_, u68_, u69_, u70_, u71_, u72_, u73_, u74_, u75_, u76_, u77_, u78_, u79_, u80_, u81_, u82_, u83_, u84_, u85_, u86_, u87_, u88_, u89_, u90_, u91_, u92_, u93_, u94_, u95_, u96_, u97_, u98_, u99_, u100_, u101_, u102_, u103_, u104_, u105_, u106_, u107_, u108_, u109_, u110_, u111_, u112_, u113_, u114_, u115_, u116_, u117_, u118_, u119_, u120_, u121_, u122_, u123_, u124_, u125_, u126_, u127_, u128_, u129_, u130_, u131_, u132_, u133_, u134_, u135_, u136_, u137_, u138_, u139_, u140_, u141_, u142_, u143_, u144_, u145_, u146_, u147_, u148_, u149_, u150_, u151_, u152_, u153_, u154_, u155_, u156_, u157_, u158_, u159_, u160_, u161_, u162_, u163_, u164_, u165_, u166_, u167_, u168_, u169_, u170_, u171_, u172_, u173_, u174_, u175_, u176_, u177_, u178_, u179_, u180_, u181_, u182_, u183_, u184_, u185_, u186_, u187_, u188_, u189_, u190_, u191_, u192_, u193_, u194_, u195_, u196_, u197_, u198_, u199_, u200_, u201_, u202_, u203_, u204_, u205_, u206_, u207_, u208_, u209_, u210_, u211_, u212_, u213_, u214_, u215_, u216_, u217_, u218_, u219_, u220_, u221_, u222_, u223_, u224_, u225_, u226_, u227_, u228_, u229_, u230_, u231_, u232_, u233_, u234_, u235_, u236_, u237_, u238_, u239_, u240_, u241_, u242_, u243_, u244_, u245_, u246_, u247_, u248_, u249_, u250_, u251_, u252_, u253_, u254_, u255_, u256_, u257_, u258_, u259_, u260_, u261_, u262_, u263_, u264_, u265_, u266_, u267_, u268_, u269_, u270_, u271_, u272_, u273_, u274_, u275_, u276_, u277_, u278_, u279_, u280_, u281_, u282_, u283_, u284_, u285_, u286_, u287_, u288_, u289_, u290_, u291_, u292_, u293_, u294_, u295_, u296_, u297_, u298_, u299_, u300_, u301_, u302_, u303_, u304_, u305_, u306_, u307_, u308_, u309_, u310_, u311_, u312_, u313_, u314_, u315_, u316_, u317_, u318_, u319_, u320_, u321_, u322_, u323_, u324_, u325_, u326_, u327_, u328_, u329_, u330_, u331_, u332_, u333_, u334_, u335_, u336_, u337_, u338_, u339_, u340_, u341_, u342_, u343_, u344_, u345_, u346_, u347_, u348_, u349_, u350_, u351_, u352_, u353_, u354_, u355_, u356_, u357_, u358_, u359_], []⟩ wc := by
  have hqn := neqTriple_run
  have hqe := eqlTriple_run
  have hq9 := eqlSquare_run
  conv at hK => ext a1 w1; arg 1; arg 2; whnf
  conv => arg 2; whnf
  go_wp2_with fail
  with_reducible refine (DrawEndOfRun_any w.heap.size A n c _ ?_ ?_).mono ?_
  · (focus ((repeat' (with_reducible apply And.intro)) <;> (repeat' (first | (with_reducible assumption) | (with_reducible refine below_chain hbc ?_) | (with_reducible refine below_al ?_ _) | (with_reducible refine below_dr ?_) | (with_reducible refine below_drewN' ?_ _) | ((with_reducible refine new_cell ?_ ?_); (focus (first | omega | (simp; done) | (simp; omega))); (focus rfl)) | (with_reducible refine keep_below hbc ?_ ?_) | (with_reducible refine keep_drewN ?_) | (with_reducible refine keep_drew ?_) | (with_reducible refine keep_alloc ?_) | (with_reducible refine lt_below hbc ?_) | (with_reducible refine ne_below hbc ?_) | (with_reducible refine SSl.keep ?_ hbc) | (with_reducible refine ssl_al ?_ _) | (with_reducible refine ssl_dr ?_) | (with_reducible refine ssl_drN ?_ _) | (with_reducible refine Code8.below hbc ?_ ?_) | (with_reducible refine Code8.alloc ?_ _) | (with_reducible refine Code8.drew ?_) | (with_reducible refine Code8.drewN ?_ _) | (with_reducible refine below_size hbc ?_) | (first | omega | (simp; done) | (simp; omega))))); done)
  · (focus ((repeat' (with_reducible apply And.intro)) <;> (repeat' (first | (with_reducible assumption) | (with_reducible refine below_chain hbc ?_) | (with_reducible refine below_al ?_ _) | (with_reducible refine below_dr ?_) | (with_reducible refine below_drewN' ?_ _) | ((with_reducible refine new_cell ?_ ?_); (focus (first | omega | (simp; done) | (simp; omega))); (focus rfl)) | (with_reducible refine keep_below hbc ?_ ?_) | (with_reducible refine keep_drewN ?_) | (with_reducible refine keep_drew ?_) | (with_reducible refine keep_alloc ?_) | (with_reducible refine lt_below hbc ?_) | (with_reducible refine ne_below hbc ?_) | (with_reducible refine SSl.keep ?_ hbc) | (with_reducible refine ssl_al ?_ _) | (with_reducible refine ssl_dr ?_) | (with_reducible refine ssl_drN ?_ _) | (with_reducible refine Code8.below hbc ?_ ?_) | (with_reducible refine Code8.alloc ?_ _) | (with_reducible refine Code8.drew ?_) | (with_reducible refine Code8.drewN ?_ _) | (with_reducible refine below_size hbc ?_) | (first | omega | (simp; done) | (simp; omega))))); done)
  rintro e y1 ⟨⟨e1, e2, e3, eo, rfl⟩, hbc⟩
  refine gcut (p := Below w.heap.size w y1 ∧ w.heap.size ≤ y1.heap.size ∧ Code8 w.heap.size y1 A n) ?_ ?_
  · (focus ((repeat' (with_reducible apply And.intro)) <;> (repeat' (first | (with_reducible assumption) | (with_reducible refine below_chain hbc ?_) | (with_reducible refine below_al ?_ _) | (with_reducible refine below_dr ?_) | (with_reducible refine below_drewN' ?_ _) | ((with_reducible refine new_cell ?_ ?_); (focus (first | omega | (simp; done) | (simp; omega))); (focus rfl)) | (with_reducible refine keep_below hbc ?_ ?_) | (with_reducible refine keep_drewN ?_) | (with_reducible refine keep_drew ?_) | (with_reducible refine keep_alloc ?_) | (with_reducible refine lt_below hbc ?_) | (with_reducible refine ne_below hbc ?_) | (with_reducible refine SSl.keep ?_ hbc) | (with_reducible refine ssl_al ?_ _) | (with_reducible refine ssl_dr ?_) | (with_reducible refine ssl_drN ?_ _) | (with_reducible refine Code8.below hbc ?_ ?_) | (with_reducible refine Code8.alloc ?_ _) | (with_reducible refine Code8.drew ?_) | (with_reducible refine Code8.drewN ?_ _) | (with_reducible refine below_size hbc ?_) | (first | omega | (simp; done) | (simp; omega))))); done)
  clear hbc hB hZ hC
  rintro ⟨hB, hZ, hC⟩
  have hgi := fun W => implEndRun_any e1 e2 e3 eo W
  have hgs := fun W => specEndRun_any e1 e2 e3 eo W
  obtain ⟨⟨g1, g2, g3', gc⟩, hE⟩ : ∃ R, endRun e1 e2 e3 eo = R := ⟨_, rfl⟩
  rw [hE] at hgi hgs
  try dsimp only at hgi hgs
  have Hgi := Lib.hid hgi
  have Hgs := Lib.hid hgs
  have HE := Lib.hid hE
  clear hgi hgs hE
  go_wp2_with fail
  with_reducible refine (Hgi.out _).mono ?_
  rintro e y2 ⟨rfl, hbc⟩
  refine gcut (p := Below w.heap.size w y2 ∧ w.heap.size ≤ y2.heap.size ∧ Code8 w.heap.size y2 A n ∧ (y2.cell? ⟨y1.heap.size, 0, none⟩ = some (.int .i64 e1) ∧ y2.cell? ⟨y1.heap.size, 1, none⟩ = some (.int .i64 e2) ∧ y2.cell? ⟨y1.heap.size, 2, none⟩ = some (.int .i64 e3)) ∧ y1.heap.size < y2.heap.size ∧ ¬ y2.heap.size = y1.heap.size) ?_ ?_
  · (focus ((repeat' (with_reducible apply And.intro)) <;> (repeat' (first | (with_reducible assumption) | (with_reducible refine below_chain hbc ?_) | (with_reducible refine below_al ?_ _) | (with_reducible refine below_dr ?_) | (with_reducible refine below_drewN' ?_ _) | ((with_reducible refine new_cell ?_ ?_); (focus (first | omega | (simp; done) | (simp; omega))); (focus rfl)) | (with_reducible refine keep_below hbc ?_ ?_) | (with_reducible refine keep_drewN ?_) | (with_reducible refine keep_drew ?_) | (with_reducible refine keep_alloc ?_) | (with_reducible refine lt_below hbc ?_) | (with_reducible refine ne_below hbc ?_) | (with_reducible refine SSl.keep ?_ hbc) | (with_reducible refine ssl_al ?_ _) | (with_reducible refine ssl_dr ?_) | (with_reducible refine ssl_drN ?_ _) | (with_reducible refine Code8.below hbc ?_ ?_) | (with_reducible refine Code8.alloc ?_ _) | (with_reducible refine Code8.drew ?_) | (with_reducible refine Code8.drewN ?_ _) | (with_reducible refine below_size hbc ?_) | (first | omega | (simp; done) | (simp; omega))))); done)
  clear hbc hB hZ hC
  rintro ⟨hB, hZ, hC, ⟨qe_0, qe_1, qe_2⟩, lt_e, nt_e⟩
  go_wp2_with fail
  with_reducible refine (Hgs.out _).mono ?_
  rintro e y3 ⟨rfl, hbc⟩
  refine gcut (p := Below w.heap.size w y3 ∧ w.heap.size ≤ y3.heap.size ∧ Code8 w.heap.size y3 A n ∧ (y3.cell? ⟨y1.heap.size, 0, none⟩ = some (.int .i64 e1) ∧ y3.cell? ⟨y1.heap.size, 1, none⟩ = some (.int .i64 e2) ∧ y3.cell? ⟨y1.heap.size, 2, none⟩ = some (.int .i64 e3)) ∧ y1.heap.size < y3.heap.size ∧ ¬ y3.heap.size = y1.heap.size ∧ (y3.cell? ⟨y2.heap.size, 0, none⟩ = some (.int .i64 g1) ∧ y3.cell? ⟨y2.heap.size, 1, none⟩ = some (.int .i64 g2) ∧ y3.cell? ⟨y2.heap.size, 2, none⟩ = some (.int .i64 g3')) ∧ y2.heap.size < y3.heap.size ∧ ¬ y3.heap.size = y2.heap.size) ?_ ?_
  · (focus ((repeat' (with_reducible apply And.intro)) <;> (repeat' (first | (with_reducible assumption) | (with_reducible refine below_chain hbc ?_) | (with_reducible refine below_al ?_ _) | (with_reducible refine below_dr ?_) | (with_reducible refine below_drewN' ?_ _) | ((with_reducible refine new_cell ?_ ?_); (focus (first | omega | (simp; done) | (simp; omega))); (focus rfl)) | (with_reducible refine keep_below hbc ?_ ?_) | (with_reducible refine keep_drewN ?_) | (with_reducible refine keep_drew ?_) | (with_reducible refine keep_alloc ?_) | (with_reducible refine lt_below hbc ?_) | (with_reducible refine ne_below hbc ?_) | (with_reducible refine SSl.keep ?_ hbc) | (with_reducible refine ssl_al ?_ _) | (with_reducible refine ssl_dr ?_) | (with_reducible refine ssl_drN ?_ _) | (with_reducible refine Code8.below hbc ?_ ?_) | (with_reducible refine Code8.alloc ?_ _) | (with_reducible refine Code8.drew ?_) | (with_reducible refine Code8.drewN ?_ _) | (with_reducible refine below_size hbc ?_) | (first | omega | (simp; done) | (simp; omega))))); done)
  clear hbc hB hZ hC qe_0 qe_1 qe_2 lt_e nt_e
  rintro ⟨hB, hZ, hC, ⟨qe_0, qe_1, qe_2⟩, lt_e, nt_e, ⟨qf_0, qf_1, qf_2⟩, lt_f, nt_f⟩
  go_wp2_with fail
  with_reducible refine (DrawHasEnded_any w.heap.size A n c _ ?_ ?_).mono ?_
  · (focus ((repeat' (with_reducible apply And.intro)) <;> (repeat' (first | (with_reducible assumption) | (with_reducible refine below_chain hbc ?_) | (with_reducible refine below_al ?_ _) | (with_reducible refine below_dr ?_) | (with_reducible refine below_drewN' ?_ _) | ((with_reducible refine new_cell ?_ ?_); (focus (first | omega | (simp; done) | (simp; omega))); (focus rfl)) | (with_reducible refine keep_below hbc ?_ ?_) | (with_reducible refine keep_drewN ?_) | (with_reducible refine keep_drew ?_) | (with_reducible refine keep_alloc ?_) | (with_reducible refine lt_below hbc ?_) | (with_reducible refine ne_below hbc ?_) | (with_reducible refine SSl.keep ?_ hbc) | (with_reducible refine ssl_al ?_ _) | (with_reducible refine ssl_dr ?_) | (with_reducible refine ssl_drN ?_ _) | (with_reducible refine Code8.below hbc ?_ ?_) | (with_reducible refine Code8.alloc ?_ _) | (with_reducible refine Code8.drew ?_) | (with_reducible refine Code8.drewN ?_ _) | (with_reducible refine below_size hbc ?_) | (first | omega | (simp; done) | (simp; omega))))); done)
  · (focus ((repeat' (with_reducible apply And.intro)) <;> (repeat' (first | (with_reducible assumption) | (with_reducible refine below_chain hbc ?_) | (with_reducible refine below_al ?_ _) | (with_reducible refine below_dr ?_) | (with_reducible refine below_drewN' ?_ _) | ((with_reducible refine new_cell ?_ ?_); (focus (first | omega | (simp; done) | (simp; omega))); (focus rfl)) | (with_reducible refine keep_below hbc ?_ ?_) | (with_reducible refine keep_drewN ?_) | (with_reducible refine keep_drew ?_) | (with_reducible refine keep_alloc ?_) | (with_reducible refine lt_below hbc ?_) | (with_reducible refine ne_below hbc ?_) | (with_reducible refine SSl.keep ?_ hbc) | (with_reducible refine ssl_al ?_ _) | (with_reducible refine ssl_dr ?_) | (with_reducible refine ssl_drN ?_ _) | (with_reducible refine Code8.below hbc ?_ ?_) | (with_reducible refine Code8.alloc ?_ _) | (with_reducible refine Code8.drew ?_) | (with_reducible refine Code8.drewN ?_ _) | (with_reducible refine below_size hbc ?_) | (first | omega | (simp; done) | (simp; omega))))); done)
  rintro e y4 ⟨⟨h1, h2, h3, ho, rfl⟩, hbc⟩
  refine gcut (p := Below w.heap.size w y4 ∧ w.heap.size ≤ y4.heap.size ∧ Code8 w.heap.size y4 A n ∧ (y4.cell? ⟨y2.heap.size, 0, none⟩ = some (.int .i64 g1) ∧ y4.cell? ⟨y2.heap.size, 1, none⟩ = some (.int .i64 g2) ∧ y4.cell? ⟨y2.heap.size, 2, none⟩ = some (.int .i64 g3')) ∧ y2.heap.size < y4.heap.size ∧ ¬ y4.heap.size = y2.heap.size ∧ (y4.cell? ⟨y3.heap.size, 0, none⟩ = some (.int .i64 g1) ∧ y4.cell? ⟨y3.heap.size, 1, none⟩ = some (.int .i64 g2) ∧ y4.cell? ⟨y3.heap.size, 2, none⟩ = some (.int .i64 g3')) ∧ y3.heap.size < y4.heap.size ∧ ¬ y4.heap.size = y3.heap.size) ?_ ?_
  · (focus ((repeat' (with_reducible apply And.intro)) <;> (repeat' (first | (with_reducible assumption) | (with_reducible refine below_chain hbc ?_) | (with_reducible refine below_al ?_ _) | (with_reducible refine below_dr ?_) | (with_reducible refine below_drewN' ?_ _) | ((with_reducible refine new_cell ?_ ?_); (focus (first | omega | (simp; done) | (simp; omega))); (focus rfl)) | (with_reducible refine keep_below hbc ?_ ?_) | (with_reducible refine keep_drewN ?_) | (with_reducible refine keep_drew ?_) | (with_reducible refine keep_alloc ?_) | (with_reducible refine lt_below hbc ?_) | (with_reducible refine ne_below hbc ?_) | (with_reducible refine SSl.keep ?_ hbc) | (with_reducible refine ssl_al ?_ _) | (with_reducible refine ssl_dr ?_) | (with_reducible refine ssl_drN ?_ _) | (with_reducible refine Code8.below hbc ?_ ?_) | (with_reducible refine Code8.alloc ?_ _) | (with_reducible refine Code8.drew ?_) | (with_reducible refine Code8.drewN ?_ _) | (with_reducible refine below_size hbc ?_) | (first | omega | (simp; done) | (simp; omega))))); done)
  clear hbc hB hZ hC qe_0 qe_1 qe_2 lt_e nt_e qf_0 qf_1 qf_2 lt_f nt_f
  rintro ⟨hB, hZ, hC, ⟨qf_0, qf_1, qf_2⟩, lt_f, nt_f, ⟨qg_0, qg_1, qg_2⟩, lt_g, nt_g⟩
  have hhi := fun W => implHasEnded_any h1 h2 h3 ho W
  have hhs := fun W => specHasEnded_any h1 h2 h3 ho W
  obtain ⟨⟨hd, hdc⟩, hD⟩ : ∃ R, endR h1 h2 h3 ho = R := ⟨_, rfl⟩
  rw [hD] at hhi hhs
  try dsimp only at hhi hhs
  have Hhi := Lib.hid hhi
  have Hhs := Lib.hid hhs
  have HD := Lib.hid hD
  clear hhi hhs hD
  go_wp2_with fail
  with_reducible refine (Hhi.out _).mono ?_
  rintro e y5 ⟨rfl, hbc⟩
  refine gcut (p := Below w.heap.size w y5 ∧ w.heap.size ≤ y5.heap.size ∧ Code8 w.heap.size y5 A n ∧ (y5.cell? ⟨y2.heap.size, 0, none⟩ = some (.int .i64 g1) ∧ y5.cell? ⟨y2.heap.size, 1, none⟩ = some (.int .i64 g2) ∧ y5.cell? ⟨y2.heap.size, 2, none⟩ = some (.int .i64 g3')) ∧ y2.heap.size < y5.heap.size ∧ ¬ y5.heap.size = y2.heap.size ∧ (y5.cell? ⟨y3.heap.size, 0, none⟩ = some (.int .i64 g1) ∧ y5.cell? ⟨y3.heap.size, 1, none⟩ = some (.int .i64 g2) ∧ y5.cell? ⟨y3.heap.size, 2, none⟩ = some (.int .i64 g3')) ∧ y3.heap.size < y5.heap.size ∧ ¬ y5.heap.size = y3.heap.size ∧ (y5.cell? ⟨y4.heap.size, 0, none⟩ = some (.int .i64 h1) ∧ y5.cell? ⟨y4.heap.size, 1, none⟩ = some (.int .i64 h2) ∧ y5.cell? ⟨y4.heap.size, 2, none⟩ = some (.int .i64 h3)) ∧ y4.heap.size < y5.heap.size ∧ ¬ y5.heap.size = y4.heap.size) ?_ ?_
  · (focus ((repeat' (with_reducible apply And.intro)) <;> (repeat' (first | (with_reducible assumption) | (with_reducible refine below_chain hbc ?_) | (with_reducible refine below_al ?_ _) | (with_reducible refine below_dr ?_) | (with_reducible refine below_drewN' ?_ _) | ((with_reducible refine new_cell ?_ ?_); (focus (first | omega | (simp; done) | (simp; omega))); (focus rfl)) | (with_reducible refine keep_below hbc ?_ ?_) | (with_reducible refine keep_drewN ?_) | (with_reducible refine keep_drew ?_) | (with_reducible refine keep_alloc ?_) | (with_reducible refine lt_below hbc ?_) | (with_reducible refine ne_below hbc ?_) | (with_reducible refine SSl.keep ?_ hbc) | (with_reducible refine ssl_al ?_ _) | (with_reducible refine ssl_dr ?_) | (with_reducible refine ssl_drN ?_ _) | (with_reducible refine Code8.below hbc ?_ ?_) | (with_reducible refine Code8.alloc ?_ _) | (with_reducible refine Code8.drew ?_) | (with_reducible refine Code8.drewN ?_ _) | (with_reducible refine below_size hbc ?_) | (first | omega | (simp; done) | (simp; omega))))); done)
  clear hbc hB hZ hC qf_0 qf_1 qf_2 lt_f nt_f qg_0 qg_1 qg_2 lt_g nt_g
  rintro ⟨hB, hZ, hC, ⟨qf_0, qf_1, qf_2⟩, lt_f, nt_f, ⟨qg_0, qg_1, qg_2⟩, lt_g, nt_g, ⟨qh_0, qh_1, qh_2⟩, lt_h, nt_h⟩
  go_wp2_with fail
  with_reducible refine (Hhs.out _).mono ?_
  rintro e y6 ⟨rfl, hbc⟩
  refine gcut (p := Below w.heap.size w y6 ∧ w.heap.size ≤ y6.heap.size ∧ Code8 w.heap.size y6 A n ∧ (y6.cell? ⟨y2.heap.size, 0, none⟩ = some (.int .i64 g1) ∧ y6.cell? ⟨y2.heap.size, 1, none⟩ = some (.int .i64 g2) ∧ y6.cell? ⟨y2.heap.size, 2, none⟩ = some (.int .i64 g3')) ∧ y2.heap.size < y6.heap.size ∧ ¬ y6.heap.size = y2.heap.size ∧ (y6.cell? ⟨y3.heap.size, 0, none⟩ = some (.int .i64 g1) ∧ y6.cell? ⟨y3.heap.size, 1, none⟩ = some (.int .i64 g2) ∧ y6.cell? ⟨y3.heap.size, 2, none⟩ = some (.int .i64 g3')) ∧ y3.heap.size < y6.heap.size ∧ ¬ y6.heap.size = y3.heap.size ∧ (y6.cell? ⟨y4.heap.size, 0, none⟩ = some (.int .i64 h1) ∧ y6.cell? ⟨y4.heap.size, 1, none⟩ = some (.int .i64 h2) ∧ y6.cell? ⟨y4.heap.size, 2, none⟩ = some (.int .i64 h3)) ∧ y4.heap.size < y6.heap.size ∧ ¬ y6.heap.size = y4.heap.size) ?_ ?_
  · (focus ((repeat' (with_reducible apply And.intro)) <;> (repeat' (first | (with_reducible assumption) | (with_reducible refine below_chain hbc ?_) | (with_reducible refine below_al ?_ _) | (with_reducible refine below_dr ?_) | (with_reducible refine below_drewN' ?_ _) | ((with_reducible refine new_cell ?_ ?_); (focus (first | omega | (simp; done) | (simp; omega))); (focus rfl)) | (with_reducible refine keep_below hbc ?_ ?_) | (with_reducible refine keep_drewN ?_) | (with_reducible refine keep_drew ?_) | (with_reducible refine keep_alloc ?_) | (with_reducible refine lt_below hbc ?_) | (with_reducible refine ne_below hbc ?_) | (with_reducible refine SSl.keep ?_ hbc) | (with_reducible refine ssl_al ?_ _) | (with_reducible refine ssl_dr ?_) | (with_reducible refine ssl_drN ?_ _) | (with_reducible refine Code8.below hbc ?_ ?_) | (with_reducible refine Code8.alloc ?_ _) | (with_reducible refine Code8.drew ?_) | (with_reducible refine Code8.drewN ?_ _) | (with_reducible refine below_size hbc ?_) | (first | omega | (simp; done) | (simp; omega))))); done)
  clear hbc hB hZ hC qf_0 qf_1 qf_2 lt_f nt_f qg_0 qg_1 qg_2 lt_g nt_g qh_0 qh_1 qh_2 lt_h nt_h
  rintro ⟨hB, hZ, hC, ⟨qf_0, qf_1, qf_2⟩, lt_f, nt_f, ⟨qg_0, qg_1, qg_2⟩, lt_g, nt_g, ⟨qh_0, qh_1, qh_2⟩, lt_h, nt_h⟩
  go_wp2_with fail
  with_reducible refine (DrawMatrixOfRun_any w.heap.size A n c _ ?_ ?_).mono ?_
  · (focus ((repeat' (with_reducible apply And.intro)) <;> (repeat' (first | (with_reducible assumption) | (with_reducible refine below_chain hbc ?_) | (with_reducible refine below_al ?_ _) | (with_reducible refine below_dr ?_) | (with_reducible refine below_drewN' ?_ _) | ((with_reducible refine new_cell ?_ ?_); (focus (first | omega | (simp; done) | (simp; omega))); (focus rfl)) | (with_reducible refine keep_below hbc ?_ ?_) | (with_reducible refine keep_drewN ?_) | (with_reducible refine keep_drew ?_) | (with_reducible refine keep_alloc ?_) | (with_reducible refine lt_below hbc ?_) | (with_reducible refine ne_below hbc ?_) | (with_reducible refine SSl.keep ?_ hbc) | (with_reducible refine ssl_al ?_ _) | (with_reducible refine ssl_dr ?_) | (with_reducible refine ssl_drN ?_ _) | (with_reducible refine Code8.below hbc ?_ ?_) | (with_reducible refine Code8.alloc ?_ _) | (with_reducible refine Code8.drew ?_) | (with_reducible refine Code8.drewN ?_ _) | (with_reducible refine below_size hbc ?_) | (first | omega | (simp; done) | (simp; omega))))); done)
  · (focus ((repeat' (with_reducible apply And.intro)) <;> (repeat' (first | (with_reducible assumption) | (with_reducible refine below_chain hbc ?_) | (with_reducible refine below_al ?_ _) | (with_reducible refine below_dr ?_) | (with_reducible refine below_drewN' ?_ _) | ((with_reducible refine new_cell ?_ ?_); (focus (first | omega | (simp; done) | (simp; omega))); (focus rfl)) | (with_reducible refine keep_below hbc ?_ ?_) | (with_reducible refine keep_drewN ?_) | (with_reducible refine keep_drew ?_) | (with_reducible refine keep_alloc ?_) | (with_reducible refine lt_below hbc ?_) | (with_reducible refine ne_below hbc ?_) | (with_reducible refine SSl.keep ?_ hbc) | (with_reducible refine ssl_al ?_ _) | (with_reducible refine ssl_dr ?_) | (with_reducible refine ssl_drN ?_ _) | (with_reducible refine Code8.below hbc ?_ ?_) | (with_reducible refine Code8.alloc ?_ _) | (with_reducible refine Code8.drew ?_) | (with_reducible refine Code8.drewN ?_ _) | (with_reducible refine below_size hbc ?_) | (first | omega | (simp; done) | (simp; omega))))); done)
  rintro e y7 ⟨⟨m1, m2, m3, mo, mn, rfl⟩, hbc⟩
  refine gcut (p := Below w.heap.size w y7 ∧ w.heap.size ≤ y7.heap.size ∧ Code8 w.heap.size y7 A n ∧ (y7.cell? ⟨y2.heap.size, 0, none⟩ = some (.int .i64 g1) ∧ y7.cell? ⟨y2.heap.size, 1, none⟩ = some (.int .i64 g2) ∧ y7.cell? ⟨y2.heap.size, 2, none⟩ = some (.int .i64 g3')) ∧ y2.heap.size < y7.heap.size ∧ ¬ y7.heap.size = y2.heap.size ∧ (y7.cell? ⟨y3.heap.size, 0, none⟩ = some (.int .i64 g1) ∧ y7.cell? ⟨y3.heap.size, 1, none⟩ = some (.int .i64 g2) ∧ y7.cell? ⟨y3.heap.size, 2, none⟩ = some (.int .i64 g3')) ∧ y3.heap.size < y7.heap.size ∧ ¬ y7.heap.size = y3.heap.size) ?_ ?_
  · (focus ((repeat' (with_reducible apply And.intro)) <;> (repeat' (first | (with_reducible assumption) | (with_reducible refine below_chain hbc ?_) | (with_reducible refine below_al ?_ _) | (with_reducible refine below_dr ?_) | (with_reducible refine below_drewN' ?_ _) | ((with_reducible refine new_cell ?_ ?_); (focus (first | omega | (simp; done) | (simp; omega))); (focus rfl)) | (with_reducible refine keep_below hbc ?_ ?_) | (with_reducible refine keep_drewN ?_) | (with_reducible refine keep_drew ?_) | (with_reducible refine keep_alloc ?_) | (with_reducible refine lt_below hbc ?_) | (with_reducible refine ne_below hbc ?_) | (with_reducible refine SSl.keep ?_ hbc) | (with_reducible refine ssl_al ?_ _) | (with_reducible refine ssl_dr ?_) | (with_reducible refine ssl_drN ?_ _) | (with_reducible refine Code8.below hbc ?_ ?_) | (with_reducible refine Code8.alloc ?_ _) | (with_reducible refine Code8.drew ?_) | (with_reducible refine Code8.drewN ?_ _) | (with_reducible refine below_size hbc ?_) | (first | omega | (simp; done) | (simp; omega))))); done)
  clear hbc hB hZ hC qf_0 qf_1 qf_2 lt_f nt_f qg_0 qg_1 qg_2 lt_g nt_g qh_0 qh_1 qh_2 lt_h nt_h
  rintro ⟨hB, hZ, hC, ⟨qf_0, qf_1, qf_2⟩, lt_f, nt_f, ⟨qg_0, qg_1, qg_2⟩, lt_g, nt_g⟩
  have hki := fun W => implMat_any m1 m2 m3 mo mn W
  have hks := fun W => specMat_any m1 m2 m3 mo mn W
  obtain ⟨kc, hkc⟩ : ∃ R, (matR m1 m2 m3 mo mn).2 = R := ⟨_, rfl⟩
  obtain ⟨K, hK⟩ : ∃ R, (matR m1 m2 m3 mo mn).1 = R := ⟨_, rfl⟩
  rw [hkc, hK] at hki hks
  have Hki := Lib.hid hki
  have Hks := Lib.hid hks
  clear hki hks hkc hK
  go_wp2_with fail
  with_reducible refine (Hki.out _).mono ?_
  rintro e y8 ⟨rfl, hbc⟩
  refine gcut (p := Below w.heap.size w y8 ∧ w.heap.size ≤ y8.heap.size ∧ Code8 w.heap.size y8 A n ∧ (y8.cell? ⟨y2.heap.size, 0, none⟩ = some (.int .i64 g1) ∧ y8.cell? ⟨y2.heap.size, 1, none⟩ = some (.int .i64 g2) ∧ y8.cell? ⟨y2.heap.size, 2, none⟩ = some (.int .i64 g3')) ∧ y2.heap.size < y8.heap.size ∧ ¬ y8.heap.size = y2.heap.size ∧ (y8.cell? ⟨y3.heap.size, 0, none⟩ = some (.int .i64 g1) ∧ y8.cell? ⟨y3.heap.size, 1, none⟩ = some (.int .i64 g2) ∧ y8.cell? ⟨y3.heap.size, 2, none⟩ = some (.int .i64 g3')) ∧ y3.heap.size < y8.heap.size ∧ ¬ y8.heap.size = y3.heap.size ∧ (y8.cell? ⟨y7.heap.size, 0, none⟩ = some (.int .i64 m1) ∧ y8.cell? ⟨y7.heap.size, 1, none⟩ = some (.int .i64 m2) ∧ y8.cell? ⟨y7.heap.size, 2, none⟩ = some (.int .i64 m3)) ∧ y7.heap.size < y8.heap.size ∧ ¬ y8.heap.size = y7.heap.size) ?_ ?_
  · (focus ((repeat' (with_reducible apply And.intro)) <;> (repeat' (first | (with_reducible assumption) | (with_reducible refine below_chain hbc ?_) | (with_reducible refine below_al ?_ _) | (with_reducible refine below_dr ?_) | (with_reducible refine below_drewN' ?_ _) | ((with_reducible refine new_cell ?_ ?_); (focus (first | omega | (simp; done) | (simp; omega))); (focus rfl)) | (with_reducible refine keep_below hbc ?_ ?_) | (with_reducible refine keep_drewN ?_) | (with_reducible refine keep_drew ?_) | (with_reducible refine keep_alloc ?_) | (with_reducible refine lt_below hbc ?_) | (with_reducible refine ne_below hbc ?_) | (with_reducible refine SSl.keep ?_ hbc) | (with_reducible refine ssl_al ?_ _) | (with_reducible refine ssl_dr ?_) | (with_reducible refine ssl_drN ?_ _) | (with_reducible refine Code8.below hbc ?_ ?_) | (with_reducible refine Code8.alloc ?_ _) | (with_reducible refine Code8.drew ?_) | (with_reducible refine Code8.drewN ?_ _) | (with_reducible refine below_size hbc ?_) | (first | omega | (simp; done) | (simp; omega))))); done)
  clear hbc hB hZ hC qf_0 qf_1 qf_2 lt_f nt_f qg_0 qg_1 qg_2 lt_g nt_g
  rintro ⟨hB, hZ, hC, ⟨qf_0, qf_1, qf_2⟩, lt_f, nt_f, ⟨qg_0, qg_1, qg_2⟩, lt_g, nt_g, ⟨qk_0, qk_1, qk_2⟩, lt_k, nt_k⟩
  go_wp2_with fail
  with_reducible refine (Hks.out _).mono ?_
  rintro e y9 ⟨rfl, hbc⟩
  refine gcut (p := Below w.heap.size w y9 ∧ w.heap.size ≤ y9.heap.size ∧ Code8 w.heap.size y9 A n ∧ (y9.cell? ⟨y2.heap.size, 0, none⟩ = some (.int .i64 g1) ∧ y9.cell? ⟨y2.heap.size, 1, none⟩ = some (.int .i64 g2) ∧ y9.cell? ⟨y2.heap.size, 2, none⟩ = some (.int .i64 g3')) ∧ y2.heap.size < y9.heap.size ∧ ¬ y9.heap.size = y2.heap.size ∧ (y9.cell? ⟨y3.heap.size, 0, none⟩ = some (.int .i64 g1) ∧ y9.cell? ⟨y3.heap.size, 1, none⟩ = some (.int .i64 g2) ∧ y9.cell? ⟨y3.heap.size, 2, none⟩ = some (.int .i64 g3')) ∧ y3.heap.size < y9.heap.size ∧ ¬ y9.heap.size = y3.heap.size ∧ (y9.cell? ⟨y8.heap.size, 0, none⟩ = some (.int .i64 (K 0)) ∧ y9.cell? ⟨y8.heap.size, 1, none⟩ = some (.int .i64 (K 1)) ∧ y9.cell? ⟨y8.heap.size, 2, none⟩ = some (.int .i64 (K 2)) ∧ y9.cell? ⟨y8.heap.size, 3, none⟩ = some (.int .i64 (K 3)) ∧ y9.cell? ⟨y8.heap.size, 4, none⟩ = some (.int .i64 (K 4)) ∧ y9.cell? ⟨y8.heap.size, 5, none⟩ = some (.int .i64 (K 5)) ∧ y9.cell? ⟨y8.heap.size, 6, none⟩ = some (.int .i64 (K 6)) ∧ y9.cell? ⟨y8.heap.size, 7, none⟩ = some (.int .i64 (K 7)) ∧ y9.cell? ⟨y8.heap.size, 8, none⟩ = some (.int .i64 (K 8))) ∧ y8.heap.size < y9.heap.size ∧ ¬ y9.heap.size = y8.heap.size) ?_ ?_
  · (focus ((repeat' (with_reducible apply And.intro)) <;> (repeat' (first | (with_reducible assumption) | (with_reducible refine below_chain hbc ?_) | (with_reducible refine below_al ?_ _) | (with_reducible refine below_dr ?_) | (with_reducible refine below_drewN' ?_ _) | ((with_reducible refine new_cell ?_ ?_); (focus (first | omega | (simp; done) | (simp; omega))); (focus rfl)) | (with_reducible refine keep_below hbc ?_ ?_) | (with_reducible refine keep_drewN ?_) | (with_reducible refine keep_drew ?_) | (with_reducible refine keep_alloc ?_) | (with_reducible refine lt_below hbc ?_) | (with_reducible refine ne_below hbc ?_) | (with_reducible refine SSl.keep ?_ hbc) | (with_reducible refine ssl_al ?_ _) | (with_reducible refine ssl_dr ?_) | (with_reducible refine ssl_drN ?_ _) | (with_reducible refine Code8.below hbc ?_ ?_) | (with_reducible refine Code8.alloc ?_ _) | (with_reducible refine Code8.drew ?_) | (with_reducible refine Code8.drewN ?_ _) | (with_reducible refine below_size hbc ?_) | (first | omega | (simp; done) | (simp; omega))))); done)
  clear hbc hB hZ hC qf_0 qf_1 qf_2 lt_f nt_f qg_0 qg_1 qg_2 lt_g nt_g qk_0 qk_1 qk_2 lt_k nt_k
  rintro ⟨hB, hZ, hC, ⟨qf_0, qf_1, qf_2⟩, lt_f, nt_f, ⟨qg_0, qg_1, qg_2⟩, lt_g, nt_g, ⟨qo_0, qo_1, qo_2, qo_3, qo_4, qo_5, qo_6, qo_7, qo_8⟩, lt_o, nt_o⟩
  go_wp2
  go_returns
  refine ⟨rfl, ?_⟩
  (focus ((repeat' (with_reducible apply And.intro)) <;> (repeat' (first | (with_reducible assumption) | (with_reducible refine below_chain hbc ?_) | (with_reducible refine below_al ?_ _) | (with_reducible refine below_dr ?_) | (with_reducible refine below_drewN' ?_ _) | ((with_reducible refine new_cell ?_ ?_); (focus (first | omega | (simp; done) | (simp; omega))); (focus rfl)) | (with_reducible refine keep_below hbc ?_ ?_) | (with_reducible refine keep_drewN ?_) | (with_reducible refine keep_drew ?_) | (with_reducible refine keep_alloc ?_) | (with_reducible refine lt_below hbc ?_) | (with_reducible refine ne_below hbc ?_) | (with_reducible refine SSl.keep ?_ hbc) | (with_reducible refine ssl_al ?_ _) | (with_reducible refine ssl_dr ?_) | (with_reducible refine ssl_drN ?_ _) | (with_reducible refine Code8.below hbc ?_ ?_) | (with_reducible refine Code8.alloc ?_ _) | (with_reducible refine Code8.drew ?_) | (with_reducible refine Code8.drewN ?_ _) | (with_reducible refine below_size hbc ?_) | (first | omega | (simp; done) | (simp; omega))))); done)
noncomputable def headFnRunsB : Code := seqHead ((Try.f4.body.bind (codeFrom 28)).getD .skip)
noncomputable def tailFnRunsB : Code := seqTail ((Try.f4.body.bind (codeFrom 28)).getD .skip)
set_option maxRecDepth 1000000 in
theorem FnRunsB (A : Option Addr) (n c : Nat) (w wc : World) {K : Act → World → Prop} (u1_ u2_ u3_ u4_ u5_ u6_ u7_ u8_ u9_ u10_ u11_ u12_ u13_ u14_ u15_ u16_ u17_ u18_ u19_ u20_ u21_ u22_ u23_ u24_ u25_ u26_ u27_ u28_ u29_ u30_ u31_ u32_ u33_ u34_ u35_ u36_ u37_ u38_ u39_ u40_ u41_ u42_ u43_ u44_ u45_ u46_ u47_ u48_ u49_ u50_ u51_ u52_ u53_ u54_ u55_ u56_ u57_ u58_ u59_ u60_ u61_ u62_ u63_ u64_ u65_ u66_ u67_ u68_ u69_ u70_ u71_ u72_ u73_ u74_ u75_ u76_ u77_ u78_ u79_ u80_ u81_ u82_ u83_ u84_ u85_ u86_ u87_ u88_ u89_ u90_ u91_ u92_ u93_ u94_ u95_ u96_ u97_ u98_ u99_ u100_ u101_ u102_ u103_ u104_ u105_ u106_ u107_ u108_ u109_ u110_ u111_ u112_ u113_ u114_ u115_ u116_ u117_ u118_ u119_ u120_ u121_ u122_ u123_ u124_ u125_ u126_ u127_ u128_ u129_ u130_ u131_ u132_ u133_ u134_ u135_ u136_ u137_ u138_ u139_ u140_ u141_ u142_ u143_ u144_ u145_ u146_ u147_ u148_ u149_ u150_ u151_ u152_ u153_ u154_ u155_ u156_ u157_ u158_ u159_ u160_ u161_ u162_ u163_ u164_ u165_ u166_ u167_ u168_ u169_ u170_ u171_ u172_ u173_ u174_ u175_ u176_ u177_ u178_ u179_ u180_ u181_ u182_ u183_ u184_ u185_ u186_ u187_ u188_ u189_ u190_ u191_ u192_ u193_ u194_ u195_ u196_ u197_ u198_ u199_ u200_ u201_ u202_ u203_ u204_ u205_ u206_ u207_ u208_ u209_ u210_ u211_ u212_ u213_ u214_ u215_ u216_ u217_ u218_ u219_ u220_ u221_ u222_ u223_ u224_ u225_ u226_ u227_ u228_ u229_ u230_ u231_ u232_ u233_ u234_ u235_ u236_ u237_ u238_ u239_ u240_ u241_ u242_ u243_ u244_ u245_ u246_ u247_ u248_ u249_ u250_ u251_ u252_ u253_ u254_ u255_ u256_ u257_ u258_ u259_ u260_ u261_ u262_ u263_ u264_ u265_ u266_ u267_ u268_ u269_ u270_ u271_ u272_ u273_ u274_ u275_ u276_ u277_ u278_ u279_ u280_ u281_ u282_ u283_ u284_ u285_ u286_ u287_ u288_ u289_ u290_ u291_ u292_ u293_ u294_ u295_ u296_ u297_ u298_ u299_ u300_ u301_ u302_ u303_ u304_ u305_ u306_ u307_ u308_ u309_ u310_ u311_ u312_ u313_ u314_ u315_ u316_ u317_ u318_ u319_ u320_ u321_ u322_ u323_ u324_ u325_ u326_ u327_ u328_ u329_ u330_ u331_ u332_ u333_ u334_ u335_ u336_ u337_ u338_ u339_ u340_ u341_ u342_ u343_ u344_ u345_ u346_ u347_ u348_ u349_ u350_ u351_ u352_ u353_ u354_ u355_ u356_ u357_ u358_ u359_ : Value) (hB : Below w.heap.size w wc) (hZ : w.heap.size ≤ wc.heap.size) (hC : Code8 w.heap.size wc A n)
    (hK : ∀ a w1, Code.wp Try.prog tailFnRunsB (bodyPost Try.prog Try.f4 fun e w' => e = .returned (.bool true) ∧ Below w.heap.size w w') a w1 → K a w1) :
    Code.wp Try.prog headFnRunsB (Exit.then K (bodyPost Try.prog Try.f4 fun e w' => e = .returned (.bool true) ∧ Below w.heap.size w w')) ⟨#[(.slice A n c), u1_, u2_, u3_, u4_, u5_, u6_, u7_, u8_, u9_, u10_, u11_, u12_, u13_, u14_, u15_, u16_, u17_, u18_, u19_, u20_, u21_, u22_, u23_, u24_, u25_, u26_, u27_, u28_, u29_, u30_, u31_, u32_, u33_, u34_, u35_, u36_, u37_, u38_, u39_, u40_, u41_, u42_, u43_, u44_, u45_, u46_, u47_, u48_, u49_, u50_, u51_, u52_, u53_, u54_, u55_, u56_, u57_, u58_, u59_, u60_, u61_, u62_, u63_, u64_, u65_, u66_, u67_, u68_, u69_, u70_, u71_, u72_, u73_, u74_, u75_, u76_, u77_, u78_, u79_, u80_, u81_, u82_, u83_, u84_, u85_, u86_, u87_, u88_, u89_, u90_, u91_, u92_, u93_, u94_, u95_, u96_, u97_, u98_, u99_, u100_, u101_, u102_, u103_, u104_, u105_, u106_, u107_, u108_, u109_, u110_, u111_, u112_, u113_, u114_, u115_, u116_, u117_, u118_, u119_, u120_, u121_, u122_, u123_, u124_, u125_, u126_, u127_, u128_, u129_, u130_, u131_, u132_, u133_, u134_, u135_, u136_, u137_, u138_, u139_, u140_, u141_, u142_, u143_, u144_, u145_, u146_, u147_, u148_, u149_, u150_, u151_, u152_, u153_, u154_, u155_, u156_, u157_, u158_, u159_, u160_, u161_, u162_, u163_, u164_, u165_, u166_, u167_, u168_, u169_, u170_, u171_, u172_, u173_, u174_, u175_, u176_, u177_, u178_, u179_, u180_, u181_, u182_, u183_, u184_, u185_, u186_, u187_, u188_, u189_, u190_, u191_, u192_, u193_, u194_, u195_, u196_, u197_, u198_, u199_, u200_, u201_, u202_, u203_, u204_, u205_, u206_, u207_, u208_, u209_, u210_, u211_, u212_, u213_, u214_, u215_, u216_, u217_, u218_, u219_, u220_, u221_, u222_, u223_, u224_, u225_, u226_, u227_, u228_, u229_, u230_, u231_, u232_, u233_, u234_, u235_, u236_, u237_, u238_, u239_, u240_, u241_, u242_, u243_, u244_, u245_, u246_, u247_, u248_, u249_, u250_, u251_, u252_, u253_, u254_, u255_, u256_, u257_, u258_, u259_, u260_, u261_, u262_, u263_, u264_, u265_, u266_, u267_, u268_, u269_, u270_, u271_, u272_, u273_, u274_, u275_, u276_, u277_, u278_, u279_, u280_, u281_, u282_, u283_, u284_, u285_, u286_, u287_, u288_, u289_, u290_, u291_, u292_, u293_, u294_, u295_, u296_, u297_, u298_, u299_, u300_, u301_, u302_, u303_, u304_, u305_, u306_, u307_, u308_, u309_, u310_, u311_, u312_, u313_, u314_, u315_, u316_, u317_, u318_, u319_, u320_, u321_, u322_, u323_, u324_, u325_, u326_, u327_, u328_, u329_, u330_, u331_, u332_, u333_, u334_, u335_, u336_, u337_, u338_, u339_, u340_, u341_, u342_, u343_, u344_, u345_, u346_, u347_, u348_, u349_, u350_, u351_, u352_, u353_, u354_, u355_, u356_, u357_, u358_, u359_], []⟩ wc := by
  have hqn := neqTriple_run
  have hqe := eqlTriple_run
  have hq9 := eqlSquare_run
  conv at hK => ext a1 w1; arg 1; arg 2; whnf
  conv => arg 2; whnf
  go_wp2_with fail
  with_reducible refine (DrawStepTriple_any w.heap.size A n c _ ?_ ?_).mono ?_
  · (focus ((repeat' (with_reducible apply And.intro)) <;> (repeat' (first | (with_reducible assumption) | (with_reducible refine below_chain hbc ?_) | (with_reducible refine below_al ?_ _) | (with_reducible refine below_dr ?_) | (with_reducible refine below_drewN' ?_ _) | ((with_reducible refine new_cell ?_ ?_); (focus (first | omega | (simp; done) | (simp; omega))); (focus rfl)) | (with_reducible refine keep_below hbc ?_ ?_) | (with_reducible refine keep_drewN ?_) | (with_reducible refine keep_drew ?_) | (with_reducible refine keep_alloc ?_) | (with_reducible refine lt_below hbc ?_) | (with_reducible refine ne_below hbc ?_) | (with_reducible refine SSl.keep ?_ hbc) | (with_reducible refine ssl_al ?_ _) | (with_reducible refine ssl_dr ?_) | (with_reducible refine ssl_drN ?_ _) | (with_reducible refine Code8.below hbc ?_ ?_) | (with_reducible refine Code8.alloc ?_ _) | (with_reducible refine Code8.drew ?_) | (with_reducible refine Code8.drewN ?_ _) | (with_reducible refine below_size hbc ?_) | (first | omega | (simp; done) | (simp; omega))))); done)
  · (focus ((repeat' (with_reducible apply And.intro)) <;> (repeat' (first | (with_reducible assumption) | (with_reducible refine below_chain hbc ?_) | (with_reducible refine below_al ?_ _) | (with_reducible refine below_dr ?_) | (with_reducible refine below_drewN' ?_ _) | ((with_reducible refine new_cell ?_ ?_); (focus (first | omega | (simp; done) | (simp; omega))); (focus rfl)) | (with_reducible refine keep_below hbc ?_ ?_) | (with_reducible refine keep_drewN ?_) | (with_reducible refine keep_drew ?_) | (with_reducible refine keep_alloc ?_) | (with_reducible refine lt_below hbc ?_) | (with_reducible refine ne_below hbc ?_) | (with_reducible refine SSl.keep ?_ hbc) | (with_reducible refine ssl_al ?_ _) | (with_reducible refine ssl_dr ?_) | (with_reducible refine ssl_drN ?_ _) | (with_reducible refine Code8.below hbc ?_ ?_) | (with_reducible refine Code8.alloc ?_ _) | (with_reducible refine Code8.drew ?_) | (with_reducible refine Code8.drewN ?_ _) | (with_reducible refine below_size hbc ?_) | (first | omega | (simp; done) | (simp; omega))))); done)
  rintro e x1 ⟨⟨u1, u2, u3, us, rfl⟩, hbc⟩
  refine gcut (p := Below w.heap.size w x1 ∧ w.heap.size ≤ x1.heap.size ∧ Code8 w.heap.size x1 A n) ?_ ?_
  · (focus ((repeat' (with_reducible apply And.intro)) <;> (repeat' (first | (with_reducible assumption) | (with_reducible refine below_chain hbc ?_) | (with_reducible refine below_al ?_ _) | (with_reducible refine below_dr ?_) | (with_reducible refine below_drewN' ?_ _) | ((with_reducible refine new_cell ?_ ?_); (focus (first | omega | (simp; done) | (simp; omega))); (focus rfl)) | (with_reducible refine keep_below hbc ?_ ?_) | (with_reducible refine keep_drewN ?_) | (with_reducible refine keep_drew ?_) | (with_reducible refine keep_alloc ?_) | (with_reducible refine lt_below hbc ?_) | (with_reducible refine ne_below hbc ?_) | (with_reducible refine SSl.keep ?_ hbc) | (with_reducible refine ssl_al ?_ _) | (with_reducible refine ssl_dr ?_) | (with_reducible refine ssl_drN ?_ _) | (with_reducible refine Code8.below hbc ?_ ?_) | (with_reducible refine Code8.alloc ?_ _) | (with_reducible refine Code8.drew ?_) | (with_reducible refine Code8.drewN ?_ _) | (with_reducible refine below_size hbc ?_) | (first | omega | (simp; done) | (simp; omega))))); done)
  clear hbc hB hZ hC
  rintro ⟨hB, hZ, hC⟩
  have hsi := fun W => implStep_any u1 u2 u3 us W
  have hss := fun W => specStep_any u1 u2 u3 us W
  obtain ⟨⟨d1, d2, d3, dc⟩, hS⟩ : ∃ R, stepR u1 u2 u3 us = R := ⟨_, rfl⟩
  rw [hS] at hsi hss
  try dsimp only at hsi hss
  have Hsi := Lib.hid hsi
  have Hss := Lib.hid hss
  have HS := Lib.hid hS
  clear hsi hss hS
  go_wp2_with fail
  with_reducible refine (Hsi.out _).mono ?_
  rintro e x2 ⟨rfl, hbc⟩
  refine gcut (p := Below w.heap.size w x2 ∧ w.heap.size ≤ x2.heap.size ∧ Code8 w.heap.size x2 A n ∧ (x2.cell? ⟨x1.heap.size, 0, none⟩ = some (.int .i64 u1) ∧ x2.cell? ⟨x1.heap.size, 1, none⟩ = some (.int .i64 u2) ∧ x2.cell? ⟨x1.heap.size, 2, none⟩ = some (.int .i64 u3)) ∧ x1.heap.size < x2.heap.size ∧ ¬ x2.heap.size = x1.heap.size) ?_ ?_
  · (focus ((repeat' (with_reducible apply And.intro)) <;> (repeat' (first | (with_reducible assumption) | (with_reducible refine below_chain hbc ?_) | (with_reducible refine below_al ?_ _) | (with_reducible refine below_dr ?_) | (with_reducible refine below_drewN' ?_ _) | ((with_reducible refine new_cell ?_ ?_); (focus (first | omega | (simp; done) | (simp; omega))); (focus rfl)) | (with_reducible refine keep_below hbc ?_ ?_) | (with_reducible refine keep_drewN ?_) | (with_reducible refine keep_drew ?_) | (with_reducible refine keep_alloc ?_) | (with_reducible refine lt_below hbc ?_) | (with_reducible refine ne_below hbc ?_) | (with_reducible refine SSl.keep ?_ hbc) | (with_reducible refine ssl_al ?_ _) | (with_reducible refine ssl_dr ?_) | (with_reducible refine ssl_drN ?_ _) | (with_reducible refine Code8.below hbc ?_ ?_) | (with_reducible refine Code8.alloc ?_ _) | (with_reducible refine Code8.drew ?_) | (with_reducible refine Code8.drewN ?_ _) | (with_reducible refine below_size hbc ?_) | (first | omega | (simp; done) | (simp; omega))))); done)
  clear hbc hB hZ hC
  rintro ⟨hB, hZ, hC, ⟨qa_0, qa_1, qa_2⟩, lt_a, nt_a⟩
  go_wp2_with fail
  with_reducible refine (Hss.out _).mono ?_
  rintro e x3 ⟨rfl, hbc⟩
  refine gcut (p := Below w.heap.size w x3 ∧ w.heap.size ≤ x3.heap.size ∧ Code8 w.heap.size x3 A n ∧ (x3.cell? ⟨x1.heap.size, 0, none⟩ = some (.int .i64 u1) ∧ x3.cell? ⟨x1.heap.size, 1, none⟩ = some (.int .i64 u2) ∧ x3.cell? ⟨x1.heap.size, 2, none⟩ = some (.int .i64 u3)) ∧ x1.heap.size < x3.heap.size ∧ ¬ x3.heap.size = x1.heap.size ∧ (x3.cell? ⟨x2.heap.size, 0, none⟩ = some (.int .i64 d1) ∧ x3.cell? ⟨x2.heap.size, 1, none⟩ = some (.int .i64 d2) ∧ x3.cell? ⟨x2.heap.size, 2, none⟩ = some (.int .i64 d3)) ∧ x2.heap.size < x3.heap.size ∧ ¬ x3.heap.size = x2.heap.size) ?_ ?_
  · (focus ((repeat' (with_reducible apply And.intro)) <;> (repeat' (first | (with_reducible assumption) | (with_reducible refine below_chain hbc ?_) | (with_reducible refine below_al ?_ _) | (with_reducible refine below_dr ?_) | (with_reducible refine below_drewN' ?_ _) | ((with_reducible refine new_cell ?_ ?_); (focus (first | omega | (simp; done) | (simp; omega))); (focus rfl)) | (with_reducible refine keep_below hbc ?_ ?_) | (with_reducible refine keep_drewN ?_) | (with_reducible refine keep_drew ?_) | (with_reducible refine keep_alloc ?_) | (with_reducible refine lt_below hbc ?_) | (with_reducible refine ne_below hbc ?_) | (with_reducible refine SSl.keep ?_ hbc) | (with_reducible refine ssl_al ?_ _) | (with_reducible refine ssl_dr ?_) | (with_reducible refine ssl_drN ?_ _) | (with_reducible refine Code8.below hbc ?_ ?_) | (with_reducible refine Code8.alloc ?_ _) | (with_reducible refine Code8.drew ?_) | (with_reducible refine Code8.drewN ?_ _) | (with_reducible refine below_size hbc ?_) | (first | omega | (simp; done) | (simp; omega))))); done)
  clear hbc hB hZ hC qa_0 qa_1 qa_2 lt_a nt_a
  rintro ⟨hB, hZ, hC, ⟨qa_0, qa_1, qa_2⟩, lt_a, nt_a, ⟨qb_0, qb_1, qb_2⟩, lt_b, nt_b⟩
  go_wp2_with fail
  with_reducible refine (DrawLengthOfRun_any w.heap.size A n c _ ?_ ?_).mono ?_
  · (focus ((repeat' (with_reducible apply And.intro)) <;> (repeat' (first | (with_reducible assumption) | (with_reducible refine below_chain hbc ?_) | (with_reducible refine below_al ?_ _) | (with_reducible refine below_dr ?_) | (with_reducible refine below_drewN' ?_ _) | ((with_reducible refine new_cell ?_ ?_); (focus (first | omega | (simp; done) | (simp; omega))); (focus rfl)) | (with_reducible refine keep_below hbc ?_ ?_) | (with_reducible refine keep_drewN ?_) | (with_reducible refine keep_drew ?_) | (with_reducible refine keep_alloc ?_) | (with_reducible refine lt_below hbc ?_) | (with_reducible refine ne_below hbc ?_) | (with_reducible refine SSl.keep ?_ hbc) | (with_reducible refine ssl_al ?_ _) | (with_reducible refine ssl_dr ?_) | (with_reducible refine ssl_drN ?_ _) | (with_reducible refine Code8.below hbc ?_ ?_) | (with_reducible refine Code8.alloc ?_ _) | (with_reducible refine Code8.drew ?_) | (with_reducible refine Code8.drewN ?_ _) | (with_reducible refine below_size hbc ?_) | (first | omega | (simp; done) | (simp; omega))))); done)
  · (focus ((repeat' (with_reducible apply And.intro)) <;> (repeat' (first | (with_reducible assumption) | (with_reducible refine below_chain hbc ?_) | (with_reducible refine below_al ?_ _) | (with_reducible refine below_dr ?_) | (with_reducible refine below_drewN' ?_ _) | ((with_reducible refine new_cell ?_ ?_); (focus (first | omega | (simp; done) | (simp; omega))); (focus rfl)) | (with_reducible refine keep_below hbc ?_ ?_) | (with_reducible refine keep_drewN ?_) | (with_reducible refine keep_drew ?_) | (with_reducible refine keep_alloc ?_) | (with_reducible refine lt_below hbc ?_) | (with_reducible refine ne_below hbc ?_) | (with_reducible refine SSl.keep ?_ hbc) | (with_reducible refine ssl_al ?_ _) | (with_reducible refine ssl_dr ?_) | (with_reducible refine ssl_drN ?_ _) | (with_reducible refine Code8.below hbc ?_ ?_) | (with_reducible refine Code8.alloc ?_ _) | (with_reducible refine Code8.drew ?_) | (with_reducible refine Code8.drewN ?_ _) | (with_reducible refine below_size hbc ?_) | (first | omega | (simp; done) | (simp; omega))))); done)
  rintro e x4 ⟨⟨v1, v2, v3, vo, rfl⟩, hbc⟩
  refine gcut (p := Below w.heap.size w x4 ∧ w.heap.size ≤ x4.heap.size ∧ Code8 w.heap.size x4 A n ∧ (x4.cell? ⟨x2.heap.size, 0, none⟩ = some (.int .i64 d1) ∧ x4.cell? ⟨x2.heap.size, 1, none⟩ = some (.int .i64 d2) ∧ x4.cell? ⟨x2.heap.size, 2, none⟩ = some (.int .i64 d3)) ∧ x2.heap.size < x4.heap.size ∧ ¬ x4.heap.size = x2.heap.size ∧ (x4.cell? ⟨x3.heap.size, 0, none⟩ = some (.int .i64 d1) ∧ x4.cell? ⟨x3.heap.size, 1, none⟩ = some (.int .i64 d2) ∧ x4.cell? ⟨x3.heap.size, 2, none⟩ = some (.int .i64 d3)) ∧ x3.heap.size < x4.heap.size ∧ ¬ x4.heap.size = x3.heap.size) ?_ ?_
  · (focus ((repeat' (with_reducible apply And.intro)) <;> (repeat' (first | (with_reducible assumption) | (with_reducible refine below_chain hbc ?_) | (with_reducible refine below_al ?_ _) | (with_reducible refine below_dr ?_) | (with_reducible refine below_drewN' ?_ _) | ((with_reducible refine new_cell ?_ ?_); (focus (first | omega | (simp; done) | (simp; omega))); (focus rfl)) | (with_reducible refine keep_below hbc ?_ ?_) | (with_reducible refine keep_drewN ?_) | (with_reducible refine keep_drew ?_) | (with_reducible refine keep_alloc ?_) | (with_reducible refine lt_below hbc ?_) | (with_reducible refine ne_below hbc ?_) | (with_reducible refine SSl.keep ?_ hbc) | (with_reducible refine ssl_al ?_ _) | (with_reducible refine ssl_dr ?_) | (with_reducible refine ssl_drN ?_ _) | (with_reducible refine Code8.below hbc ?_ ?_) | (with_reducible refine Code8.alloc ?_ _) | (with_reducible refine Code8.drew ?_) | (with_reducible refine Code8.drewN ?_ _) | (with_reducible refine below_size hbc ?_) | (first | omega | (simp; done) | (simp; omega))))); done)
  clear hbc hB hZ hC qa_0 qa_1 qa_2 lt_a nt_a qb_0 qb_1 qb_2 lt_b nt_b
  rintro ⟨hB, hZ, hC, ⟨qb_0, qb_1, qb_2⟩, lt_b, nt_b, ⟨qd_0, qd_1, qd_2⟩, lt_d, nt_d⟩
  have hlb := lenRun_bd v1 v2 v3 vo
  have hlj := fun W => implLenRun_any v1 v2 v3 vo W
  have hls := fun W => specLenRun_any v1 v2 v3 vo W
  obtain ⟨⟨lv, lvc⟩, hL⟩ : ∃ R, lenRun v1 v2 v3 vo = R := ⟨_, rfl⟩
  rw [hL] at hlj hls
  try dsimp only at hlj hls
  have Hlj := Lib.hid hlj
  have Hls := Lib.hid hls
  have HL := Lib.hid hL
  clear hlj hls hL
  rw [HL.out] at hlb
  dsimp only at hlb
  have hlw : wrap64 (lv - 1) = lv - 1 := by unfold wrap64; omega
  clear hlb
  go_wp2_with fail
  with_reducible refine (Hlj.out _).mono ?_
  rintro e x5 ⟨rfl, hbc⟩
  refine gcut (p := Below w.heap.size w x5 ∧ w.heap.size ≤ x5.heap.size ∧ Code8 w.heap.size x5 A n ∧ (x5.cell? ⟨x2.heap.size, 0, none⟩ = some (.int .i64 d1) ∧ x5.cell? ⟨x2.heap.size, 1, none⟩ = some (.int .i64 d2) ∧ x5.cell? ⟨x2.heap.size, 2, none⟩ = some (.int .i64 d3)) ∧ x2.heap.size < x5.heap.size ∧ ¬ x5.heap.size = x2.heap.size ∧ (x5.cell? ⟨x3.heap.size, 0, none⟩ = some (.int .i64 d1) ∧ x5.cell? ⟨x3.heap.size, 1, none⟩ = some (.int .i64 d2) ∧ x5.cell? ⟨x3.heap.size, 2, none⟩ = some (.int .i64 d3)) ∧ x3.heap.size < x5.heap.size ∧ ¬ x5.heap.size = x3.heap.size ∧ (x5.cell? ⟨x4.heap.size, 0, none⟩ = some (.int .i64 v1) ∧ x5.cell? ⟨x4.heap.size, 1, none⟩ = some (.int .i64 v2) ∧ x5.cell? ⟨x4.heap.size, 2, none⟩ = some (.int .i64 v3)) ∧ x4.heap.size < x5.heap.size ∧ ¬ x5.heap.size = x4.heap.size) ?_ ?_
  · (focus ((repeat' (with_reducible apply And.intro)) <;> (repeat' (first | (with_reducible assumption) | (with_reducible refine below_chain hbc ?_) | (with_reducible refine below_al ?_ _) | (with_reducible refine below_dr ?_) | (with_reducible refine below_drewN' ?_ _) | ((with_reducible refine new_cell ?_ ?_); (focus (first | omega | (simp; done) | (simp; omega))); (focus rfl)) | (with_reducible refine keep_below hbc ?_ ?_) | (with_reducible refine keep_drewN ?_) | (with_reducible refine keep_drew ?_) | (with_reducible refine keep_alloc ?_) | (with_reducible refine lt_below hbc ?_) | (with_reducible refine ne_below hbc ?_) | (with_reducible refine SSl.keep ?_ hbc) | (with_reducible refine ssl_al ?_ _) | (with_reducible refine ssl_dr ?_) | (with_reducible refine ssl_drN ?_ _) | (with_reducible refine Code8.below hbc ?_ ?_) | (with_reducible refine Code8.alloc ?_ _) | (with_reducible refine Code8.drew ?_) | (with_reducible refine Code8.drewN ?_ _) | (with_reducible refine below_size hbc ?_) | (first | omega | (simp; done) | (simp; omega))))); done)
  clear hbc hB hZ hC qb_0 qb_1 qb_2 lt_b nt_b qd_0 qd_1 qd_2 lt_d nt_d
  rintro ⟨hB, hZ, hC, ⟨qb_0, qb_1, qb_2⟩, lt_b, nt_b, ⟨qd_0, qd_1, qd_2⟩, lt_d, nt_d, ⟨qv_0, qv_1, qv_2⟩, lt_v, nt_v⟩
  go_wp2_with fail
  with_reducible refine (Hls.out _).mono ?_
  rintro e x6 ⟨rfl, hbc⟩
  refine gcut (p := Below w.heap.size w x6 ∧ w.heap.size ≤ x6.heap.size ∧ Code8 w.heap.size x6 A n ∧ (x6.cell? ⟨x2.heap.size, 0, none⟩ = some (.int .i64 d1) ∧ x6.cell? ⟨x2.heap.size, 1, none⟩ = some (.int .i64 d2) ∧ x6.cell? ⟨x2.heap.size, 2, none⟩ = some (.int .i64 d3)) ∧ x2.heap.size < x6.heap.size ∧ ¬ x6.heap.size = x2.heap.size ∧ (x6.cell? ⟨x3.heap.size, 0, none⟩ = some (.int .i64 d1) ∧ x6.cell? ⟨x3.heap.size, 1, none⟩ = some (.int .i64 d2) ∧ x6.cell? ⟨x3.heap.size, 2, none⟩ = some (.int .i64 d3)) ∧ x3.heap.size < x6.heap.size ∧ ¬ x6.heap.size = x3.heap.size ∧ (x6.cell? ⟨x4.heap.size, 0, none⟩ = some (.int .i64 v1) ∧ x6.cell? ⟨x4.heap.size, 1, none⟩ = some (.int .i64 v2) ∧ x6.cell? ⟨x4.heap.size, 2, none⟩ = some (.int .i64 v3)) ∧ x4.heap.size < x6.heap.size ∧ ¬ x6.heap.size = x4.heap.size) ?_ ?_
  · (focus ((repeat' (with_reducible apply And.intro)) <;> (repeat' (first | (with_reducible assumption) | (with_reducible refine below_chain hbc ?_) | (with_reducible refine below_al ?_ _) | (with_reducible refine below_dr ?_) | (with_reducible refine below_drewN' ?_ _) | ((with_reducible refine new_cell ?_ ?_); (focus (first | omega | (simp; done) | (simp; omega))); (focus rfl)) | (with_reducible refine keep_below hbc ?_ ?_) | (with_reducible refine keep_drewN ?_) | (with_reducible refine keep_drew ?_) | (with_reducible refine keep_alloc ?_) | (with_reducible refine lt_below hbc ?_) | (with_reducible refine ne_below hbc ?_) | (with_reducible refine SSl.keep ?_ hbc) | (with_reducible refine ssl_al ?_ _) | (with_reducible refine ssl_dr ?_) | (with_reducible refine ssl_drN ?_ _) | (with_reducible refine Code8.below hbc ?_ ?_) | (with_reducible refine Code8.alloc ?_ _) | (with_reducible refine Code8.drew ?_) | (with_reducible refine Code8.drewN ?_ _) | (with_reducible refine below_size hbc ?_) | (first | omega | (simp; done) | (simp; omega))))); done)
  clear hbc hB hZ hC qb_0 qb_1 qb_2 lt_b nt_b qd_0 qd_1 qd_2 lt_d nt_d qv_0 qv_1 qv_2 lt_v nt_v
  rintro ⟨hB, hZ, hC, ⟨qb_0, qb_1, qb_2⟩, lt_b, nt_b, ⟨qd_0, qd_1, qd_2⟩, lt_d, nt_d, ⟨qv_0, qv_1, qv_2⟩, lt_v, nt_v⟩
  by_cases hcnd : lvc = 0 ∧ 0 < lv
  · obtain ⟨hc0, hc1⟩ := hcnd
    subst hc0
    have hc2 : lv > 0 := hc1
    have hsp := step_pack (a := v1) (b := v2) (c := v3) (rule := vo)
    rw [HL.out] at hsp
    obtain ⟨hs1, hs2, hs3⟩ := hsp rfl hc1
    dsimp only at hs3
    have hsi := fun W => implStep_any v1 v2 v3 vo W
    obtain ⟨⟨s1, s2, s3, sc⟩, hS⟩ : ∃ R, stepR v1 v2 v3 vo = R := ⟨_, rfl⟩
    rw [hS] at hsi hs1 hs2 hs3
    dsimp only at hsi hs1 hs2 hs3
    subst hs1
    have hlk := fun W => implLenRun_any s1 s2 s3 vo W
    rw [hs2, hs3] at hlk
    have HSI := Lib.hid hsi
    have HLK := Lib.hid hlk
    clear hsi hlk hS hsp hs2 hs3
    go_wp2_with fail
    with_reducible refine (HSI.out _).mono ?_
    rintro e x7 ⟨rfl, hbc⟩
    refine gcut (p := Below w.heap.size w x7 ∧ w.heap.size ≤ x7.heap.size ∧ Code8 w.heap.size x7 A n ∧ (x7.cell? ⟨x2.heap.size, 0, none⟩ = some (.int .i64 d1) ∧ x7.cell? ⟨x2.heap.size, 1, none⟩ = some (.int .i64 d2) ∧ x7.cell? ⟨x2.heap.size, 2, none⟩ = some (.int .i64 d3)) ∧ x2.heap.size < x7.heap.size ∧ ¬ x7.heap.size = x2.heap.size ∧ (x7.cell? ⟨x3.heap.size, 0, none⟩ = some (.int .i64 d1) ∧ x7.cell? ⟨x3.heap.size, 1, none⟩ = some (.int .i64 d2) ∧ x7.cell? ⟨x3.heap.size, 2, none⟩ = some (.int .i64 d3)) ∧ x3.heap.size < x7.heap.size ∧ ¬ x7.heap.size = x3.heap.size ∧ (x7.cell? ⟨x4.heap.size, 0, none⟩ = some (.int .i64 v1) ∧ x7.cell? ⟨x4.heap.size, 1, none⟩ = some (.int .i64 v2) ∧ x7.cell? ⟨x4.heap.size, 2, none⟩ = some (.int .i64 v3)) ∧ x4.heap.size < x7.heap.size ∧ ¬ x7.heap.size = x4.heap.size) ?_ ?_
    · (focus ((repeat' (with_reducible apply And.intro)) <;> (repeat' (first | (with_reducible assumption) | (with_reducible refine below_chain hbc ?_) | (with_reducible refine below_al ?_ _) | (with_reducible refine below_dr ?_) | (with_reducible refine below_drewN' ?_ _) | ((with_reducible refine new_cell ?_ ?_); (focus (first | omega | (simp; done) | (simp; omega))); (focus rfl)) | (with_reducible refine keep_below hbc ?_ ?_) | (with_reducible refine keep_drewN ?_) | (with_reducible refine keep_drew ?_) | (with_reducible refine keep_alloc ?_) | (with_reducible refine lt_below hbc ?_) | (with_reducible refine ne_below hbc ?_) | (with_reducible refine SSl.keep ?_ hbc) | (with_reducible refine ssl_al ?_ _) | (with_reducible refine ssl_dr ?_) | (with_reducible refine ssl_drN ?_ _) | (with_reducible refine Code8.below hbc ?_ ?_) | (with_reducible refine Code8.alloc ?_ _) | (with_reducible refine Code8.drew ?_) | (with_reducible refine Code8.drewN ?_ _) | (with_reducible refine below_size hbc ?_) | (first | omega | (simp; done) | (simp; omega))))); done)
    clear hbc hB hZ hC qb_0 qb_1 qb_2 lt_b nt_b qd_0 qd_1 qd_2 lt_d nt_d qv_0 qv_1 qv_2 lt_v nt_v
    rintro ⟨hB, hZ, hC, ⟨qb_0, qb_1, qb_2⟩, lt_b, nt_b, ⟨qd_0, qd_1, qd_2⟩, lt_d, nt_d, ⟨qv_0, qv_1, qv_2⟩, lt_v, nt_v⟩
    go_wp2_with fail
    with_reducible refine (HLK.out _).mono ?_
    rintro e x8 ⟨rfl, hbc⟩
    refine gcut (p := Below w.heap.size w x8 ∧ w.heap.size ≤ x8.heap.size ∧ Code8 w.heap.size x8 A n ∧ (x8.cell? ⟨x2.heap.size, 0, none⟩ = some (.int .i64 d1) ∧ x8.cell? ⟨x2.heap.size, 1, none⟩ = some (.int .i64 d2) ∧ x8.cell? ⟨x2.heap.size, 2, none⟩ = some (.int .i64 d3)) ∧ x2.heap.size < x8.heap.size ∧ ¬ x8.heap.size = x2.heap.size ∧ (x8.cell? ⟨x3.heap.size, 0, none⟩ = some (.int .i64 d1) ∧ x8.cell? ⟨x3.heap.size, 1, none⟩ = some (.int .i64 d2) ∧ x8.cell? ⟨x3.heap.size, 2, none⟩ = some (.int .i64 d3)) ∧ x3.heap.size < x8.heap.size ∧ ¬ x8.heap.size = x3.heap.size ∧ (x8.cell? ⟨x7.heap.size, 0, none⟩ = some (.int .i64 s1) ∧ x8.cell? ⟨x7.heap.size, 1, none⟩ = some (.int .i64 s2) ∧ x8.cell? ⟨x7.heap.size, 2, none⟩ = some (.int .i64 s3)) ∧ x7.heap.size < x8.heap.size ∧ ¬ x8.heap.size = x7.heap.size) ?_ ?_
    · (focus ((repeat' (with_reducible apply And.intro)) <;> (repeat' (first | (with_reducible assumption) | (with_reducible refine below_chain hbc ?_) | (with_reducible refine below_al ?_ _) | (with_reducible refine below_dr ?_) | (with_reducible refine below_drewN' ?_ _) | ((with_reducible refine new_cell ?_ ?_); (focus (first | omega | (simp; done) | (simp; omega))); (focus rfl)) | (with_reducible refine keep_below hbc ?_ ?_) | (with_reducible refine keep_drewN ?_) | (with_reducible refine keep_drew ?_) | (with_reducible refine keep_alloc ?_) | (with_reducible refine lt_below hbc ?_) | (with_reducible refine ne_below hbc ?_) | (with_reducible refine SSl.keep ?_ hbc) | (with_reducible refine ssl_al ?_ _) | (with_reducible refine ssl_dr ?_) | (with_reducible refine ssl_drN ?_ _) | (with_reducible refine Code8.below hbc ?_ ?_) | (with_reducible refine Code8.alloc ?_ _) | (with_reducible refine Code8.drew ?_) | (with_reducible refine Code8.drewN ?_ _) | (with_reducible refine below_size hbc ?_) | (first | omega | (simp; done) | (simp; omega))))); done)
    clear hbc hB hZ hC qb_0 qb_1 qb_2 lt_b nt_b qd_0 qd_1 qd_2 lt_d nt_d qv_0 qv_1 qv_2 lt_v nt_v
    rintro ⟨hB, hZ, hC, ⟨qb_0, qb_1, qb_2⟩, lt_b, nt_b, ⟨qd_0, qd_1, qd_2⟩, lt_d, nt_d, ⟨qs_0, qs_1, qs_2⟩, lt_s, nt_s⟩
    go_upto_region 41 with fail
    refine FnRunsC A n c w _ _ _ _ _ _ _ _ _ _ _ _ _ _ _ _ _ _ _ _ _ _ _ _ _ _ _ _ _ _ _ _ _ _ _ _ _ _ _ _ _ _ _ _ _ _ _ _ _ _ _ _ _ _ _ _ _ _ _ _ _ _ _ _ _ _ _ _ _ _ _ _ _ _ _ _ _ _ _ _ _ _ _ _ _ _ _ _ _ _ _ _ _ _ _ _ _ _ _ _ _ _ _ _ _ _ _ _ _ _ _ _ _ _ _ _ _ _ _ _ _ _ _ _ _ _ _ _ _ _ _ _ _ _ _ _ _ _ _ _ _ _ _ _ _ _ _ _ _ _ _ _ _ _ _ _ _ _ _ _ _ _ _ _ _ _ _ _ _ _ _ _ _ _ _ _ _ _ _ _ _ _ _ _ _ _ _ _ _ _ _ _ _ _ _ _ _ _ _ _ _ _ _ _ _ _ _ _ _ _ _ _ _ _ _ _ _ _ _ _ _ _ _ _ _ _ _ _ _ _ _ _ _ _ _ _ _ _ _ _ _ _ _ _ _ _ _ _ _ _ _ _ _ _ _ _ _ _ _ _ _ _ _ _ _ _ _ _ _ _ _ _ _ _ _ _ _ _ _ _ _ _ _ _ _ _ _ _ _ _ _ _ _ _ _ _ _ _ _ _ _ _ _ _ _ _ _ _ _ _ _ _ _ _ _ _ _ _ _ _ _ _ _ _ _ _ _ _ _ _ _ _ _ _ _ _ _ _ _ _ _ _ _ _ _ _ _ _ _ _ _ _ _ _ _ _ _ _ _ _ hB hZ hC ?_
    assumption
  · by_cases hc0 : lvc = 0
    · subst hc0
      have hc1 : ¬ lv > 0 := fun h => hcnd ⟨rfl, h⟩
      go_upto_region 41 with fail
      refine FnRunsC A n c w _ _ _ _ _ _ _ _ _ _ _ _ _ _ _ _ _ _ _ _ _ _ _ _ _ _ _ _ _ _ _ _ _ _ _ _ _ _ _ _ _ _ _ _ _ _ _ _ _ _ _ _ _ _ _ _ _ _ _ _ _ _ _ _ _ _ _ _ _ _ _ _ _ _ _ _ _ _ _ _ _ _ _ _ _ _ _ _ _ _ _ _ _ _ _ _ _ _ _ _ _ _ _ _ _ _ _ _ _ _ _ _ _ _ _ _ _ _ _ _ _ _ _ _ _ _ _ _ _ _ _ _ _ _ _ _ _ _ _ _ _ _ _ _ _ _ _ _ _ _ _ _ _ _ _ _ _ _ _ _ _ _ _ _ _ _ _ _ _ _ _ _ _ _ _ _ _ _ _ _ _ _ _ _ _ _ _ _ _ _ _ _ _ _ _ _ _ _ _ _ _ _ _ _ _ _ _ _ _ _ _ _ _ _ _ _ _ _ _ _ _ _ _ _ _ _ _ _ _ _ _ _ _ _ _ _ _ _ _ _ _ _ _ _ _ _ _ _ _ _ _ _ _ _ _ _ _ _ _ _ _ _ _ _ _ _ _ _ _ _ _ _ _ _ _ _ _ _ _ _ _ _ _ _ _ _ _ _ _ _ _ _ _ _ _ _ _ _ _ _ _ _ _ _ _ _ _ _ _ _ _ _ _ _ _ _ _ _ _ _ _ _ _ _ _ _ _ _ _ _ _ _ _ _ _ _ _ _ _ _ _ _ _ _ _ _ _ _ _ _ _ _ _ _ _ _ _ _ _ _ hB hZ hC ?_
      assumption
    · have hcz : (lvc == 0) = false := by simpa using hc0
      go_upto_region 41 with fail
      refine FnRunsC A n c w _ _ _ _ _ _ _ _ _ _ _ _ _ _ _ _ _ _ _ _ _ _ _ _ _ _ _ _ _ _ _ _ _ _ _ _ _ _ _ _ _ _ _ _ _ _ _ _ _ _ _ _ _ _ _ _ _ _ _ _ _ _ _ _ _ _ _ _ _ _ _ _ _ _ _ _ _ _ _ _ _ _ _ _ _ _ _ _ _ _ _ _ _ _ _ _ _ _ _ _ _ _ _ _ _ _ _ _ _ _ _ _ _ _ _ _ _ _ _ _ _ _ _ _ _ _ _ _ _ _ _ _ _ _ _ _ _ _ _ _ _ _ _ _ _ _ _ _ _ _ _ _ _ _ _ _ _ _ _ _ _ _ _ _ _ _ _ _ _ _ _ _ _ _ _ _ _ _ _ _ _ _ _ _ _ _ _ _ _ _ _ _ _ _ _ _ _ _ _ _ _ _ _ _ _ _ _ _ _ _ _ _ _ _ _ _ _ _ _ _ _ _ _ _ _ _ _ _ _ _ _ _ _ _ _ _ _ _ _ _ _ _ _ _ _ _ _ _ _ _ _ _ _ _ _ _ _ _ _ _ _ _ _ _ _ _ _ _ _ _ _ _ _ _ _ _ _ _ _ _ _ _ _ _ _ _ _ _ _ _ _ _ _ _ _ _ _ _ _ _ _ _ _ _ _ _ _ _ _ _ _ _ _ _ _ _ _ _ _ _ _ _ _ _ _ _ _ _ _ _ _ _ _ _ _ _ _ _ _ _ _ _ _ _ _ _ _ _ _ _ _ _ _ _ _ _ _ _ _ _ hB hZ hC ?_
      assumption
set_option maxRecDepth 100000 in
theorem FnRuns_walk (A : Option Addr) (n c : Nat) (w : World) (hc : Code8 w.heap.size w A n) : Calls Try.prog 4 #[.slice A n c] w fun e w' => e = .returned (.bool true) ∧ Below w.heap.size w w' := by
  have hqn := neqTriple_run
  have hqe := eqlTriple_run
  have hq9 := eqlSquare_run
  have hB := Below.refl w.heap.size w
  have hZ := Nat.le_refl w.heap.size
  have hC := hc
  clear hc
  obtain ⟨z, hz⟩ : ∃ z, decide ((4096 : Int) < n) = z := ⟨_, rfl⟩
  go_enter Try.func4, Try.ntmps4
  go_wp2_with fail
  with_reducible refine (big_any _ _ _ _ z hz).mono ?_
  rintro e w0 ⟨rfl, rfl⟩
  clear hz
  cases z
  case' true =>
    go_wp2
    go_returns
    exact ⟨rfl, hB⟩
  go_wp2_with fail
  with_reducible refine (DrawRunTriple_any w.heap.size A n c _ hZ hC).mono ?_
  rintro e w1 ⟨⟨a, b, c', r, m, rfl⟩, hbc⟩
  refine gcut (p := Below w.heap.size w w1 ∧ w.heap.size ≤ w1.heap.size ∧ Code8 w.heap.size w1 A n) ?_ ?_
  · (focus ((repeat' (with_reducible apply And.intro)) <;> (repeat' (first | (with_reducible assumption) | (with_reducible refine below_chain hbc ?_) | (with_reducible refine below_al ?_ _) | (with_reducible refine below_dr ?_) | (with_reducible refine below_drewN' ?_ _) | ((with_reducible refine new_cell ?_ ?_); (focus (first | omega | (simp; done) | (simp; omega))); (focus rfl)) | (with_reducible refine keep_below hbc ?_ ?_) | (with_reducible refine keep_drewN ?_) | (with_reducible refine keep_drew ?_) | (with_reducible refine keep_alloc ?_) | (with_reducible refine lt_below hbc ?_) | (with_reducible refine ne_below hbc ?_) | (with_reducible refine SSl.keep ?_ hbc) | (with_reducible refine ssl_al ?_ _) | (with_reducible refine ssl_dr ?_) | (with_reducible refine ssl_drN ?_ _) | (with_reducible refine Code8.below hbc ?_ ?_) | (with_reducible refine Code8.alloc ?_ _) | (with_reducible refine Code8.drew ?_) | (with_reducible refine Code8.drewN ?_ _) | (with_reducible refine below_size hbc ?_) | (first | omega | (simp; done) | (simp; omega))))); done)
  clear hbc hB hZ hC
  rintro ⟨hB, hZ, hC⟩
  have hrl := runR_len a b c' r m
  have hru := fun W => implRun_any a b c' r m W
  have hrs := fun W => specRun_any a b c' r m W
  obtain ⟨⟨xs, rc⟩, hR⟩ : ∃ R, runR a b c' r m = R := ⟨_, rfl⟩
  rw [hR] at hru hrs
  try dsimp only at hru hrs
  have Hru := Lib.hid hru
  have Hrs := Lib.hid hrs
  have HR := Lib.hid hR
  clear hru hrs hR
  rw [HR.out] at hrl
  dsimp only at hrl
  go_wp2_with fail
  with_reducible refine (Hru.out _).mono ?_
  rintro e w2 ⟨⟨A1, c1, rfl, hI1, _⟩, hbc⟩
  refine gcut (p := Below w.heap.size w w2 ∧ w.heap.size ≤ w2.heap.size ∧ Code8 w.heap.size w2 A n ∧ (w2.cell? ⟨w1.heap.size, 0, none⟩ = some (.int .i64 a) ∧ w2.cell? ⟨w1.heap.size, 1, none⟩ = some (.int .i64 b) ∧ w2.cell? ⟨w1.heap.size, 2, none⟩ = some (.int .i64 c')) ∧ w1.heap.size < w2.heap.size ∧ ¬ w2.heap.size = w1.heap.size ∧ SSl w2 A1 xs.length xs) ?_ ?_
  · (focus ((repeat' (with_reducible apply And.intro)) <;> (repeat' (first | (with_reducible assumption) | (with_reducible refine below_chain hbc ?_) | (with_reducible refine below_al ?_ _) | (with_reducible refine below_dr ?_) | (with_reducible refine below_drewN' ?_ _) | ((with_reducible refine new_cell ?_ ?_); (focus (first | omega | (simp; done) | (simp; omega))); (focus rfl)) | (with_reducible refine keep_below hbc ?_ ?_) | (with_reducible refine keep_drewN ?_) | (with_reducible refine keep_drew ?_) | (with_reducible refine keep_alloc ?_) | (with_reducible refine lt_below hbc ?_) | (with_reducible refine ne_below hbc ?_) | (with_reducible refine SSl.keep ?_ hbc) | (with_reducible refine ssl_al ?_ _) | (with_reducible refine ssl_dr ?_) | (with_reducible refine ssl_drN ?_ _) | (with_reducible refine Code8.below hbc ?_ ?_) | (with_reducible refine Code8.alloc ?_ _) | (with_reducible refine Code8.drew ?_) | (with_reducible refine Code8.drewN ?_ _) | (with_reducible refine below_size hbc ?_) | (first | omega | (simp; done) | (simp; omega))))); done)
  clear hbc hB hZ hC hI1
  rintro ⟨hB, hZ, hC, ⟨qt_0, qt_1, qt_2⟩, lt_t, nt_t, hI1⟩
  go_wp2_with fail
  with_reducible refine (Hrs.out _).mono ?_
  rintro e w3 ⟨⟨A2, c2, rfl, hI2, _⟩, hbc⟩
  refine gcut (p := Below w.heap.size w w3 ∧ w.heap.size ≤ w3.heap.size ∧ Code8 w.heap.size w3 A n ∧ (w3.cell? ⟨w1.heap.size, 0, none⟩ = some (.int .i64 a) ∧ w3.cell? ⟨w1.heap.size, 1, none⟩ = some (.int .i64 b) ∧ w3.cell? ⟨w1.heap.size, 2, none⟩ = some (.int .i64 c')) ∧ w1.heap.size < w3.heap.size ∧ ¬ w3.heap.size = w1.heap.size ∧ SSl w3 A1 xs.length xs ∧ SSl w3 A2 xs.length xs) ?_ ?_
  · (focus ((repeat' (with_reducible apply And.intro)) <;> (repeat' (first | (with_reducible assumption) | (with_reducible refine below_chain hbc ?_) | (with_reducible refine below_al ?_ _) | (with_reducible refine below_dr ?_) | (with_reducible refine below_drewN' ?_ _) | ((with_reducible refine new_cell ?_ ?_); (focus (first | omega | (simp; done) | (simp; omega))); (focus rfl)) | (with_reducible refine keep_below hbc ?_ ?_) | (with_reducible refine keep_drewN ?_) | (with_reducible refine keep_drew ?_) | (with_reducible refine keep_alloc ?_) | (with_reducible refine lt_below hbc ?_) | (with_reducible refine ne_below hbc ?_) | (with_reducible refine SSl.keep ?_ hbc) | (with_reducible refine ssl_al ?_ _) | (with_reducible refine ssl_dr ?_) | (with_reducible refine ssl_drN ?_ _) | (with_reducible refine Code8.below hbc ?_ ?_) | (with_reducible refine Code8.alloc ?_ _) | (with_reducible refine Code8.drew ?_) | (with_reducible refine Code8.drewN ?_ _) | (with_reducible refine below_size hbc ?_) | (first | omega | (simp; done) | (simp; omega))))); done)
  clear hbc hB hZ hC qt_0 qt_1 qt_2 lt_t nt_t hI1 hI2
  rintro ⟨hB, hZ, hC, ⟨qt_0, qt_1, qt_2⟩, lt_t, nt_t, hI1, hI2⟩
  go_wp2_with fail
  (refine wp_region_beyond w3.heap.size (by kernel_rfl) (by kernel_rfl) (by go_size) (fun hBe => ?_); (repeat (first | go_big_quiet_step (first | (go_at_call 27; exact beyond_of (IsTriple_any _ _ _ _)) | (go_at_call 28; exact beyond_of (specIsTriple_any _ _ _ _))) | quiet_step (first | (go_at_call 27; exact beyond_of (IsTriple_any _ _ _ _)) | (go_at_call 28; exact beyond_of (specIsTriple_any _ _ _ _))))); refine wpQuiet_nil ?_; clear hBe; intro w4 hbc)
  refine gcut (p := Below w.heap.size w w4 ∧ w.heap.size ≤ w4.heap.size ∧ Code8 w.heap.size w4 A n ∧ (w4.cell? ⟨w1.heap.size, 0, none⟩ = some (.int .i64 a) ∧ w4.cell? ⟨w1.heap.size, 1, none⟩ = some (.int .i64 b) ∧ w4.cell? ⟨w1.heap.size, 2, none⟩ = some (.int .i64 c')) ∧ w1.heap.size < w4.heap.size ∧ ¬ w4.heap.size = w1.heap.size ∧ SSl w4 A1 xs.length xs ∧ SSl w4 A2 xs.length xs) ?_ ?_
  · (focus ((repeat' (with_reducible apply And.intro)) <;> (repeat' (first | (with_reducible assumption) | (with_reducible refine below_chain hbc ?_) | (with_reducible refine below_al ?_ _) | (with_reducible refine below_dr ?_) | (with_reducible refine below_drewN' ?_ _) | ((with_reducible refine new_cell ?_ ?_); (focus (first | omega | (simp; done) | (simp; omega))); (focus rfl)) | (with_reducible refine keep_below hbc ?_ ?_) | (with_reducible refine keep_drewN ?_) | (with_reducible refine keep_drew ?_) | (with_reducible refine keep_alloc ?_) | (with_reducible refine lt_below hbc ?_) | (with_reducible refine ne_below hbc ?_) | (with_reducible refine SSl.keep ?_ hbc) | (with_reducible refine ssl_al ?_ _) | (with_reducible refine ssl_dr ?_) | (with_reducible refine ssl_drN ?_ _) | (with_reducible refine Code8.below hbc ?_ ?_) | (with_reducible refine Code8.alloc ?_ _) | (with_reducible refine Code8.drew ?_) | (with_reducible refine Code8.drewN ?_ _) | (with_reducible refine below_size hbc ?_) | (first | omega | (simp; done) | (simp; omega))))); done)
  clear hbc hB hZ hC qt_0 qt_1 qt_2 lt_t nt_t hI1 hI2
  rintro ⟨hB, hZ, hC, ⟨qt_0, qt_1, qt_2⟩, lt_t, nt_t, hI1, hI2⟩
  go_wp2_with fail
  go_loopw [10] (fun o wr => ∃ i : Nat, o = .int .i64 i ∧ i ≤ xs.length ∧ Below w.heap.size w wr ∧ w.heap.size ≤ wr.heap.size ∧ Code8 w.heap.size wr A n ∧ (wr.cell? ⟨w1.heap.size, 0, none⟩ = some (.int .i64 a) ∧ wr.cell? ⟨w1.heap.size, 1, none⟩ = some (.int .i64 b) ∧ wr.cell? ⟨w1.heap.size, 2, none⟩ = some (.int .i64 c')) ∧ w1.heap.size < wr.heap.size ∧ ¬ wr.heap.size = w1.heap.size ∧ SSl wr A1 xs.length xs ∧ SSl wr A2 xs.length xs) (fun o _ => match o with | .int _ k => ((xs.length : Int) - k).toNat | _ => 0)
  case atStart => exact ⟨0, rfl, Nat.zero_le _, by (focus ((repeat' (with_reducible apply And.intro)) <;> (repeat' (first | (with_reducible assumption) | (with_reducible refine below_chain hbc ?_) | (with_reducible refine below_al ?_ _) | (with_reducible refine below_dr ?_) | (with_reducible refine below_drewN' ?_ _) | ((with_reducible refine new_cell ?_ ?_); (focus (first | omega | (simp; done) | (simp; omega))); (focus rfl)) | (with_reducible refine keep_below hbc ?_ ?_) | (with_reducible refine keep_drewN ?_) | (with_reducible refine keep_drew ?_) | (with_reducible refine keep_alloc ?_) | (with_reducible refine lt_below hbc ?_) | (with_reducible refine ne_below hbc ?_) | (with_reducible refine SSl.keep ?_ hbc) | (with_reducible refine ssl_al ?_ _) | (with_reducible refine ssl_dr ?_) | (with_reducible refine ssl_drN ?_ _) | (with_reducible refine Code8.below hbc ?_ ?_) | (with_reducible refine Code8.alloc ?_ _) | (with_reducible refine Code8.drew ?_) | (with_reducible refine Code8.drewN ?_ _) | (with_reducible refine below_size hbc ?_) | (first | omega | (simp; done) | (simp; omega))))); done)⟩
  case round =>
    clear hB hZ hC qt_0 qt_1 qt_2 lt_t nt_t hI1 hI2
    obtain ⟨i, rfl, hi, hB, hZ, hC, ⟨qt_0, qt_1, qt_2⟩, lt_t, nt_t, hI1, hI2⟩ := hrel
    by_cases hin : i < xs.length
    · obtain ⟨b1, o1, rfl, _, hr1⟩ := hI1.2 (by omega)
      obtain ⟨b2, o2, rfl, _, hr2⟩ := hI2.2 (by omega)
      obtain ⟨e0, e1, e2⟩ := hr1 i hin
      obtain ⟨f0, f1, f2⟩ := hr2 i hin
      obtain ⟨⟨x, y, zz⟩, hx⟩ : ∃ R, xs[i]?.getD (0, 0, 0) = R := ⟨_, rfl⟩
      rw [hx] at e0 e1 e2 f0 f1 f2
      have HQ1 := Lib.hid hr1
      have HQ2 := Lib.hid hr2
      have HJ1 := Lib.hid hI1
      have HJ2 := Lib.hid hI2
      clear hr1 hr2 hx hI1 hI2
      have hwi : wrap64 ((i : Int) + 1) = (i : Int) + 1 := by unfold wrap64; omega
      go_wp2
      go_quiet (fail)
      go_wp2
      have hI1 := HJ1.out
      have hI2 := HJ2.out
      exact ⟨⟨i + 1, rfl, by omega, by (focus ((repeat' (with_reducible apply And.intro)) <;> (repeat' (first | (with_reducible assumption) | (with_reducible refine below_chain hbc ?_) | (with_reducible refine below_al ?_ _) | (with_reducible refine below_dr ?_) | (with_reducible refine below_drewN' ?_ _) | ((with_reducible refine new_cell ?_ ?_); (focus (first | omega | (simp; done) | (simp; omega))); (focus rfl)) | (with_reducible refine keep_below hbc ?_ ?_) | (with_reducible refine keep_drewN ?_) | (with_reducible refine keep_drew ?_) | (with_reducible refine keep_alloc ?_) | (with_reducible refine lt_below hbc ?_) | (with_reducible refine ne_below hbc ?_) | (with_reducible refine SSl.keep ?_ hbc) | (with_reducible refine ssl_al ?_ _) | (with_reducible refine ssl_dr ?_) | (with_reducible refine ssl_drN ?_ _) | (with_reducible refine Code8.below hbc ?_ ?_) | (with_reducible refine Code8.alloc ?_ _) | (with_reducible refine Code8.drew ?_) | (with_reducible refine Code8.drewN ?_ _) | (with_reducible refine below_size hbc ?_) | (first | omega | (simp; done) | (simp; omega))))); done)⟩, by simp; omega⟩
    · obtain rfl : i = xs.length := by omega
      by_cases hrc : rc = 0
      · subst hrc
        obtain ⟨pp, qq, ss, hlast, ⟨hL0, hL1⟩, ht, ht1, hgg, he0, hlen, hmat⟩ := runs_pack HR.out
        obtain ⟨b1, o1, rfl, _, hr1⟩ := hI1.2 (by omega)
        obtain ⟨e0, e1, e2⟩ := hr1 (xs.length - 1) (by omega)
        rw [hlast] at e0 e1 e2
        have HLn := Lib.hid hlen
        have HMt := Lib.hid hmat
        clear hlen hmat hr1 hI1 hI2 hlast hi hin
        have hwl : wrap64 ((xs.length : Int) - 1) = (xs.length : Int) - 1 := by unfold wrap64; omega
        have hkl : xs.length - 1 < xs.length := by omega
        have hg1 := fun W => implGcdOfTriple_any a b c' W true ht
        have hg2 := fun W => implGcdOfTriple_any pp qq ss W true ht1
        rw [hgg] at hg2
        obtain ⟨G, hG⟩ : ∃ G, gcdG (gcdG a b) c' = G := ⟨_, rfl⟩
        rw [hG] at hg1 hg2
        simp only [↓reduceIte] at hg1 hg2
        have HG1 := Lib.hid hg1
        have HG2 := Lib.hid hg2
        clear hg1 hg2 hgg hG
        have hmi := fun W => implMat_any a b c' r m W
        obtain ⟨mc, hmc⟩ : ∃ R, (matR a b c' r m).2 = R := ⟨_, rfl⟩
        rw [hmc] at hmi
        try dsimp only at hmi
        have Hmi := Lib.hid hmi
        have Hmc := Lib.hid hmc
        clear hmi hmc
        have hmi := Hmi.out
        have hmt := HMt.out
        rw [Hmc.out] at hmt
        clear Hmi HMt
        obtain ⟨M, hM⟩ : ∃ M, (matR a b c' r m).1 = M := ⟨_, rfl⟩
        rw [hM] at hmi hmt
        have Hmi := Lib.hid hmi
        have HMt := Lib.hid hmt
        clear hmi hmt hM
        have hli := fun W => implLenRun_any a b c' r W
        obtain ⟨⟨lg, lc⟩, hlr⟩ : ∃ R, lenRun a b c' r = R := ⟨_, rfl⟩
        rw [hlr] at hli
        try dsimp only at hli
        have Hli := Lib.hid hli
        have Hlr := Lib.hid hlr
        clear hli hlr
        have hei := fun W => implHasEnded_any pp qq ss r W
        obtain ⟨⟨ed, ec⟩, her⟩ : ∃ R, endR pp qq ss r = R := ⟨_, rfl⟩
        rw [her] at hei
        try dsimp only at hei
        have Hei := Lib.hid hei
        have Her := Lib.hid her
        clear hei her
        have hln := HLn.out
        rw [Hlr.out, Her.out] at hln
        rw [Her.out] at he0
        dsimp only at hln he0
        subst he0
        clear HLn
        have HLn := Lib.hid hln
        clear hln hL1
        go_wp2_with fail
        with_reducible refine (HG1.out _).mono ?_
        rintro e w5 ⟨rfl, hbc⟩
        refine gcut (p := Below w.heap.size w w5 ∧ w.heap.size ≤ w5.heap.size ∧ Code8 w.heap.size w5 A n ∧ (w5.cell? ⟨w1.heap.size, 0, none⟩ = some (.int .i64 a) ∧ w5.cell? ⟨w1.heap.size, 1, none⟩ = some (.int .i64 b) ∧ w5.cell? ⟨w1.heap.size, 2, none⟩ = some (.int .i64 c')) ∧ w1.heap.size < w5.heap.size ∧ ¬ w5.heap.size = w1.heap.size ∧ (w5.cell? ⟨wr.heap.size, 0, none⟩ = some (.int .i64 pp) ∧ w5.cell? ⟨wr.heap.size, 1, none⟩ = some (.int .i64 qq) ∧ w5.cell? ⟨wr.heap.size, 2, none⟩ = some (.int .i64 ss)) ∧ wr.heap.size < w5.heap.size ∧ ¬ w5.heap.size = wr.heap.size) ?_ ?_
        · (focus ((repeat' (with_reducible apply And.intro)) <;> (repeat' (first | (with_reducible assumption) | (with_reducible refine below_chain hbc ?_) | (with_reducible refine below_al ?_ _) | (with_reducible refine below_dr ?_) | (with_reducible refine below_drewN' ?_ _) | ((with_reducible refine new_cell ?_ ?_); (focus (first | omega | (simp; done) | (simp; omega))); (focus rfl)) | (with_reducible refine keep_below hbc ?_ ?_) | (with_reducible refine keep_drewN ?_) | (with_reducible refine keep_drew ?_) | (with_reducible refine keep_alloc ?_) | (with_reducible refine lt_below hbc ?_) | (with_reducible refine ne_below hbc ?_) | (with_reducible refine SSl.keep ?_ hbc) | (with_reducible refine ssl_al ?_ _) | (with_reducible refine ssl_dr ?_) | (with_reducible refine ssl_drN ?_ _) | (with_reducible refine Code8.below hbc ?_ ?_) | (with_reducible refine Code8.alloc ?_ _) | (with_reducible refine Code8.drew ?_) | (with_reducible refine Code8.drewN ?_ _) | (with_reducible refine below_size hbc ?_) | (first | omega | (simp; done) | (simp; omega))))); done)
        clear hbc hB hZ hC qt_0 qt_1 qt_2 lt_t nt_t
        rintro ⟨hB, hZ, hC, ⟨qt_0, qt_1, qt_2⟩, lt_t, nt_t, ⟨qu_0, qu_1, qu_2⟩, lt_u, nt_u⟩
        go_wp2_with fail
        with_reducible refine (HG2.out _).mono ?_
        rintro e w6 ⟨rfl, hbc⟩
        refine gcut (p := Below w.heap.size w w6 ∧ w.heap.size ≤ w6.heap.size ∧ Code8 w.heap.size w6 A n ∧ (w6.cell? ⟨w1.heap.size, 0, none⟩ = some (.int .i64 a) ∧ w6.cell? ⟨w1.heap.size, 1, none⟩ = some (.int .i64 b) ∧ w6.cell? ⟨w1.heap.size, 2, none⟩ = some (.int .i64 c')) ∧ w1.heap.size < w6.heap.size ∧ ¬ w6.heap.size = w1.heap.size ∧ (w6.cell? ⟨wr.heap.size, 0, none⟩ = some (.int .i64 pp) ∧ w6.cell? ⟨wr.heap.size, 1, none⟩ = some (.int .i64 qq) ∧ w6.cell? ⟨wr.heap.size, 2, none⟩ = some (.int .i64 ss)) ∧ wr.heap.size < w6.heap.size ∧ ¬ w6.heap.size = wr.heap.size) ?_ ?_
        · (focus ((repeat' (with_reducible apply And.intro)) <;> (repeat' (first | (with_reducible assumption) | (with_reducible refine below_chain hbc ?_) | (with_reducible refine below_al ?_ _) | (with_reducible refine below_dr ?_) | (with_reducible refine below_drewN' ?_ _) | ((with_reducible refine new_cell ?_ ?_); (focus (first | omega | (simp; done) | (simp; omega))); (focus rfl)) | (with_reducible refine keep_below hbc ?_ ?_) | (with_reducible refine keep_drewN ?_) | (with_reducible refine keep_drew ?_) | (with_reducible refine keep_alloc ?_) | (with_reducible refine lt_below hbc ?_) | (with_reducible refine ne_below hbc ?_) | (with_reducible refine SSl.keep ?_ hbc) | (with_reducible refine ssl_al ?_ _) | (with_reducible refine ssl_dr ?_) | (with_reducible refine ssl_drN ?_ _) | (with_reducible refine Code8.below hbc ?_ ?_) | (with_reducible refine Code8.alloc ?_ _) | (with_reducible refine Code8.drew ?_) | (with_reducible refine Code8.drewN ?_ _) | (with_reducible refine below_size hbc ?_) | (first | omega | (simp; done) | (simp; omega))))); done)
        clear hbc hB hZ hC qt_0 qt_1 qt_2 lt_t nt_t qu_0 qu_1 qu_2 lt_u nt_u
        rintro ⟨hB, hZ, hC, ⟨qt_0, qt_1, qt_2⟩, lt_t, nt_t, ⟨qu_0, qu_1, qu_2⟩, lt_u, nt_u⟩
        go_wp2_with fail
        with_reducible refine (Hmi.out _).mono ?_
        rintro e w7 ⟨rfl, hbc⟩
        refine gcut (p := Below w.heap.size w w7 ∧ w.heap.size ≤ w7.heap.size ∧ Code8 w.heap.size w7 A n ∧ (w7.cell? ⟨w1.heap.size, 0, none⟩ = some (.int .i64 a) ∧ w7.cell? ⟨w1.heap.size, 1, none⟩ = some (.int .i64 b) ∧ w7.cell? ⟨w1.heap.size, 2, none⟩ = some (.int .i64 c')) ∧ w1.heap.size < w7.heap.size ∧ ¬ w7.heap.size = w1.heap.size ∧ (w7.cell? ⟨wr.heap.size, 0, none⟩ = some (.int .i64 pp) ∧ w7.cell? ⟨wr.heap.size, 1, none⟩ = some (.int .i64 qq) ∧ w7.cell? ⟨wr.heap.size, 2, none⟩ = some (.int .i64 ss)) ∧ wr.heap.size < w7.heap.size ∧ ¬ w7.heap.size = wr.heap.size) ?_ ?_
        · (focus ((repeat' (with_reducible apply And.intro)) <;> (repeat' (first | (with_reducible assumption) | (with_reducible refine below_chain hbc ?_) | (with_reducible refine below_al ?_ _) | (with_reducible refine below_dr ?_) | (with_reducible refine below_drewN' ?_ _) | ((with_reducible refine new_cell ?_ ?_); (focus (first | omega | (simp; done) | (simp; omega))); (focus rfl)) | (with_reducible refine keep_below hbc ?_ ?_) | (with_reducible refine keep_drewN ?_) | (with_reducible refine keep_drew ?_) | (with_reducible refine keep_alloc ?_) | (with_reducible refine lt_below hbc ?_) | (with_reducible refine ne_below hbc ?_) | (with_reducible refine SSl.keep ?_ hbc) | (with_reducible refine ssl_al ?_ _) | (with_reducible refine ssl_dr ?_) | (with_reducible refine ssl_drN ?_ _) | (with_reducible refine Code8.below hbc ?_ ?_) | (with_reducible refine Code8.alloc ?_ _) | (with_reducible refine Code8.drew ?_) | (with_reducible refine Code8.drewN ?_ _) | (with_reducible refine below_size hbc ?_) | (first | omega | (simp; done) | (simp; omega))))); done)
        clear hbc hB hZ hC qt_0 qt_1 qt_2 lt_t nt_t qu_0 qu_1 qu_2 lt_u nt_u
        rintro ⟨hB, hZ, hC, ⟨qt_0, qt_1, qt_2⟩, lt_t, nt_t, ⟨qu_0, qu_1, qu_2⟩, lt_u, nt_u⟩
        by_cases hmc : mc = 0
        · subst hmc
          have hap := HMt.out rfl
          have hai := fun W => implApp_any (M 0) (M 1) (M 2) (M 3) (M 4) (M 5) (M 6) (M 7) (M 8) pp qq ss W
          rw [hap] at hai
          dsimp only at hai
          have HAI := Lib.hid hai
          clear hap hai
          go_wp2_with fail
          with_reducible refine (HAI.out _).mono ?_
          rintro e w8 ⟨rfl, hbc⟩
          refine gcut (p := Below w.heap.size w w8 ∧ w.heap.size ≤ w8.heap.size ∧ Code8 w.heap.size w8 A n ∧ (w8.cell? ⟨w1.heap.size, 0, none⟩ = some (.int .i64 a) ∧ w8.cell? ⟨w1.heap.size, 1, none⟩ = some (.int .i64 b) ∧ w8.cell? ⟨w1.heap.size, 2, none⟩ = some (.int .i64 c')) ∧ w1.heap.size < w8.heap.size ∧ ¬ w8.heap.size = w1.heap.size ∧ (w8.cell? ⟨wr.heap.size, 0, none⟩ = some (.int .i64 pp) ∧ w8.cell? ⟨wr.heap.size, 1, none⟩ = some (.int .i64 qq) ∧ w8.cell? ⟨wr.heap.size, 2, none⟩ = some (.int .i64 ss)) ∧ wr.heap.size < w8.heap.size ∧ ¬ w8.heap.size = wr.heap.size ∧ (w8.cell? ⟨w7.heap.size, 0, none⟩ = some (.int .i64 (M 0)) ∧ w8.cell? ⟨w7.heap.size, 1, none⟩ = some (.int .i64 (M 1)) ∧ w8.cell? ⟨w7.heap.size, 2, none⟩ = some (.int .i64 (M 2)) ∧ w8.cell? ⟨w7.heap.size, 3, none⟩ = some (.int .i64 (M 3)) ∧ w8.cell? ⟨w7.heap.size, 4, none⟩ = some (.int .i64 (M 4)) ∧ w8.cell? ⟨w7.heap.size, 5, none⟩ = some (.int .i64 (M 5)) ∧ w8.cell? ⟨w7.heap.size, 6, none⟩ = some (.int .i64 (M 6)) ∧ w8.cell? ⟨w7.heap.size, 7, none⟩ = some (.int .i64 (M 7)) ∧ w8.cell? ⟨w7.heap.size, 8, none⟩ = some (.int .i64 (M 8))) ∧ w7.heap.size < w8.heap.size ∧ ¬ w8.heap.size = w7.heap.size) ?_ ?_
          · (focus ((repeat' (with_reducible apply And.intro)) <;> (repeat' (first | (with_reducible assumption) | (with_reducible refine below_chain hbc ?_) | (with_reducible refine below_al ?_ _) | (with_reducible refine below_dr ?_) | (with_reducible refine below_drewN' ?_ _) | ((with_reducible refine new_cell ?_ ?_); (focus (first | omega | (simp; done) | (simp; omega))); (focus rfl)) | (with_reducible refine keep_below hbc ?_ ?_) | (with_reducible refine keep_drewN ?_) | (with_reducible refine keep_drew ?_) | (with_reducible refine keep_alloc ?_) | (with_reducible refine lt_below hbc ?_) | (with_reducible refine ne_below hbc ?_) | (with_reducible refine SSl.keep ?_ hbc) | (with_reducible refine ssl_al ?_ _) | (with_reducible refine ssl_dr ?_) | (with_reducible refine ssl_drN ?_ _) | (with_reducible refine Code8.below hbc ?_ ?_) | (with_reducible refine Code8.alloc ?_ _) | (with_reducible refine Code8.drew ?_) | (with_reducible refine Code8.drewN ?_ _) | (with_reducible refine below_size hbc ?_) | (first | omega | (simp; done) | (simp; omega))))); done)
          clear hbc hB hZ hC qt_0 qt_1 qt_2 lt_t nt_t qu_0 qu_1 qu_2 lt_u nt_u
          rintro ⟨hB, hZ, hC, ⟨qt_0, qt_1, qt_2⟩, lt_t, nt_t, ⟨qu_0, qu_1, qu_2⟩, lt_u, nt_u, ⟨qm_0, qm_1, qm_2, qm_3, qm_4, qm_5, qm_6, qm_7, qm_8⟩, lt_m, nt_m⟩
          clear qm_0 qm_1 qm_2 qm_3 qm_4 qm_5 qm_6 qm_7 qm_8 lt_m nt_m
          go_wp2_with fail
          with_reducible refine (Hli.out _).mono ?_
          rintro e w9 ⟨rfl, hbc⟩
          refine gcut (p := Below w.heap.size w w9 ∧ w.heap.size ≤ w9.heap.size ∧ Code8 w.heap.size w9 A n ∧ (w9.cell? ⟨w1.heap.size, 0, none⟩ = some (.int .i64 a) ∧ w9.cell? ⟨w1.heap.size, 1, none⟩ = some (.int .i64 b) ∧ w9.cell? ⟨w1.heap.size, 2, none⟩ = some (.int .i64 c')) ∧ w1.heap.size < w9.heap.size ∧ ¬ w9.heap.size = w1.heap.size ∧ (w9.cell? ⟨wr.heap.size, 0, none⟩ = some (.int .i64 pp) ∧ w9.cell? ⟨wr.heap.size, 1, none⟩ = some (.int .i64 qq) ∧ w9.cell? ⟨wr.heap.size, 2, none⟩ = some (.int .i64 ss)) ∧ wr.heap.size < w9.heap.size ∧ ¬ w9.heap.size = wr.heap.size) ?_ ?_
          · (focus ((repeat' (with_reducible apply And.intro)) <;> (repeat' (first | (with_reducible assumption) | (with_reducible refine below_chain hbc ?_) | (with_reducible refine below_al ?_ _) | (with_reducible refine below_dr ?_) | (with_reducible refine below_drewN' ?_ _) | ((with_reducible refine new_cell ?_ ?_); (focus (first | omega | (simp; done) | (simp; omega))); (focus rfl)) | (with_reducible refine keep_below hbc ?_ ?_) | (with_reducible refine keep_drewN ?_) | (with_reducible refine keep_drew ?_) | (with_reducible refine keep_alloc ?_) | (with_reducible refine lt_below hbc ?_) | (with_reducible refine ne_below hbc ?_) | (with_reducible refine SSl.keep ?_ hbc) | (with_reducible refine ssl_al ?_ _) | (with_reducible refine ssl_dr ?_) | (with_reducible refine ssl_drN ?_ _) | (with_reducible refine Code8.below hbc ?_ ?_) | (with_reducible refine Code8.alloc ?_ _) | (with_reducible refine Code8.drew ?_) | (with_reducible refine Code8.drewN ?_ _) | (with_reducible refine below_size hbc ?_) | (first | omega | (simp; done) | (simp; omega))))); done)
          clear hbc hB hZ hC qt_0 qt_1 qt_2 lt_t nt_t qu_0 qu_1 qu_2 lt_u nt_u
          rintro ⟨hB, hZ, hC, ⟨qt_0, qt_1, qt_2⟩, lt_t, nt_t, ⟨qu_0, qu_1, qu_2⟩, lt_u, nt_u⟩
          go_wp2_with fail
          with_reducible refine (Hei.out _).mono ?_
          rintro e wa ⟨rfl, hbc⟩
          refine gcut (p := Below w.heap.size w wa ∧ w.heap.size ≤ wa.heap.size ∧ Code8 w.heap.size wa A n ∧ (wa.cell? ⟨w1.heap.size, 0, none⟩ = some (.int .i64 a) ∧ wa.cell? ⟨w1.heap.size, 1, none⟩ = some (.int .i64 b) ∧ wa.cell? ⟨w1.heap.size, 2, none⟩ = some (.int .i64 c')) ∧ w1.heap.size < wa.heap.size ∧ ¬ wa.heap.size = w1.heap.size ∧ (wa.cell? ⟨wr.heap.size, 0, none⟩ = some (.int .i64 pp) ∧ wa.cell? ⟨wr.heap.size, 1, none⟩ = some (.int .i64 qq) ∧ wa.cell? ⟨wr.heap.size, 2, none⟩ = some (.int .i64 ss)) ∧ wr.heap.size < wa.heap.size ∧ ¬ wa.heap.size = wr.heap.size) ?_ ?_
          · (focus ((repeat' (with_reducible apply And.intro)) <;> (repeat' (first | (with_reducible assumption) | (with_reducible refine below_chain hbc ?_) | (with_reducible refine below_al ?_ _) | (with_reducible refine below_dr ?_) | (with_reducible refine below_drewN' ?_ _) | ((with_reducible refine new_cell ?_ ?_); (focus (first | omega | (simp; done) | (simp; omega))); (focus rfl)) | (with_reducible refine keep_below hbc ?_ ?_) | (with_reducible refine keep_drewN ?_) | (with_reducible refine keep_drew ?_) | (with_reducible refine keep_alloc ?_) | (with_reducible refine lt_below hbc ?_) | (with_reducible refine ne_below hbc ?_) | (with_reducible refine SSl.keep ?_ hbc) | (with_reducible refine ssl_al ?_ _) | (with_reducible refine ssl_dr ?_) | (with_reducible refine ssl_drN ?_ _) | (with_reducible refine Code8.below hbc ?_ ?_) | (with_reducible refine Code8.alloc ?_ _) | (with_reducible refine Code8.drew ?_) | (with_reducible refine Code8.drewN ?_ _) | (with_reducible refine below_size hbc ?_) | (first | omega | (simp; done) | (simp; omega))))); done)
          clear hbc hB hZ hC qt_0 qt_1 qt_2 lt_t nt_t qu_0 qu_1 qu_2 lt_u nt_u
          rintro ⟨hB, hZ, hC, ⟨qt_0, qt_1, qt_2⟩, lt_t, nt_t, ⟨qu_0, qu_1, qu_2⟩, lt_u, nt_u⟩
          by_cases hlc : lc = 0
          · obtain ⟨rfl, hlt⟩ := HLn.out hlc
            subst hlc
            go_upto_region 28 with fail
            refine FnRunsB A n c w _ _ _ _ _ _ _ _ _ _ _ _ _ _ _ _ _ _ _ _ _ _ _ _ _ _ _ _ _ _ _ _ _ _ _ _ _ _ _ _ _ _ _ _ _ _ _ _ _ _ _ _ _ _ _ _ _ _ _ _ _ _ _ _ _ _ _ _ _ _ _ _ _ _ _ _ _ _ _ _ _ _ _ _ _ _ _ _ _ _ _ _ _ _ _ _ _ _ _ _ _ _ _ _ _ _ _ _ _ _ _ _ _ _ _ _ _ _ _ _ _ _ _ _ _ _ _ _ _ _ _ _ _ _ _ _ _ _ _ _ _ _ _ _ _ _ _ _ _ _ _ _ _ _ _ _ _ _ _ _ _ _ _ _ _ _ _ _ _ _ _ _ _ _ _ _ _ _ _ _ _ _ _ _ _ _ _ _ _ _ _ _ _ _ _ _ _ _ _ _ _ _ _ _ _ _ _ _ _ _ _ _ _ _ _ _ _ _ _ _ _ _ _ _ _ _ _ _ _ _ _ _ _ _ _ _ _ _ _ _ _ _ _ _ _ _ _ _ _ _ _ _ _ _ _ _ _ _ _ _ _ _ _ _ _ _ _ _ _ _ _ _ _ _ _ _ _ _ _ _ _ _ _ _ _ _ _ _ _ _ _ _ _ _ _ _ _ _ _ _ _ _ _ _ _ _ _ _ _ _ _ _ _ _ _ _ _ _ _ _ _ _ _ _ _ _ _ _ _ _ _ _ _ _ _ _ _ _ _ _ _ _ _ _ _ _ _ _ _ _ _ _ _ _ _ _ _ _ _ _ hB hZ hC ?_
            assumption
          · have hlz : (lc == 0) = false := by simpa using hlc
            go_upto_region 28 with fail
            refine FnRunsB A n c w _ _ _ _ _ _ _ _ _ _ _ _ _ _ _ _ _ _ _ _ _ _ _ _ _ _ _ _ _ _ _ _ _ _ _ _ _ _ _ _ _ _ _ _ _ _ _ _ _ _ _ _ _ _ _ _ _ _ _ _ _ _ _ _ _ _ _ _ _ _ _ _ _ _ _ _ _ _ _ _ _ _ _ _ _ _ _ _ _ _ _ _ _ _ _ _ _ _ _ _ _ _ _ _ _ _ _ _ _ _ _ _ _ _ _ _ _ _ _ _ _ _ _ _ _ _ _ _ _ _ _ _ _ _ _ _ _ _ _ _ _ _ _ _ _ _ _ _ _ _ _ _ _ _ _ _ _ _ _ _ _ _ _ _ _ _ _ _ _ _ _ _ _ _ _ _ _ _ _ _ _ _ _ _ _ _ _ _ _ _ _ _ _ _ _ _ _ _ _ _ _ _ _ _ _ _ _ _ _ _ _ _ _ _ _ _ _ _ _ _ _ _ _ _ _ _ _ _ _ _ _ _ _ _ _ _ _ _ _ _ _ _ _ _ _ _ _ _ _ _ _ _ _ _ _ _ _ _ _ _ _ _ _ _ _ _ _ _ _ _ _ _ _ _ _ _ _ _ _ _ _ _ _ _ _ _ _ _ _ _ _ _ _ _ _ _ _ _ _ _ _ _ _ _ _ _ _ _ _ _ _ _ _ _ _ _ _ _ _ _ _ _ _ _ _ _ _ _ _ _ _ _ _ _ _ _ _ _ _ _ _ _ _ _ _ _ _ _ _ _ _ _ _ _ _ _ _ _ _ _ hB hZ hC ?_
            assumption
        · have hmz : (mc == 0) = false := by simpa using hmc
          go_wp2_with fail
          with_reducible refine (Hli.out _).mono ?_
          rintro e w9 ⟨rfl, hbc⟩
          refine gcut (p := Below w.heap.size w w9 ∧ w.heap.size ≤ w9.heap.size ∧ Code8 w.heap.size w9 A n ∧ (w9.cell? ⟨w1.heap.size, 0, none⟩ = some (.int .i64 a) ∧ w9.cell? ⟨w1.heap.size, 1, none⟩ = some (.int .i64 b) ∧ w9.cell? ⟨w1.heap.size, 2, none⟩ = some (.int .i64 c')) ∧ w1.heap.size < w9.heap.size ∧ ¬ w9.heap.size = w1.heap.size ∧ (w9.cell? ⟨wr.heap.size, 0, none⟩ = some (.int .i64 pp) ∧ w9.cell? ⟨wr.heap.size, 1, none⟩ = some (.int .i64 qq) ∧ w9.cell? ⟨wr.heap.size, 2, none⟩ = some (.int .i64 ss)) ∧ wr.heap.size < w9.heap.size ∧ ¬ w9.heap.size = wr.heap.size) ?_ ?_
          · (focus ((repeat' (with_reducible apply And.intro)) <;> (repeat' (first | (with_reducible assumption) | (with_reducible refine below_chain hbc ?_) | (with_reducible refine below_al ?_ _) | (with_reducible refine below_dr ?_) | (with_reducible refine below_drewN' ?_ _) | ((with_reducible refine new_cell ?_ ?_); (focus (first | omega | (simp; done) | (simp; omega))); (focus rfl)) | (with_reducible refine keep_below hbc ?_ ?_) | (with_reducible refine keep_drewN ?_) | (with_reducible refine keep_drew ?_) | (with_reducible refine keep_alloc ?_) | (with_reducible refine lt_below hbc ?_) | (with_reducible refine ne_below hbc ?_) | (with_reducible refine SSl.keep ?_ hbc) | (with_reducible refine ssl_al ?_ _) | (with_reducible refine ssl_dr ?_) | (with_reducible refine ssl_drN ?_ _) | (with_reducible refine Code8.below hbc ?_ ?_) | (with_reducible refine Code8.alloc ?_ _) | (with_reducible refine Code8.drew ?_) | (with_reducible refine Code8.drewN ?_ _) | (with_reducible refine below_size hbc ?_) | (first | omega | (simp; done) | (simp; omega))))); done)
          clear hbc hB hZ hC qt_0 qt_1 qt_2 lt_t nt_t qu_0 qu_1 qu_2 lt_u nt_u
          rintro ⟨hB, hZ, hC, ⟨qt_0, qt_1, qt_2⟩, lt_t, nt_t, ⟨qu_0, qu_1, qu_2⟩, lt_u, nt_u⟩
          go_wp2_with fail
          with_reducible refine (Hei.out _).mono ?_
          rintro e wa ⟨rfl, hbc⟩
          refine gcut (p := Below w.heap.size w wa ∧ w.heap.size ≤ wa.heap.size ∧ Code8 w.heap.size wa A n ∧ (wa.cell? ⟨w1.heap.size, 0, none⟩ = some (.int .i64 a) ∧ wa.cell? ⟨w1.heap.size, 1, none⟩ = some (.int .i64 b) ∧ wa.cell? ⟨w1.heap.size, 2, none⟩ = some (.int .i64 c')) ∧ w1.heap.size < wa.heap.size ∧ ¬ wa.heap.size = w1.heap.size ∧ (wa.cell? ⟨wr.heap.size, 0, none⟩ = some (.int .i64 pp) ∧ wa.cell? ⟨wr.heap.size, 1, none⟩ = some (.int .i64 qq) ∧ wa.cell? ⟨wr.heap.size, 2, none⟩ = some (.int .i64 ss)) ∧ wr.heap.size < wa.heap.size ∧ ¬ wa.heap.size = wr.heap.size) ?_ ?_
          · (focus ((repeat' (with_reducible apply And.intro)) <;> (repeat' (first | (with_reducible assumption) | (with_reducible refine below_chain hbc ?_) | (with_reducible refine below_al ?_ _) | (with_reducible refine below_dr ?_) | (with_reducible refine below_drewN' ?_ _) | ((with_reducible refine new_cell ?_ ?_); (focus (first | omega | (simp; done) | (simp; omega))); (focus rfl)) | (with_reducible refine keep_below hbc ?_ ?_) | (with_reducible refine keep_drewN ?_) | (with_reducible refine keep_drew ?_) | (with_reducible refine keep_alloc ?_) | (with_reducible refine lt_below hbc ?_) | (with_reducible refine ne_below hbc ?_) | (with_reducible refine SSl.keep ?_ hbc) | (with_reducible refine ssl_al ?_ _) | (with_reducible refine ssl_dr ?_) | (with_reducible refine ssl_drN ?_ _) | (with_reducible refine Code8.below hbc ?_ ?_) | (with_reducible refine Code8.alloc ?_ _) | (with_reducible refine Code8.drew ?_) | (with_reducible refine Code8.drewN ?_ _) | (with_reducible refine below_size hbc ?_) | (first | omega | (simp; done) | (simp; omega))))); done)
          clear hbc hB hZ hC qt_0 qt_1 qt_2 lt_t nt_t qu_0 qu_1 qu_2 lt_u nt_u
          rintro ⟨hB, hZ, hC, ⟨qt_0, qt_1, qt_2⟩, lt_t, nt_t, ⟨qu_0, qu_1, qu_2⟩, lt_u, nt_u⟩
          by_cases hlc : lc = 0
          · obtain ⟨rfl, hlt⟩ := HLn.out hlc
            subst hlc
            go_upto_region 28 with fail
            refine FnRunsB A n c w _ _ _ _ _ _ _ _ _ _ _ _ _ _ _ _ _ _ _ _ _ _ _ _ _ _ _ _ _ _ _ _ _ _ _ _ _ _ _ _ _ _ _ _ _ _ _ _ _ _ _ _ _ _ _ _ _ _ _ _ _ _ _ _ _ _ _ _ _ _ _ _ _ _ _ _ _ _ _ _ _ _ _ _ _ _ _ _ _ _ _ _ _ _ _ _ _ _ _ _ _ _ _ _ _ _ _ _ _ _ _ _ _ _ _ _ _ _ _ _ _ _ _ _ _ _ _ _ _ _ _ _ _ _ _ _ _ _ _ _ _ _ _ _ _ _ _ _ _ _ _ _ _ _ _ _ _ _ _ _ _ _ _ _ _ _ _ _ _ _ _ _ _ _ _ _ _ _ _ _ _ _ _ _ _ _ _ _ _ _ _ _ _ _ _ _ _ _ _ _ _ _ _ _ _ _ _ _ _ _ _ _ _ _ _ _ _ _ _ _ _ _ _ _ _ _ _ _ _ _ _ _ _ _ _ _ _ _ _ _ _ _ _ _ _ _ _ _ _ _ _ _ _ _ _ _ _ _ _ _ _ _ _ _ _ _ _ _ _ _ _ _ _ _ _ _ _ _ _ _ _ _ _ _ _ _ _ _ _ _ _ _ _ _ _ _ _ _ _ _ _ _ _ _ _ _ _ _ _ _ _ _ _ _ _ _ _ _ _ _ _ _ _ _ _ _ _ _ _ _ _ _ _ _ _ _ _ _ _ _ _ _ _ _ _ _ _ _ _ _ _ _ _ _ _ _ _ _ _ _ hB hZ hC ?_
            assumption
          · have hlz : (lc == 0) = false := by simpa using hlc
            go_upto_region 28 with fail
            refine FnRunsB A n c w _ _ _ _ _ _ _ _ _ _ _ _ _ _ _ _ _ _ _ _ _ _ _ _ _ _ _ _ _ _ _ _ _ _ _ _ _ _ _ _ _ _ _ _ _ _ _ _ _ _ _ _ _ _ _ _ _ _ _ _ _ _ _ _ _ _ _ _ _ _ _ _ _ _ _ _ _ _ _ _ _ _ _ _ _ _ _ _ _ _ _ _ _ _ _ _ _ _ _ _ _ _ _ _ _ _ _ _ _ _ _ _ _ _ _ _ _ _ _ _ _ _ _ _ _ _ _ _ _ _ _ _ _ _ _ _ _ _ _ _ _ _ _ _ _ _ _ _ _ _ _ _ _ _ _ _ _ _ _ _ _ _ _ _ _ _ _ _ _ _ _ _ _ _ _ _ _ _ _ _ _ _ _ _ _ _ _ _ _ _ _ _ _ _ _ _ _ _ _ _ _ _ _ _ _ _ _ _ _ _ _ _ _ _ _ _ _ _ _ _ _ _ _ _ _ _ _ _ _ _ _ _ _ _ _ _ _ _ _ _ _ _ _ _ _ _ _ _ _ _ _ _ _ _ _ _ _ _ _ _ _ _ _ _ _ _ _ _ _ _ _ _ _ _ _ _ _ _ _ _ _ _ _ _ _ _ _ _ _ _ _ _ _ _ _ _ _ _ _ _ _ _ _ _ _ _ _ _ _ _ _ _ _ _ _ _ _ _ _ _ _ _ _ _ _ _ _ _ _ _ _ _ _ _ _ _ _ _ _ _ _ _ _ _ _ _ _ _ _ _ _ _ _ _ _ _ _ _ _ _ hB hZ hC ?_
            assumption
      · have hrz : (rc == 0) = false := by simpa using hrc
        go_upto_region 28 with fail
        refine FnRunsB A n c w _ _ _ _ _ _ _ _ _ _ _ _ _ _ _ _ _ _ _ _ _ _ _ _ _ _ _ _ _ _ _ _ _ _ _ _ _ _ _ _ _ _ _ _ _ _ _ _ _ _ _ _ _ _ _ _ _ _ _ _ _ _ _ _ _ _ _ _ _ _ _ _ _ _ _ _ _ _ _ _ _ _ _ _ _ _ _ _ _ _ _ _ _ _ _ _ _ _ _ _ _ _ _ _ _ _ _ _ _ _ _ _ _ _ _ _ _ _ _ _ _ _ _ _ _ _ _ _ _ _ _ _ _ _ _ _ _ _ _ _ _ _ _ _ _ _ _ _ _ _ _ _ _ _ _ _ _ _ _ _ _ _ _ _ _ _ _ _ _ _ _ _ _ _ _ _ _ _ _ _ _ _ _ _ _ _ _ _ _ _ _ _ _ _ _ _ _ _ _ _ _ _ _ _ _ _ _ _ _ _ _ _ _ _ _ _ _ _ _ _ _ _ _ _ _ _ _ _ _ _ _ _ _ _ _ _ _ _ _ _ _ _ _ _ _ _ _ _ _ _ _ _ _ _ _ _ _ _ _ _ _ _ _ _ _ _ _ _ _ _ _ _ _ _ _ _ _ _ _ _ _ _ _ _ _ _ _ _ _ _ _ _ _ _ _ _ _ _ _ _ _ _ _ _ _ _ _ _ _ _ _ _ _ _ _ _ _ _ _ _ _ _ _ _ _ _ _ _ _ _ _ _ _ _ _ _ _ _ _ _ _ _ _ _ _ _ _ _ _ _ _ _ _ _ _ _ _ _ _ _ hB hZ hC ?_
        assumption
end Go.Proofs.Ytdenfmgmapgpiaa
